/- Texts laid into one, without what the claim does not use. Conditions: none. -/
import Derived.Test.YtkookaogdkdegacGreatDoorMCoE
/-! SfI -/
section
namespace Go.HL
open Go Go.Proofs
set_option linter.unusedVariables false
set_option linter.unusedSimpArgs false
/-- what a statement's input names -/
structure StpS where
  kd : List UInt8
  s : Int
  d : Int
  n : Int
def stpL (x : StpS) : List Value := [bs x.kd, iv x.s, iv x.d, iv x.n]
def actW (M : Wm) (x : StpS) : Wm × Option Nat :=
  if x.kd = [98, 101, 103, 105, 110] then beginW M x.s x.d else
  if x.kd = [114, 101, 102, 117, 115, 101] then refuseW M x.s x.d else
  if x.kd = [116, 105, 99, 107] then tickW M x.s else
  if x.kd = [100, 111, 119, 110] then downW M x.s else
  if x.kd = [117, 112] then upW M x.s else
  if x.kd = [100, 114, 111, 112] then dropW M x.n else
  if x.kd = [116, 119, 105, 99, 101] then twiceW M x.n else
  if x.kd = [108, 105, 110, 107] then linkW M x.s x.d true else
  if x.kd = [98, 114, 101, 97, 107] then linkW M x.s x.d false else
  if x.kd = [99, 117, 116] then cutW M x.s x.n else deliverW M x.n
theorem act_ok {M : Wm} (h : WI M) (x : StpS) (hn : x.n ≤ 9223372036854775807) : StepOk M (actW M x).1 84 := by
  unfold actW
  split
  · exact (begin_ok h _ _).mono (by omega)
  split
  · exact (refuse_ok h _ _).mono (by omega)
  split
  · exact (tick_ok h _).mono (by omega)
  split
  · exact (down_ok h _).mono (by omega)
  split
  · exact (up_ok h _).mono (by omega)
  split
  · exact (drop_ok h _).mono (by omega)
  split
  · exact (twice_ok h _).mono (by omega)
  split
  · exact (link_ok h _ _ _).mono (by omega)
  split
  · exact (link_ok h _ _ _).mono (by omega)
  split
  · exact (cut_ok h _ _ hn).mono (by omega)
  · exact (deliver_ok h _).mono (by omega)
theorem safe_act {M : Wm} (hI : WI M) (h : SafeW M) (x : StpS) (hn : x.n ≤ 9223372036854775807) : SafeW (actW M x).1 := by
  unfold actW
  split
  · exact safe_begin hI h _ _
  split
  · exact safe_refuse hI h _ _
  split
  · exact safe_tick hI h _
  split
  · exact safe_down hI h _
  split
  · exact safe_up hI h _
  split
  · exact safe_drop hI h _
  split
  · exact safe_twice hI h _
  split
  · exact safe_link hI h _ _ _
  split
  · exact safe_link hI h _ _ _
  split
  · exact safe_cut hI h _ _ hn
  · exact safe_deliver hI h _
theorem ev_act {M : Wm} (hI : WI M) (h : EvW M) (x : StpS) : EvW (actW M x).1 := by
  have hl : ∀ a b c, EvW (linkW M a b c).1 := fun a b c => by
    unfold linkW
    split
    · exact h
    · exact ⟨h.pw, h.rg, h.dn⟩
  unfold actW
  split
  · unfold beginW
    split
    · exact h
    rename_i hb
    split
    · exact h
    split
    · exact h
    exact h.lead (s := x.s) (by omega) (by omega) _ _
  split
  · unfold refuseW
    split
    · exact h
    split
    · exact h
    rename_i hu
    obtain ⟨h0, h1, -⟩ := up_site hu
    exact h.set h0 h1 (by unfold refuseN; split <;> rfl)
  split
  · exact ev_tick hI h _
  split
  · unfold downW
    split
    · exact h
    rename_i hu
    obtain ⟨h0, h1, -⟩ := up_site hu
    exact h.set h0 h1 rfl
  split
  · unfold upW
    split
    · exact h
    split
    · exact h
    rename_i hu _
    obtain ⟨h0, h1⟩ := nodeE_none hu
    exact h.note hI h0 h1 rfl rfl
  split
  · unfold dropW; split
    · exact h
    · exact h.setL _
  split
  · unfold twiceW; split
    · exact h
    · exact h.setL _
  split
  · exact hl _ _ _
  split
  · exact hl _ _ _
  split
  · unfold cutW
    split
    · exact h
    split
    · exact h
    rename_i hu
    obtain ⟨h0, h1, -⟩ := up_site hu
    exact h.set h0 h1 rfl
  · exact ev_deliver hI h _
/-- states only rise -/
def RiseW (M M' : Wm) : Prop := ∀ s d : Nat, s < M.w.length → d < 6 → stLe (plSt (ndAt M (s : Int)).pl d) (plSt (ndAt M' (s : Int)).pl d)
theorem mayS_trans {a b c : Int} (h : mayS a b = true) (h' : mayS b c = true) : mayS a c = true := by
  unfold mayS at *
  have h1 := of_decide_eq_true h
  have h2 := of_decide_eq_true h'
  exact decide_eq_true (by omega)
theorem stLe_trans {a b c : St} (h : stLe a b) (h' : stLe b c) : stLe a c := ⟨Int.le_trans h.1 h'.1, Int.le_trans h.2.1 h'.2.1, mayS_trans h.2.2 h'.2.2⟩
theorem st_ok {M : Wm} (h : WI M) {s d : Nat} (hs : s < M.w.length) (hd : d < 6) : stOk (plSt (ndAt M (s : Int)).pl d) := by
  have := (h.at (s := (s : Int)) (by omega) (by rw [h.wn]; omega)).si.st d hd
  exact this
theorem RiseW.same {M M' : Wm} (h : WI M) (hst : ∀ s d : Nat, plSt (ndAt M' (s : Int)).pl d = plSt (ndAt M (s : Int)).pl d) : RiseW M M' := fun s d hs hd => by
  rw [hst]
  exact stLe_refl (st_ok h hs hd)
theorem RiseW.trans {A B C : Wm} (hw : B.w.length = A.w.length) (h : RiseW A B) (h' : RiseW B C) : RiseW A C := fun s d hs hd => stLe_trans (h s d hs hd) (h' s d (by omega) hd)
theorem rise_set {M : Wm} (h : WI M) {s : Int} (h0 : 0 ≤ s) (h1 : s < M.n.length) {m : Nd} (hb : m.pl.b = (ndAt M s).pl.b) : RiseW M (setN M s m) := .same h fun t d => by
  rw [Ze h0 h1]
  split
  · rename_i e
    rw [e]
    unfold plSt
    rw [hb]
  · rfl
theorem rise_hear {M : Wm} (h : WI M) {s : Int} (h0 : 0 ≤ s) (h1 : s < M.n.length) (f : Fr) : RiseW M (hearW M s f).1 := fun t d ht hd => by
  have hnd : ndAt (hearW M s f).1 (t : Int) = if (t : Int) = s then (hearNd s (ndAt M s) M.ev f).1 else ndAt M (t : Int) := Ze h0 h1 t
  rw [hnd]
  split
  · rename_i e
    rw [e]
    have hni := h.at h0 h1
    have hself : stLe (plSt (ndAt M s).pl d) (plSt (ndAt M s).pl d) := by
      have := st_ok h ht hd
      rw [e] at this
      exact stLe_refl this
    cases hs : (ndAt M s).site with
    | none =>
      unfold hearNd
      rw [hs]
      exact hself
    | some q =>
      obtain ⟨j, ref⟩ := q
      have hany := site_any (id := s) (ref := ref) (hni.jn hs) f
      have e1 : (hearNd s (ndAt M s) M.ev f).1.pl = (siteM s ref (ndAt M s).pl j f).1 := by
        unfold hearNd
        rw [hs]
        simp only
        split <;> rfl
      rw [e1]
      have e2 : plSt (siteM s ref (ndAt M s).pl j f).1 d = stAt (siteM s ref (ndAt M s).pl j f).2.1 d := by
        have : (siteM s ref (ndAt M s).pl j f).2.1.l = openM (siteM s ref (ndAt M s).pl j f).1.b := hany.1.ji.l
        unfold stAt plSt
        rw [this]
        rfl
      rw [e2, ← st_eq hni hs d]
      exact hany.2.2.1 d hd
  · exact stLe_refl (st_ok h ht hd)
theorem rise_try {M : Wm} (h : WI M) {s d p : Int} (h0 : 0 ≤ s) (h1 : s < M.n.length) : RiseW M (tryW M s d p).1 := by
  unfold tryW
  simp only
  split
  · exact .same h fun _ _ => rfl
  have hr := rise_hear h h0 h1 (tryF s d (tryAtt M.w.length s (tryAbove (ndAt M s) d p + 1)))
  have hS := same_hear M s (tryF s d (tryAtt M.w.length s (tryAbove (ndAt M s) d p + 1)))
  have hIR := (h.hear (f := tryF s d (tryAtt M.w.length s (tryAbove (ndAt M s) d p + 1))) h0 h1 (by show s < _; have := h.wn; omega)).1
  split
  · exact hr
  · intro t e ht he
    have := hr t e ht he
    have h1' : s < (hearW M s (tryF s d (tryAtt M.w.length s (tryAbove (ndAt M s) d p + 1)))).1.n.length := by rw [hS.n]; exact h1
    generalize (hearW M s (tryF s d (tryAtt M.w.length s (tryAbove (ndAt M s) d p + 1)))) = R at *
    have hnd := fun m => Ze (M := R.1) (m := m) h0 h1' t
    refine stLe_trans this ?_
    have hok : stOk (plSt (ndAt R.1 (t : Int)).pl e) := st_ok hIR (by rw [hS.w]; exact ht) he
    show stLe _ (plSt (ndAt (setN R.1 s _) (t : Int)).pl e)
    rw [hnd]
    split
    · rename_i e2
      rw [e2] at hok ⊢
      exact stLe_refl hok
    · exact stLe_refl hok
theorem rise_tickD {M : Wm} {q : Wm × Bool} {s : Int} {k d : Nat} (hT : TickOk M q s k) (h0 : 0 ≤ s) (h1 : s < M.n.length) : RiseW q.1 (tickD s q d).1 := by
  have hn := hT.same.n
  unfold tickD
  split
  · exact .same hT.wi fun _ _ => rfl
  split
  · exact .same hT.wi fun _ _ => rfl
  split
  · exact .same hT.wi fun _ _ => rfl
  split
  · exact .same hT.wi fun _ _ => rfl
  · exact rise_try hT.wi h0 (by omega)
theorem rise_ticks {M : Wm} (h : WI M) {s : Int} (h0 : 0 ≤ s) (h1 : s < M.n.length) (hs : (ndAt M s).site ≠ none) : ∀ k, k ≤ 6 → RiseW M ((List.range k).foldl (tickD s) (M, true)).1
  | 0, _ => .same h fun _ _ => rfl
  | k + 1, hk => by
    rw [List.range_succ, List.foldl_append]
    have hT := ticks_ok h h0 h1 hs k (by omega)
    exact (rise_ticks h h0 h1 hs k (by omega)).trans (by rw [hT.same.w]) (rise_tickD hT h0 h1)
theorem rise_tick {M : Wm} (h : WI M) (s : Int) : RiseW M (tickW M s).1 := by
  unfold tickW
  split
  · exact .same h fun _ _ => rfl
  · rename_i hu
    obtain ⟨h0, h1, hs⟩ := up_site hu
    exact rise_ticks h h0 h1 hs 6 (by omega)
theorem RiseW.left {M M1 M' : Wm} (h : RiseW M1 M') (hw : M1.w = M.w) (hst : ∀ s d : Nat, plSt (ndAt M1 (s : Int)).pl d = plSt (ndAt M (s : Int)).pl d) : RiseW M M' := fun s d hs hd => by
  rw [← hst]
  exact h s d (by rw [hw]; exact hs) hd
theorem rise_deliver {M : Wm} (h : WI M) (k : Int) : RiseW M (deliverW M k).1 := by
  have hn := h.wn
  unfold deliverW
  split
  · exact .same h fun _ _ => rfl
  rename_i hk
  obtain ⟨⟨hbad, hto, hfr⟩, hk0, hk1⟩ := frame_at h hk
  unfold badF at hbad
  have hE := h.erase k.toNat
  simp only
  split
  · exact .same h fun _ _ => rfl
  split
  · split
    · exact .same h fun _ _ => rfl
    · exact RiseW.left (M1 := { M with l := M.l.eraseIdx k.toNat }) (rise_set hE (s := (M.l.getD k.toNat zeroF).to) (m := { ndAt { M with l := M.l.eraseIdx k.toNat } (M.l.getD k.toNat zeroF).to with leads := _ }) (by omega) (by simp only; omega) rfl) rfl fun _ _ => rfl
  · exact RiseW.left (M1 := { M with l := M.l.eraseIdx k.toNat }) (rise_hear hE (by omega) (by simp only; omega) _) rfl fun _ _ => rfl
/-- all sites' states of a deal -/
def stsW (M : Wm) (d : Nat) : List St := (List.range M.w.length).map fun (s : Nat) => plSt (ndAt M (s : Int)).pl d
theorem sts_fin {M : Wm} (hI : WI M) (h : SafeW M) {d : Nat} (hd : d < 6) {a b : St} (ha : a ∈ stsW M d) (hb : b ∈ stsW M d) (fa : finP a.ph = true) (fb : finP b.ph = true) : a.ph = b.ph := by
  obtain ⟨g, hg⟩ := h d hd
  unfold stsW at ha hb
  obtain ⟨s, hs, rfl⟩ := List.mem_map.1 ha
  obtain ⟨t, ht, rfl⟩ := List.mem_map.1 hb
  have k1 := (hg.inv.site s (List.mem_range.1 hs)).fi
  have k2 := (hg.inv.site t (List.mem_range.1 ht)).fi
  unfold finP at fa fb
  simp only [decide_eq_true_eq] at fa fb
  exact dec_same hI.w0 hg.inv (k1 fa) (k2 fb)
theorem agD_none {xs : List St} (h : ∀ a ∈ xs, ∀ b ∈ xs, finP a.ph = true → finP b.ph = true → a.ph = b.ph) : ∀ k i, k = xs.length - i → agD xs i = none
  | 0, i, hk => agD_end (by omega)
  | k + 1, i, hk => by
    have hi : i < xs.length := by omega
    rw [agD_miss hi]
    · exact agD_none h k (i + 1) (by omega)
    · rw [List.any_eq_false]
      intro a ha
      unfold cfl
      have := h a (List.mem_of_mem_take ha) xs[i] (List.getElem_mem hi)
      intro hc
      simp only [Bool.and_eq_true, decide_eq_true_eq] at hc
      first | exact hc.2.2 (this hc.2.1 hc.1).symm | exact hc.2.2 (this hc.2.1 hc.1) | exact hc.2 (this hc.1.2 hc.1.1).symm | exact hc.2 (this hc.1.2 hc.1.1) | exact hc.2 (this hc.1.1 hc.1.2)
theorem agF_sts {M : Wm} (hI : WI M) (h : SafeW M) {d : Nat} (hd : d < 6) : agF (stsW M d) = (0, -1) := by
  unfold agF
  rw [agD_none (fun a ha b hb => sts_fin hI h hd ha hb) _ 0 rfl]
end Go.HL
end

/-! CdSt -/
section
namespace Go.HL
open Go Go.Proofs Go.ChangeShapes Go.WideShapes Go.ChangeAt Go.RowKit
def StpI (a : StpS) : Prop := a.kd.length ≤ 9223372036854775807 ∧ okI a.s ∧ okI a.d ∧ okI a.n
theorem open_stp {H : Type} {enc : TypeId × Value → H} {W : World} {base : Nat} {spare : Nat → Bool} {held : Bool} (n : Nat) (cs : List Value) (x : DataW H × List MemPlace) (h : DataW.trod enc Tryz.prog W base spare held n 54 cs = some x) : ∃ s : StpS, cs = stpL s ∧ StpI s := by
  have h0 := open_kt 4 54 [9, 3, 3, 3] n cs x (by kernel_rfl) h
  obtain ⟨s, r, rfl, hs, h1⟩ := fitT h0
  obtain ⟨a, r, rfl, ha, h2⟩ := fitI64 h1
  obtain ⟨d, r, rfl, hd, h3⟩ := fitI64 h2
  obtain ⟨m, r, rfl, hm, h4⟩ := fitI64 h3
  obtain rfl := fit0 h4
  exact ⟨⟨s, a, d, m⟩, rfl, hs, ha, hd, hm⟩
end Go.HL
end

/-! PwG -/
section
namespace Go.HL
open Go Go.Proofs
set_option linter.unusedVariables false
set_option linter.unusedSimpArgs false
set_option maxHeartbeats 2000000 attribute [local irreducible] HW HO HQ HD HC QOp Has Upd Puts Gets seqQ blkQ loopQ fnQ actQ nextP unQ MapF
attribute [local irreducible] runW newW
end Go.HL
end

/-! PwH -/
section
namespace Go.HL
open Go Go.Proofs
set_option linter.unusedVariables false
set_option linter.unusedSimpArgs false
/-- all that a State of a world reads -/
theorem wstate_all (T : Nat) (E : Nat → Addr) (G : WdG) (M : Wm) (i d : Nat) (L : Heap) (H : Heap) (hH : ∀ b o, Has (wdH G M ++ L) b o → Has H b o) (hG : Er T E [2, 6] H) (hW : WdOk G M) (hM : WI M) (hi : i < M.w.length) (hd : d < 6) :
    HC Tryz.prog 68 [pt G.wp 0, iv i, iv d] H (fun v L' => v = .tuple ⟨[.agg ⟨sc (plSt (ndAt M (i : Int)).pl d)⟩, .nilIface]⟩ ∧ L' = H) := by
  have hn := hM.wn
  have hI : WdIn H G M := by
    obtain ⟨h1, ⟨a2, c2, e2, r2⟩, ⟨a3, c3, e3, r3⟩, ⟨a4, c4, e4, r4⟩, h5⟩ := wd_in hW L
    exact ⟨hH _ _ h1, ⟨a2, c2, e2, r2.mono hH⟩, ⟨a3, c3, e3, r3.mono hH⟩, ⟨a4, c4, e4, r4.mono hH⟩, h5⟩
  have hB : ∀ {b : Nat} {o : Obj}, (b, o) ∈ ndA (npAt G i) i (ndAt M i) → Has H b o := fun {b o} hb => by
    refine hH _ _ ?_
    have := wd_has hW.ndl (s := (i : Int)) (by omega) (by omega) hb L
    unfold Has wdH at *
    rw [List.append_assoc, List.flatten_append]
    exact List.mem_append_right _ this
  have hni := wi_at hM (s := (i : Int)) (by omega) (by omega)
  have kst := wstate_calls T E G M i d H hG hI hW.ndl (fun _ => hB (by simp [ndA, ndB])) (fun _ => ⟨by rw [hni.b512]; omega, by rw [hni.b512]; omega, fun p hp => hB (by
    unfold ndA plC
    simp only [List.mem_cons, List.not_mem_nil, or_false] at hp
    rcases hp with rfl | rfl
    · simp [plB]
    · simp [plD])⟩)
  have e1 : wstateE M i d = none := by
    unfold wstateE
    rw [nodeE_ok (by omega) (by omega)]
    simp only
    rw [if_neg (by omega)]
  have e2 : wstate M i d = plSt (ndAt M i).pl d := by unfold wstate; rw [e1]
  rw [e1, e2] at kst
  exact kst
theorem sts_succ (M : Wm) (d i : Nat) : ((List.range (i + 1)).map fun (s : Nat) => plSt (ndAt M (s : Int)).pl d) = ((List.range i).map fun (s : Nat) => plSt (ndAt M (s : Int)).pl d) ++ [plSt (ndAt M (i : Int)).pl d] := by
  rw [List.range_succ, List.map_append]
  rfl
section ee
variable {P : Program} {Qv : Value → Heap → Prop} {ρ : Env} {L : Heap} {fn : Func}
theorem ee0s {L' : Heap} (hL : LS L'.flatten L.flatten) (h : Qv (.tuple #[]) L') (hr : fn.results = #[] := by rfl) : fnQ P fn Qv .normal ρ L := fun k w a hs ha => ⟨_, L', by simp [results, hr], hs.sp hL, h⟩
end ee
set_option maxHeartbeats 2000000 attribute [local irreducible] HW HO HQ HD HC QOp Has Upd Puts Gets seqQ blkQ loopQ fnQ actQ nextP unQ MapF
attribute [local irreducible] ndL jcells plC siteM ldL openM tryW tickW beginW deliverW upW
theorem states3_calls (T : Nat) (E : Nat → Addr) (G : WdG) (M : Wm) (d : Nat) (L : Heap) (hG : Er T E [2, 6] L) (hW : WdOk G M) (hM : WI M) (hd : d < 6) :
    HC Tryz.prog 24 [pt G.wp 0, iv M.w.length, iv d] (wdH G M ++ L) (fun v L' => ∃ c, (∃ sv, Vec 43 3 sc sv (stsW M d) c ∧ v = .tuple ⟨[sv, .bool true]⟩) ∧ L' = c :: (wdH G M ++ L)) := by
  have hwl := hM.wl
  have hG' := er_wdH hG G M
  have kst := fun i hi c => wstate_all T E G M i d L (c :: (wdH G M ++ L)) (fun b o h => Zd h) (hG'.cons c) hW hM hi hd
  have hsucc := sts_succ M d
  generalize hH : wdH G M ++ L = H at *
  refine Za (fun _ _ => Tryz.call24 _ _) Tryz.func24 rfl Tryz.ntmps24 (Nat.le_of_ble_eq_true rfl) ?_; simp only [args0, Nat.reduceAdd]
  repeat' (first | refine uN ?_ | (refine uB ?_; intro b) | (refine uP ?_ ?_ <;> (intro h; ((try simp only [zs, ne_eq, and_true, true_and, eq_self, reduceCtorEq] at h); try exact zx))) | fail)
  refine hw_sp (L' := [] :: H) ?_ (LS.refl _)
  refine Zf (σ := Nat × Value × List Blk) (fun r => [(0, pt G.wp 0), (1, iv M.w.length), (2, iv d), (8, r.2.1), (9, iv r.1)]) (fun r => r.2.2 :: H) (fun r => r.1 ≤ M.w.length ∧ Vec 43 3 sc r.2.1 ((List.range r.1).map fun (s : Nat) => plSt (ndAt M (s : Int)).pl d) r.2.2) (fun r => M.w.length - r.1) (0, nilS, []) uS (List.Sublist.refl _) ⟨by simp, vec_nil⟩ ?_
  rintro ⟨i, v, c⟩ ⟨hi, hv⟩
  simp only at hi hv ⊢
  obtain ⟨a5, cap5, he5, -, -⟩ := hv.rd sc_len
  subst he5
  by_cases hlt : i < M.w.length
  · have ks := kst i hlt c
    have hs := hsucc i
    generalize plSt (ndAt M (i : Int)).pl d = st at *
    obtain ⟨ph, pr, att⟩ := st
    repeat' (first | refine uN ?_ | refine uC (ks) ?_ | (refine uB ?_; intro b) | (refine uP ?_ ?_ <;> (intro h; ((try simp only [zs, ne_eq, and_true, true_and, eq_self, reduceCtorEq] at h); try exact zx))) | fail)
    refine fo 2 ?_
    refine wp1 S (⟨ph, pr, att⟩ : St) hv sc_len sc_one ?_ (hby := by simp only [List.length_map, List.length_range]; omega) (hmax := by simp only [List.length_map, List.length_range]; omega)
    intro v' c' hv'
    rw [← hs] at hv'
    repeat' (first | refine uN ?_ | refine uC (ks) ?_ | (refine uB ?_; intro b) | (refine uP ?_ ?_ <;> (intro h; ((try simp only [zs, ne_eq, and_true, true_and, eq_self, reduceCtorEq] at h); try exact zx))) | fail)
    exact Zc (i + 1, v', c') uS uL ⟨by simp only; omega, hv'⟩ (by simp only; omega)
  · obtain rfl : i = M.w.length := by omega
    repeat' (first | refine uN ?_ | refine g_q (qC (kst 0 (by omega) c)) ?_ | (refine uB ?_; intro b) | (refine uP ?_ ?_ <;> (intro h; ((try simp only [zs, ne_eq, and_true, true_and, eq_self, reduceCtorEq] at h); try exact zx))) | fail)
    exact sp2 (LS.refl _) ⟨c, ⟨_, hv, rfl⟩, rfl⟩
theorem act_calls (T : Nat) (E : Nat → Addr) (G : WdG) (M : Wm) (x : StpS) (L : Heap) (hG : Er T E [2, 3, 4, 5, 6, 8] L) (hW : WdOk G M) (hM : WI M) (hl : M.l.length ≤ 99999000) :
    HC Tryz.prog 34 [pt G.wp 0, .agg ⟨stpL x⟩] (wdH G M ++ L) (fun u L' => u = .tuple ⟨[]⟩ ∧ WdP G (actW M x).1 L L') := by
  have hG' := er_wdH hG G M
  have hGc := fun c => hG.cons c
  have k7 := fun k c => wdrop_calls T E G M k (c :: L) (hGc c).sub hW (by omega)
  have k8 := fun k c => wtwice_calls T E G M k (c :: L) (hGc c).sub hW (by omega)
  have k9 := fun s d c => wbegin_calls T E G M s d (c :: L) (hGc c).sub hW hM (by omega)
  have k10 := fun s c => wtick_calls T E G M s (c :: L) (hGc c).sub hW hM (by omega)
  have k11 := fun s d c => wrefuse_calls T E G M s d (c :: L) (hGc c).sub hW hM
  have k12 := fun a b w c => wlink_calls T E G M a b w (c :: L) (hGc c).sub hW
  have k13 := fun s n c => wcut_calls T E G M s n (c :: L) (hGc c).sub hW hM
  have k14 := fun s c => wdown_calls T E G M s (c :: L) (hGc c).sub hW hM
  have k15 := fun s c => wupS_calls T E G M s (c :: L) (hGc c).sub hW hM
  have k0 := fun k c => wdeliver_calls T E G M k (c :: L) (hGc c).sub hW hM (by omega)
  have hin : ∀ c, LS (wdH G M ++ (c :: L)).flatten (c :: (wdH G M ++ L)).flatten := fun c => ls_in
  have hdrop : ∀ c G' M', LS (wdH G' M' ++ L).flatten (wdH G' M' ++ (c :: L)).flatten := fun c G' M' => by
    simp only [List.flatten_append, List.flatten_cons]
    exact LS.boths _ (LS.skips _ (LS.refl _))
  generalize hH : wdH G M ++ L = H at *
  unfold actW
  obtain ⟨kd, s, d, n⟩ := x
  simp only
  refine Za (fun _ _ => Tryz.call34 _ _) Tryz.func34 rfl Tryz.ntmps34 (Nat.le_of_ble_eq_true rfl) ?_; simp only [args0, Nat.reduceAdd]
  repeat' (first | refine uN ?_ | (refine uB ?_; intro b) | (refine uP ?_ ?_ <;> (intro h; ((try simp only [zs, ne_eq, and_true, true_and, eq_self, reduceCtorEq] at h); try exact zx))) | fail)
  all_goals subst hH
  all_goals refine ho_sp (L' := wdH G M ++ ([(b, .cells ⟨stpL ⟨kd, s, d, n⟩⟩ 54)] :: L)) ?_ (hin _)
  all_goals simp only [*, if_true, if_false]
  all_goals first
    | (refine gc (k9 _ _ _) ?_; rintro v L' ⟨rfl, G2, f1, f2, hW2, rfl⟩; (repeat' (first | refine uN ?_ | (refine uB ?_; intro b) | (refine uP ?_ ?_ <;> (intro h; ((try simp only [zs, ne_eq, and_true, true_and, eq_self, reduceCtorEq] at h); try exact zx))) | fail)); exact ee0s (hdrop _ _ _) ⟨rfl, G2, f1, f2, hW2, rfl⟩)
    | (refine gc (k11 _ _ _) ?_; rintro v L' ⟨rfl, G2, f1, f2, hW2, rfl⟩; (repeat' (first | refine uN ?_ | (refine uB ?_; intro b) | (refine uP ?_ ?_ <;> (intro h; ((try simp only [zs, ne_eq, and_true, true_and, eq_self, reduceCtorEq] at h); try exact zx))) | fail)); exact ee0s (hdrop _ _ _) ⟨rfl, G2, f1, f2, hW2, rfl⟩)
    | (refine gc (k10 _ _) ?_; rintro v L' ⟨rfl, G2, f1, f2, hW2, rfl⟩; (repeat' (first | refine uN ?_ | (refine uB ?_; intro b) | (refine uP ?_ ?_ <;> (intro h; ((try simp only [zs, ne_eq, and_true, true_and, eq_self, reduceCtorEq] at h); try exact zx))) | fail)); exact ee0s (hdrop _ _ _) ⟨rfl, G2, f1, f2, hW2, rfl⟩)
    | (refine gc (k14 _ _) ?_; rintro v L' ⟨rfl, G2, f1, f2, hW2, rfl⟩; (repeat' (first | refine uN ?_ | (refine uB ?_; intro b) | (refine uP ?_ ?_ <;> (intro h; ((try simp only [zs, ne_eq, and_true, true_and, eq_self, reduceCtorEq] at h); try exact zx))) | fail)); exact ee0s (hdrop _ _ _) ⟨rfl, G2, f1, f2, hW2, rfl⟩)
    | (refine gc (k15 _ _) ?_; rintro v L' ⟨rfl, G2, f1, f2, hW2, rfl⟩; (repeat' (first | refine uN ?_ | (refine uB ?_; intro b) | (refine uP ?_ ?_ <;> (intro h; ((try simp only [zs, ne_eq, and_true, true_and, eq_self, reduceCtorEq] at h); try exact zx))) | fail)); exact ee0s (hdrop _ _ _) ⟨rfl, G2, f1, f2, hW2, rfl⟩)
    | (refine gc (k7 _ _) ?_; rintro v L' ⟨rfl, G2, f1, f2, hW2, rfl⟩; (repeat' (first | refine uN ?_ | (refine uB ?_; intro b) | (refine uP ?_ ?_ <;> (intro h; ((try simp only [zs, ne_eq, and_true, true_and, eq_self, reduceCtorEq] at h); try exact zx))) | fail)); exact ee0s (hdrop _ _ _) ⟨rfl, G2, f1, f2, hW2, rfl⟩)
    | (refine gc (k8 _ _) ?_; rintro v L' ⟨rfl, G2, f1, f2, hW2, rfl⟩; (repeat' (first | refine uN ?_ | (refine uB ?_; intro b) | (refine uP ?_ ?_ <;> (intro h; ((try simp only [zs, ne_eq, and_true, true_and, eq_self, reduceCtorEq] at h); try exact zx))) | fail)); exact ee0s (hdrop _ _ _) ⟨rfl, G2, f1, f2, hW2, rfl⟩)
    | (refine gc (k12 _ _ _ _) ?_; rintro v L' ⟨rfl, G2, f1, f2, hW2, rfl⟩; (repeat' (first | refine uN ?_ | (refine uB ?_; intro b) | (refine uP ?_ ?_ <;> (intro h; ((try simp only [zs, ne_eq, and_true, true_and, eq_self, reduceCtorEq] at h); try exact zx))) | fail)); exact ee0s (hdrop _ _ _) ⟨rfl, G2, f1, f2, hW2, rfl⟩)
    | (refine gc (k12 _ _ _ _) ?_; rintro v L' ⟨rfl, G2, f1, f2, hW2, rfl⟩; (repeat' (first | refine uN ?_ | (refine uB ?_; intro b) | (refine uP ?_ ?_ <;> (intro h; ((try simp only [zs, ne_eq, and_true, true_and, eq_self, reduceCtorEq] at h); try exact zx))) | fail)); exact ee0s (hdrop _ _ _) ⟨rfl, G2, f1, f2, hW2, rfl⟩)
    | (refine gc (k13 _ _ _) ?_; rintro v L' ⟨rfl, G2, f1, f2, hW2, rfl⟩; (repeat' (first | refine uN ?_ | (refine uB ?_; intro b) | (refine uP ?_ ?_ <;> (intro h; ((try simp only [zs, ne_eq, and_true, true_and, eq_self, reduceCtorEq] at h); try exact zx))) | fail)); exact ee0s (hdrop _ _ _) ⟨rfl, G2, f1, f2, hW2, rfl⟩)
    | (refine gc (k0 _ _) ?_; rintro v L' ⟨rfl, G2, f1, f2, hW2, rfl⟩; (repeat' (first | refine uN ?_ | (refine uB ?_; intro b) | (refine uP ?_ ?_ <;> (intro h; ((try simp only [zs, ne_eq, and_true, true_and, eq_self, reduceCtorEq] at h); try exact zx))) | fail)); exact ee0s (hdrop _ _ _) ⟨rfl, G2, f1, f2, hW2, rfl⟩)
end Go.HL
end

/-! PwI -/
section
namespace Go.HL
open Go Go.Proofs
set_option linter.unusedVariables false
set_option linter.unusedSimpArgs false
def actsW (M : Wm) (l : List StpS) : Wm := l.foldl (fun M x => (actW M x).1) M
theorem actsW_succ (M : Wm) (l : List StpS) (i : Nat) (h : i < l.length) : actsW M (l.take (i + 1)) = (actW (actsW M (l.take i)) l[i]).1 := by
  unfold actsW
  rw [List.take_add_one, List.getElem?_eq_getElem h, Option.toList_some, List.foldl_append]
  rfl
theorem acts_ok {M : Wm} (h : WI M) : ∀ (l : List StpS), (∀ x ∈ l, x.n ≤ 9223372036854775807) → StepOk M (actsW M l) (84 * l.length) := by
  have key : ∀ (l : List StpS) (M1 : Wm) (k : Nat), StepOk M M1 k → (∀ x ∈ l, x.n ≤ 9223372036854775807) → StepOk M (actsW M1 l) (k + 84 * l.length) := by
    intro l
    induction l with
    | nil => exact fun M1 k h _ => h
    | cons x l ih =>
      intro M1 k h hx
      have h2 := act_ok h.wi x (hx x (by simp))
      have h3 := h.len
      have h4 := h2.len
      have := ih (actW M1 x).1 (k + 84) ⟨h2.wi, h.same.trans h2.same, by omega⟩ (fun y hy => hx y (by simp [hy]))
      exact this.mono (by simp only [List.length_cons]; omega)
  intro l hx
  exact (key l M 0 (.refl h 0) hx).mono (by omega)
theorem acts_safe : ∀ (l : List StpS) {M : Wm}, WI M → SafeW M → EvW M → (∀ x ∈ l, x.n ≤ 9223372036854775807) → SafeW (actsW M l) ∧ EvW (actsW M l)
  | [], M, hI, h, he, _ => ⟨h, he⟩
  | x :: l, M, hI, h, he, hx => acts_safe l (act_ok hI x (hx x (by simp))).wi (safe_act hI h x (hx x (by simp))) (ev_act hI he x) fun y hy => hx y (by simp [hy])
/-- what was, and may become what is -/
def WasI (w : Nat) (vals : List Int) (M : Wm) : Prop := vals.length = 6 * w ∧ ∀ d s : Nat, d < 6 → s < w → ∃ x, vals[d * w + s]? = some x ∧ mayS x (plSt (ndAt M (s : Int)).pl d).ph = true
theorem idx_lt {d s w : Nat} (hd : d < 6) (hs : s < w) : d * w + s < 6 * w := by
  have : d * w ≤ 5 * w := Nat.mul_le_mul_right w (by omega)
  omega
theorem idx_inj {d s e t w : Nat} (hs : s < w) (ht : t < w) (h : d * w + s = e * w + t) : d = e ∧ s = t := by
  rcases Nat.lt_trichotomy d e with hlt | hlt | hlt
  · have : (d + 1) * w ≤ e * w := Nat.mul_le_mul_right w hlt
    rw [Nat.add_mul, Nat.one_mul] at this
    omega
  · subst hlt; exact ⟨rfl, by omega⟩
  · have : (e + 1) * w ≤ d * w := Nat.mul_le_mul_right w hlt
    rw [Nat.add_mul, Nat.one_mul] at this
    omega
theorem WasI.set {w : Nat} {vals : List Int} {M : Wm} (h : WasI w vals M) (hM : WI M) (hw : M.w.length = w) {d s : Nat} (hd : d < 6) (hs : s < w) : WasI w (vals.set (d * w + s) (plSt (ndAt M (s : Int)).pl d).ph) M := by
  refine ⟨by rw [List.length_set]; exact h.1, fun e t he ht => ?_⟩
  rw [List.getElem?_set]
  by_cases hh : d * w + s = e * w + t
  · obtain ⟨rfl, rfl⟩ := idx_inj hs ht hh
    rw [if_pos rfl, if_pos (by rw [h.1]; exact idx_lt hd hs)]
    exact ⟨_, rfl, (stLe_refl (st_ok hM (by omega) hd)).2.2⟩
  · rw [if_neg hh]
    exact h.2 e t he ht
theorem WasI.new {w : List Int} (hc : checkW w = none) : WasI w.length (List.replicate (6 * w.length) 0) (newW w) := by
  refine ⟨by simp, fun d s hd hs => ⟨0, ?_, ?_⟩⟩
  · rw [List.getElem?_replicate, if_pos (idx_lt hd hs)]
  · have := st_ok (new_ok hc) (s := s) (d := d) hs hd
    obtain ⟨g1, g2, -⟩ := this
    unfold mayS
    exact decide_eq_true (by omega)
theorem sts_get {M : Wm} {d s : Nat} (h : s < M.w.length) : (stsW M d)[s]? = some (plSt (ndAt M (s : Int)).pl d) := by
  unfold stsW
  rw [List.getElem?_map, List.getElem?_range h]
  rfl
theorem sts_len (M : Wm) (d : Nat) : (stsW M d).length = M.w.length := by
  unfold stsW
  rw [List.length_map, List.length_range]
end Go.HL
end

/-! HLFi -/
section
namespace Go.HL
open Go
set_option linter.unusedVariables false
set_option linter.unusedSimpArgs false
section fi
variable {P : Program} (S : Tab P) {ρ : Env} {L : Heap} {d : Option Tmp} {ty : TypeId} {pos : String} {af : Array Edge} {g : Option (Nat × Bool)}
end fi
end Go.HL
end

/-! PwJ -/
section
namespace Go.HL
open Go Go.Proofs
set_option linter.unusedVariables false
set_option linter.unusedSimpArgs false
set_option maxHeartbeats 2000000 attribute [local irreducible] HW HO HQ HD HC QOp Has Upd Puts Gets seqQ blkQ loopQ fnQ actQ nextP unQ MapF
attribute [local irreducible] newW actsW actW stsW wdC
end Go.HL
end

/-! EdA -/
section
namespace Go.HL
open Go Go.Proofs
set_option linter.unusedVariables false
set_option linter.unusedSimpArgs false
/-- a deal's number in a plate's journal -/
def numAt (m : Pl) (d : Nat) : Int := ((openM m.b).getD d zeroE).n
theorem wr_live {m : Pl} (ho : m.off = false) (hc : m.cut = -1) (a : Int) (s : List UInt8) : (writeM m a s).1.off = false ∧ (writeM m a s).1.cut = -1 := by
  unfold writeM
  split
  · exact ⟨ho, hc⟩
  · unfold wrOk kM
    simp [ho, hc]
theorem jw_live {m : Pl} (ho : m.off = false) (hc : m.cut = -1) (d : Int) (e : Ent) : (jwM m d e).1.off = false ∧ (jwM m d e).1.cut = -1 := by
  have h1 : (jw1 m d e).1.off = false ∧ (jw1 m d e).1.cut = -1 := by
    unfold jw1
    split
    · exact ⟨ho, hc⟩
    split
    · exact ⟨ho, hc⟩
    · exact wr_live ho hc _ _
  have h2 : (jw2 m d e).1.off = false ∧ (jw2 m d e).1.cut = -1 := by
    unfold jw2
    split
    · exact h1
    · exact wr_live h1.1 h1.2 _ _
  unfold jwM
  split
  · exact h2
  · exact wr_live h2.1 h2.2 _ _
theorem put_stays {m : Pl} (ho : m.off = false) (hc : m.cut = -1) (j : Jn) (d : Int) (s : St) : (putM m j d s).1.off = false ∧ (putM m j d s).1.cut = -1 := by
  unfold putM
  split
  · exact ⟨ho, hc⟩
  split
  · exact ⟨ho, hc⟩
  split
  · exact ⟨ho, hc⟩
  split
  · exact ⟨ho, hc⟩
  split
  · exact jw_live ho hc _ _
  · exact jw_live ho hc _ _
theorem site_stays {m : Pl} (ho : m.off = false) (hc : m.cut = -1) (id : Int) (ref : Int → Bool) (j : Jn) (f : Fr) : (siteM id ref m j f).1.off = false ∧ (siteM id ref m j f).1.cut = -1 := by
  unfold siteM
  split
  · exact ⟨ho, hc⟩
  split
  · exact ⟨ho, hc⟩
  split
  · exact put_stays ho hc _ _ _
  · exact put_stays ho hc _ _ _
theorem put_num {m : Pl} {j : Jn} (h : JI m j) (deal : Int) (s : St) (q : Nat) : ((putM m j deal s).2.1.l.getD q zeroE).n ≤ (j.l.getD q zeroE).n + 1 := by
  have hp := put_any h deal s
  obtain ⟨-, -, hp⟩ := hp
  rcases hp with ⟨h1, -⟩ | ⟨-, -, -, -, ⟨-, h1, -⟩ | ⟨-, h1⟩⟩
  · rw [h1]; omega
  · rw [h1]; omega
  · rw [h1]
    by_cases e : q = deal.toNat
    · subst e
      by_cases hl : deal.toNat < j.l.length
      · simp [List.getD, List.getElem?_set, hl]
      · simp [List.getD, List.getElem?_set, hl, zeroE]
    · simp [List.getD, List.getElem?_set, Ne.symm e]
      omega
theorem site_num {id : Int} {ref : Int → Bool} {m : Pl} {j : Jn} (h : SI m j) (f : Fr) (q : Nat) : ((siteM id ref m j f).2.1.l.getD q zeroE).n ≤ (j.l.getD q zeroE).n + 1 := by
  unfold siteM
  split
  · simp only; omega
  split
  · simp only; omega
  split
  · exact put_num h.ji _ _ _
  · exact put_num h.ji _ _ _
/-- a site that hears, and stays -/
theorem site_live {id : Int} {ref : Int → Bool} {m : Pl} {j : Jn} (h : SI m j) (ho : m.off = false) (hc : m.cut = -1) {f : Fr} (hb : ¬ badF f) (hto : f.to = id) (hn : (j.l.getD f.dl.toNat zeroE).n + 1 < 4294967296) :
    (siteM id ref m j f).2.2.2 = none ∧ stAt (siteM id ref m j f).2.1 f.dl.toNat = (turnM ref f (stAt j f.dl.toNat)).1 ∧ (∀ q, q ≠ f.dl.toNat → stAt (siteM id ref m j f).2.1 q = stAt j q) ∧
    (siteM id ref m j f).2.2.1 = if (turnM ref f (stAt j f.dl.toNat)).2.1 = 0 then [] else [⟨id, f.fr, f.dl, (turnM ref f (stAt j f.dl.toNat)).2.1, f.att, (turnM ref f (stAt j f.dl.toNat)).2.2, (turnM ref f (stAt j f.dl.toNat)).1⟩] := by
  unfold siteM
  rw [if_neg hb, if_neg (by omega)]
  have hb2 := hb
  unfold badF at hb2
  obtain ⟨d, hd⟩ := Int.eq_ofNat_of_zero_le (show 0 ≤ f.dl by omega)
  have hd6 : d < 6 := by omega
  rw [hd] at hn ⊢
  simp only [Int.toNat_natCast] at hn ⊢
  have est : stAt j d = (j.l.getD d zeroE).s := rfl
  rw [est]
  have ht := (turn_ok (ref := ref) (h.st d hd6) hb).1
  rw [est] at ht
  generalize htr : turnM ref f (j.l.getD d zeroE).s = tr at *
  have hp := put_any h.ji d tr.1
  have hs := put_stays ho hc j d tr.1
  generalize putM m j d tr.1 = r at *
  obtain ⟨m', j', er⟩ := r
  simp only at hp hs ⊢
  obtain ⟨hJ, hL, hp⟩ := hp
  rcases hp with ⟨hl, he⟩ | ⟨hnb, he, -, -, hp⟩
  · exfalso
    simp only [Int.toNat_natCast] at he
    rcases he with ⟨-, he⟩ | ⟨-, he⟩ | ⟨-, he⟩
    · rw [hs.1] at he; cases he
    · obtain ⟨g1, g2, g3, g4, g5⟩ := ht
      unfold badPut at he
      omega
    · omega
  · subst he
    simp only [Int.toNat_natCast] at hp
    have hlen : j.l.length = 6 := h.ji.jn.len
    have hst' : stAt j' d = tr.1 ∧ ∀ q, q ≠ d → stAt j' q = stAt j q := by
      rcases hp with ⟨h1, h2, -⟩ | ⟨h1, h2⟩
      · refine ⟨by unfold stAt; rw [h2, h1], fun q _ => by unfold stAt; rw [h2]⟩
      · refine ⟨by unfold stAt; rw [h2]; simp [List.getD, hlen, hd6], fun q hq => by unfold stAt; rw [h2]; simp [List.getD, List.getElem?_set, Ne.symm hq]⟩
    exact ⟨by trivial, hst'.1, hst'.2, by trivial⟩
/-- what is seen of a site in a world -/
def stW (M : Wm) (s d : Nat) : St := plSt (ndAt M (s : Int)).pl d
def ldW (M : Wm) (s d : Nat) : Option Ld := (ndAt M (s : Int)).leads.getD d none
def nmW (M : Wm) (s d : Nat) : Int := numAt (ndAt M (s : Int)).pl d
/-- it is up, and its power stays -/
def LiveN (m : Nd) : Prop := m.site ≠ none ∧ m.pl.cut = -1
def LiveW (M : Wm) (s : Nat) : Prop := LiveN (ndAt M (s : Int))
theorem LiveN.off {w : List Int} {s : Nat} {m : Nd} (h : NdI w s m) (hl : LiveN m) : ∃ j ref, m.site = some (j, ref) ∧ j = ⟨openM m.pl.b, false⟩ ∧ m.pl.off = false ∧ m.pl.cut = -1 ∧ SI m.pl j := by
  obtain ⟨⟨j, ref⟩, hs⟩ := Option.ne_none_iff_exists'.1 hl.1
  obtain ⟨e1, e2⟩ := h.up j ref hs
  exact ⟨j, ref, hs, e1, e2, hl.2, h.jn hs⟩
/-- a node that hears and stays: what it is then -/
theorem nd_live {w : List Int} {s : Nat} {m : Nd} (h : NdI w s m) (hl : LiveN m) {j : Jn} {ref : Int → Bool} (hs : m.site = some (j, ref)) (ev : List Evt) {f : Fr} (hb : ¬ badF f) (hto : f.to = s) (hn : numAt m.pl f.dl.toNat + 1 < 4294967296) :
    (∃ j', (hearNd s m ev f).1.site = some (j', ref)) ∧ (hearNd s m ev f).1.pl.cut = -1 ∧ (hearNd s m ev f).1.leads = m.leads ∧ plSt (hearNd s m ev f).1.pl f.dl = (turnM ref f (plSt m.pl f.dl)).1 ∧
    (∀ q : Nat, q ≠ f.dl.toNat → plSt (hearNd s m ev f).1.pl q = plSt m.pl q) ∧
    (hearNd s m ev f).2.2 = (if (turnM ref f (plSt m.pl f.dl)).2.1 = 0 then [] else [⟨s, f.fr, f.dl, (turnM ref f (plSt m.pl f.dl)).2.1, f.att, (turnM ref f (plSt m.pl f.dl)).2.2, (turnM ref f (plSt m.pl f.dl)).1⟩], true) := by
  have hS := h.jn hs
  obtain ⟨e1, e2⟩ := h.up j ref hs
  have hst := site_stays e2 hl.2 s ref j f
  have hb2 := hb
  unfold badF at hb2
  obtain ⟨d, hd⟩ := Int.eq_ofNat_of_zero_le (show 0 ≤ f.dl by omega)
  have hlv := site_live (id := s) (ref := ref) hS e2 hl.2 hb hto (by rw [e1]; exact hn)
  have hany := (site_any (id := s) (ref := ref) hS f).1
  have hl' : (siteM s ref m.pl j f).2.1.l = openM (siteM s ref m.pl j f).1.b := hany.ji.l
  have hpl : ∀ q : Nat, plSt (siteM s ref m.pl j f).1 q = stAt (siteM s ref m.pl j f).2.1 q := fun q => by
    unfold stAt plSt
    rw [hl']
    rfl
  have ej : ∀ q, stAt j q = plSt m.pl q := fun q => st_eq h hs q
  unfold hearNd
  rw [hs]
  simp only
  rw [hst.1]
  simp only [Bool.false_eq_true, if_false]
  rw [hd] at hlv ⊢
  simp only [Int.toNat_natCast] at hlv ⊢
  rw [ej] at hlv
  obtain ⟨k1, k2, k3, k4⟩ := hlv
  refine ⟨⟨_, rfl⟩, hst.2, by trivial, by rw [hpl]; exact k2, fun q hq => by rw [hpl, k3 q hq, ej], ?_⟩
  rw [k1, k4]
  rfl
theorem nd_stays {w : List Int} {s : Nat} {m : Nd} (h : NdI w s m) (hl : LiveN m) (ev : List Evt) (f : Fr) : LiveN (hearNd s m ev f).1 := by
  obtain ⟨j, ref, hs, e1, e2, e3, e4⟩ := hl.off h
  have hst := site_stays e2 e3 s ref j f
  unfold hearNd
  rw [hs]
  simp only
  rw [hst.1]
  simp only [Bool.false_eq_true, if_false]
  exact ⟨by simp, hst.2⟩
theorem nd_num {w : List Int} {s : Nat} {m : Nd} (h : NdI w s m) (ev : List Evt) (f : Fr) (q : Nat) : numAt (hearNd s m ev f).1.pl q ≤ numAt m.pl q + 1 := by
  unfold hearNd
  split
  · simp only; omega
  · rename_i j ref hs
    have hS := h.jn hs
    have hn := site_num (id := s) (ref := ref) hS f q
    have hany := (site_any (id := s) (ref := ref) hS f).1
    have hl' : (siteM s ref m.pl j f).2.1.l = openM (siteM s ref m.pl j f).1.b := hany.ji.l
    have hj : j.l = openM m.pl.b := hS.ji.l
    rw [hl', hj] at hn
    unfold numAt
    split <;> exact hn
/-- what a node's states become, whatever it hears -/
theorem nd_st {w : List Int} {s : Nat} {m : Nd} (h : NdI w s m) (ev : List Evt) (f : Fr) : (∀ d : Nat, d < 6 → plSt (hearNd s m ev f).1.pl d = plSt m.pl d ∨ (d = f.dl.toNat ∧ ∃ ref, plSt (hearNd s m ev f).1.pl d = (turnM ref f (plSt m.pl d)).1)) ∧
    (∀ x ∈ (hearNd s m ev f).2.2.1, ∃ ref, x = ⟨s, f.fr, f.dl, (turnM ref f (plSt m.pl f.dl)).2.1, f.att, (turnM ref f (plSt m.pl f.dl)).2.2, (turnM ref f (plSt m.pl f.dl)).1⟩ ∧ (turnM ref f (plSt m.pl f.dl)).2.1 ≠ 0 ∧ ¬ badF f ∧ f.to = s) := by
  unfold hearNd
  split
  · exact ⟨fun d _ => .inl rfl, fun x hx => by cases hx⟩
  · rename_i j ref hs
    have hS := h.jn hs
    have hstep := site_step (id := s) (ref := ref) hS f
    have hany := (site_any (id := s) (ref := ref) hS f).1
    have hl' : (siteM s ref m.pl j f).2.1.l = openM (siteM s ref m.pl j f).1.b := hany.ji.l
    have hpl : ∀ q : Nat, plSt (siteM s ref m.pl j f).1 q = stAt (siteM s ref m.pl j f).2.1 q := fun q => by
      unfold stAt plSt
      rw [hl']
      rfl
    have ej : ∀ q, stAt j q = plSt m.pl q := fun q => st_eq h hs q
    have key : (∀ d : Nat, d < 6 → plSt (siteM s ref m.pl j f).1 d = plSt m.pl d ∨ (d = f.dl.toNat ∧ ∃ r', plSt (siteM s ref m.pl j f).1 d = (turnM r' f (plSt m.pl d)).1)) ∧
        (∀ x ∈ (siteM s ref m.pl j f).2.2.1, ∃ ref, x = ⟨s, f.fr, f.dl, (turnM ref f (plSt m.pl f.dl)).2.1, f.att, (turnM ref f (plSt m.pl f.dl)).2.2, (turnM ref f (plSt m.pl f.dl)).1⟩ ∧ (turnM ref f (plSt m.pl f.dl)).2.1 ≠ 0 ∧ ¬ badF f ∧ f.to = s) := by
      rcases hstep with ⟨hq, hx⟩ | ⟨hb, hto, htu, hoth, hx⟩
      · exact ⟨fun d hd => .inl (by rw [hpl, hq d hd, ej]), fun x hx2 => by rw [hx] at hx2; cases hx2⟩
      · have hb2 := hb
        unfold badF at hb2
        obtain ⟨d0, hd0⟩ := Int.eq_ofNat_of_zero_le (show 0 ≤ f.dl by omega)
        have hdn : f.dl.toNat = d0 := by omega
        have e2 : stAt j f.dl.toNat = plSt m.pl f.dl := by rw [hdn, hd0]; exact ej d0
        refine ⟨fun d hd => ?_, fun x hx2 => ?_⟩
        · by_cases e : d = f.dl.toNat
          · exact .inr ⟨e, ref, by rw [hpl, e, htu, ej]⟩
          · exact .inl (by rw [hpl, hoth d hd e, ej])
        · obtain ⟨k1, k2⟩ := hx x hx2
          rw [e2] at k1 k2
          exact ⟨ref, k2, k1, hb, hto⟩
    clear hstep hany hl' hpl
    generalize siteM s ref m.pl j f = r at key ⊢
    split
    · exact ⟨key.1, fun x hx => by cases hx⟩
    · exact key
end Go.HL
end

/-! EdB -/
section
namespace Go.HL
open Go Go.Proofs
set_option linter.unusedVariables false
set_option linter.unusedSimpArgs false
structure Bnd (M : Wm) (P N : Int) : Prop where
  pr : ∀ s d : Nat, s < M.w.length → d < 6 → (stW M s d).pr ≤ P
  ld : ∀ s d x, s < M.w.length → d < 6 → ldW M s d = some x → x.seen ≤ P ∧ x.att ≤ P
  fr : ∀ f ∈ M.l, f.att ≤ P ∧ f.s.pr ≤ P
  nm : ∀ s d : Nat, s < M.w.length → nmW M s d ≤ N
  p0 : 0 ≤ P
  n0 : 0 ≤ N
theorem Bnd.mono {M : Wm} {P N P' N' : Int} (h : Bnd M P N) (hP : P ≤ P') (hN : N ≤ N') : Bnd M P' N' :=
  ⟨fun s d a b => by have := h.pr s d a b; omega, fun s d x a b c => by have := h.ld s d x a b c; omega, fun f hf => by have := h.fr f hf; omega, fun s d a => by have := h.nm s d a; omega, by have := h.p0; omega, by have := h.n0; omega⟩
theorem Bnd.of {M M' : Wm} {P N : Int} (h : Bnd M P N) (hw : M'.w = M.w) (hst : ∀ s d : Nat, stW M' s d = stW M s d) (hnm : ∀ s d : Nat, nmW M' s d = nmW M s d)
    (hld : ∀ s d x, s < M.w.length → d < 6 → ldW M' s d = some x → ldW M s d = some x ∨ (x.seen ≤ P ∧ x.att ≤ P)) (hl : ∀ f ∈ M'.l, f ∈ M.l ∨ (f.att ≤ P ∧ f.s.pr ≤ P)) : Bnd M' P N :=
  ⟨fun s d a b => by rw [hst]; exact h.pr s d (by rw [← hw]; exact a) b, fun s d x a b c => by
    rw [hw] at a
    rcases hld s d x a b c with k | k
    · exact h.ld s d x a b k
    · exact k, fun f hf => (by
    rcases hl f hf with k | k
    · exact h.fr f k
    · exact k), fun s d a => by rw [hnm]; exact h.nm s d (by rw [← hw]; exact a), h.p0, h.n0⟩
theorem hear_att (x : Ld) (f : Fr) : (hearM x f).1.att = x.att ∧ (hearM x f).1.id = x.id ∧ (hearM x f).1.deal = x.deal ∧ (hearM x f).1.w = x.w ∧ ((hearM x f).1.seen ≤ x.seen ∨ (hearM x f).1.seen ≤ f.s.pr) := by
  have h1 : (m1M x f).att = x.att ∧ (m1M x f).id = x.id ∧ (m1M x f).deal = x.deal ∧ (m1M x f).w = x.w ∧ ((m1M x f).seen ≤ x.seen ∨ (m1M x f).seen ≤ f.s.pr) := by
    unfold m1M
    split
    · exact ⟨rfl, rfl, rfl, rfl, .inl (Int.le_refl _)⟩
    · refine ⟨rfl, rfl, rfl, rfl, ?_⟩
      simp only
      omega
  have h2 : (m2M x f).att = x.att ∧ (m2M x f).id = x.id ∧ (m2M x f).deal = x.deal ∧ (m2M x f).w = x.w ∧ ((m2M x f).seen ≤ x.seen ∨ (m2M x f).seen ≤ f.s.pr) := h1
  unfold hearM
  split
  · exact ⟨rfl, rfl, rfl, rfl, .inl (Int.le_refl _)⟩
  split
  · unfold noM
    split <;> exact h1
  · unfold countM
    split
    · exact h2
    split
    · exact h2
    split
    · exact h2
    split <;> exact h2
theorem hear_frames {x : Ld} {f : Fr} : ∀ y ∈ (hearM x f).2, y.fr = x.id ∧ y.dl = x.deal ∧ y.att = x.att ∧ y.s.pr = 0 ∧ (y.kd = 5 ∨ y.kd = 7) := by
  have hall : ∀ (m : Ld) (k p : Int), m.deal = x.deal → m.id = x.id → m.att = x.att → (k = 5 ∨ k = 7) → ∀ y ∈ allM m k p, y.fr = x.id ∧ y.dl = x.deal ∧ y.att = x.att ∧ y.s.pr = 0 ∧ (y.kd = 5 ∨ y.kd = 7) := fun m k p h h2 h3 hk y hy => by
    obtain ⟨i, -, rfl, -⟩ := allM_mem hy
    exact ⟨h2, h, h3, rfl, hk⟩
  have e1 : (m1M x f).deal = x.deal ∧ (m1M x f).id = x.id ∧ (m1M x f).att = x.att := by unfold m1M; split <;> exact ⟨rfl, rfl, rfl⟩
  have e2 : (m2M x f).deal = x.deal ∧ (m2M x f).id = x.id ∧ (m2M x f).att = x.att := by unfold m2M; exact e1
  unfold hearM
  split
  · intro y hy; cases hy
  split
  · unfold noM
    split
    · exact hall _ _ _ e1.1 e1.2.1 e1.2.2 (.inr rfl)
    · intro y hy; cases hy
  · unfold countM
    split
    · exact hall _ _ _ e2.1 e2.2.1 e2.2.2 (.inl rfl)
    split
    · intro y hy; cases hy
    split
    · exact hall _ _ _ e2.1 e2.2.1 e2.2.2 (.inr rfl)
    split
    · exact hall _ _ _ e2.1 e2.2.1 e2.2.2 (.inr rfl)
    · exact hall _ _ _ e2.1 e2.2.1 e2.2.2 (.inl rfl)
theorem start_frames {m : Ld} : ∀ y ∈ startM m, y.fr = m.id ∧ y.dl = m.deal ∧ y.att = m.att ∧ y.s.pr = 0 ∧ (y.kd = if m.att = 0 then 1 else 3) := fun y hy => by
  unfold startM at hy
  split at hy
  · rename_i h
    obtain ⟨i, -, rfl, -⟩ := allM_mem hy
    exact ⟨rfl, rfl, rfl, rfl, by rw [if_pos h]⟩
  · rename_i h
    obtain ⟨i, -, rfl, -⟩ := allM_mem hy
    exact ⟨rfl, rfl, rfl, rfl, by rw [if_neg h]⟩
theorem turn_pr (ref : Int → Bool) (f : Fr) (st : St) : (turnM ref f st).1.pr ≤ st.pr ∨ (turnM ref f st).1.pr ≤ f.att := by
  unfold turnM
  split
  · left; unfold askM; split
    · split <;> exact Int.le_refl _
    · exact Int.le_refl _
  split
  · simp only; omega
  split
  · split
    · exact .inl (Int.le_refl _)
    · split
      · exact .inr (Int.le_refl _)
      · exact .inl (Int.le_refl _)
  split
  · left; simp only; split <;> exact Int.le_refl _
  · exact .inl (Int.le_refl _)
/-- a node behind what its site hears -/
theorem hear_nd {M : Wm} {s : Int} (h0 : 0 ≤ s) (h1 : s < M.n.length) (f : Fr) (t : Nat) : ndAt (hearW M s f).1 (t : Int) = if (t : Int) = s then (hearNd s (ndAt M s) M.ev f).1 else ndAt M (t : Int) := Ze h0 h1 t
theorem hear_leads (s : Int) (m : Nd) (ev : List Evt) (f : Fr) : (hearNd s m ev f).1.leads = m.leads ∨ (hearNd s m ev f).1.leads = noLeads := by
  unfold hearNd
  split
  · exact .inl rfl
  split
  · exact .inr rfl
  · exact .inl rfl
theorem Bnd.hear {M : Wm} {P N : Int} (h : Bnd M P N) (hI : WI M) {s : Int} (h0 : 0 ≤ s) (h1 : s < M.n.length) {f : Fr} (hf : f.att ≤ P) :
    Bnd (hearW M s f).1 P (N + 1) ∧ ∀ y ∈ (hearW M s f).2.1, y.att ≤ P ∧ y.s.pr ≤ P := by
  have hni := hI.at h0 h1
  have hn := hI.wn
  obtain ⟨sn, rfl⟩ := Int.eq_ofNat_of_zero_le h0
  simp only [Int.toNat_natCast] at hni
  have hsn : sn < M.w.length := by omega
  have hw : (hearW M sn f).1.w = M.w := rfl
  obtain ⟨k1, k2⟩ := nd_st hni M.ev f
  have k3 := nd_num hni M.ev f
  refine ⟨⟨fun t d ht hd => ?_, fun t d x ht hd hx => ?_, fun y hy => h.fr y hy, fun t d ht => ?_, h.p0, by have := h.n0; omega⟩, fun y hy => ?_⟩
  · show (plSt (ndAt (hearW M sn f).1 (t : Int)).pl d).pr ≤ P
    rw [hear_nd h0 h1]
    have hp := h.pr t d ht hd
    unfold stW at hp
    split
    · rename_i e
      rw [e] at hp
      rcases k1 d hd with k | ⟨-, ref, k⟩
      · rw [k]; exact hp
      · rw [k]
        have := turn_pr ref f (plSt (ndAt M sn).pl d)
        omega
    · exact hp
  · have hx' : (ndAt (hearW M sn f).1 (t : Int)).leads.getD d none = some x := hx
    rw [hear_nd h0 h1] at hx'
    split at hx'
    · rename_i e
      rcases hear_leads sn (ndAt M sn) M.ev f with k | k
      · rw [k, ← e] at hx'
        exact h.ld t d x ht hd hx'
      · rw [k, noLeads_getD] at hx'; cases hx'
    · exact h.ld t d x ht hd hx'
  · show numAt (ndAt (hearW M sn f).1 (t : Int)).pl d ≤ N + 1
    rw [hear_nd h0 h1]
    have hp := h.nm t d ht
    unfold nmW at hp
    split
    · rename_i e
      rw [e] at hp
      have := k3 d
      omega
    · omega
  · have hy' : y ∈ (hearNd sn (ndAt M sn) M.ev f).2.2.1 := hy
    obtain ⟨ref, rfl, -, hb, -⟩ := k2 y hy'
    refine ⟨hf, ?_⟩
    simp only
    unfold badF at hb
    obtain ⟨d, hd⟩ := Int.eq_ofNat_of_zero_le (show 0 ≤ f.dl by omega)
    have hp := h.pr sn d hsn (by omega)
    unfold stW at hp
    rw [hd]
    have := turn_pr ref f (plSt (ndAt M sn).pl d)
    omega
theorem ldW_set {M : Wm} {s : Int} (h0 : 0 ≤ s) (h1 : s < M.n.length) (h6 : (ndAt M s).leads.length = 6) {d : Nat} (hd : d < 6) (o : Option Ld) (l : List Fr) (t e : Nat) :
    ldW { setN M s { ndAt M s with leads := (ndAt M s).leads.set d o } with l := l } t e = if (t : Int) = s ∧ e = d then o else ldW M t e := by
  unfold ldW
  show (ndAt (setN M s { ndAt M s with leads := (ndAt M s).leads.set d o }) (t : Int)).leads.getD e none = _
  rw [Ze h0 h1]
  by_cases ht : (t : Int) = s
  · rw [if_pos ht]
    by_cases he : e = d
    · subst he
      rw [if_pos ⟨ht, rfl⟩]
      exact getD_set_eq (by omega)
    · rw [if_neg (fun q => he q.2), ht]
      exact getD_set_ne he
  · rw [if_neg ht, if_neg (fun q => ht q.1)]
theorem stW_lead {M : Wm} {s : Int} (h0 : 0 ≤ s) (h1 : s < M.n.length) (ls : List (Option Ld)) (l : List Fr) (t e : Nat) : stW { setN M s { ndAt M s with leads := ls } with l := l } t e = stW M t e := by
  unfold stW
  show plSt (ndAt (setN M s { ndAt M s with leads := ls }) (t : Int)).pl e = _
  rw [Ze h0 h1]
  split
  · rename_i ht; rw [ht]
  · rfl
theorem nmW_lead {M : Wm} {s : Int} (h0 : 0 ≤ s) (h1 : s < M.n.length) (ls : List (Option Ld)) (l : List Fr) (t e : Nat) : nmW { setN M s { ndAt M s with leads := ls } with l := l } t e = nmW M t e := by
  unfold nmW
  show numAt (ndAt (setN M s { ndAt M s with leads := ls }) (t : Int)).pl e = _
  rw [Ze h0 h1]
  split
  · rename_i ht; rw [ht]
  · rfl
/-- a node changed, but not what its plate holds, and its leads kept or gone -/
theorem Bnd.node {M : Wm} {P N : Int} (h : Bnd M P N) {s : Int} (h0 : 0 ≤ s) (h1 : s < M.n.length) {m : Nd} {ev : List Evt} (hb : m.pl.b = (ndAt M s).pl.b) (hld : m.leads = (ndAt M s).leads ∨ m.leads = noLeads) : Bnd { setN M s m with ev := ev } P N := by
  refine h.of rfl (fun t d => ?_) (fun t d => ?_) (fun t d x ht hd hx => ?_) (fun f hf => .inl hf)
  · show plSt (ndAt (setN M s m) (t : Int)).pl d = plSt (ndAt M (t : Int)).pl d
    rw [Ze h0 h1]
    split
    · rename_i e; rw [e]; unfold plSt; rw [hb]
    · rfl
  · show numAt (ndAt (setN M s m) (t : Int)).pl d = numAt (ndAt M (t : Int)).pl d
    rw [Ze h0 h1]
    split
    · rename_i e; rw [e]; unfold numAt; rw [hb]
    · rfl
  · have hx' : (ndAt (setN M s m) (t : Int)).leads.getD d none = some x := hx
    rw [Ze h0 h1] at hx'
    split at hx'
    · rename_i e
      rcases hld with k | k
      · rw [k] at hx'
        left
        show (ndAt M (t : Int)).leads.getD d none = some x
        rw [e]; exact hx'
      · rw [k, noLeads_getD] at hx'; cases hx'
    · exact .inl hx'
theorem Bnd.setL {M : Wm} {P N : Int} (h : Bnd M P N) {l : List Fr} (hl : ∀ f ∈ l, f ∈ M.l ∨ (f.att ≤ P ∧ f.s.pr ≤ P)) : Bnd { M with l := l } P N :=
  h.of rfl (fun _ _ => rfl) (fun _ _ => rfl) (fun _ _ _ _ _ hx => .inl hx) hl
theorem Bnd.erase {M : Wm} {P N : Int} (h : Bnd M P N) (k : Nat) : Bnd { M with l := M.l.eraseIdx k } P N := h.setL fun f hf => .inl (List.mem_of_mem_eraseIdx hf)
/-- a lead comes, or hears -/
theorem Bnd.lead {M : Wm} {P N : Int} (h : Bnd M P N) (hI : WI M) {s : Int} (h0 : 0 ≤ s) (h1 : s < M.n.length) {d : Nat} (hd : d < 6) {x : Ld} (hx : x.seen ≤ P ∧ x.att ≤ P) {l : List Fr} (hl : ∀ f ∈ l, f ∈ M.l ∨ (f.att ≤ P ∧ f.s.pr ≤ P)) :
    Bnd { setN M s { ndAt M s with leads := (ndAt M s).leads.set d (some x) } with l := l } P N := by
  have h6 := (hI.at h0 h1).leads
  refine h.of rfl (fun t e => stW_lead h0 h1 _ _ t e) (fun t e => nmW_lead h0 h1 _ _ t e) (fun t e y ht he hy => ?_) hl
  rw [ldW_set h0 h1 h6 hd] at hy
  split at hy
  · cases hy; exact .inr hx
  · exact .inl hy
theorem Bnd.hears {P : Int} : ∀ (l : List Fr) (x : Ld) (acc : List Fr), 0 ≤ P → x.seen ≤ P ∧ x.att ≤ P → (∀ f ∈ l, f.att ≤ P ∧ f.s.pr ≤ P) → (∀ f ∈ acc, f.att ≤ P ∧ f.s.pr ≤ P) →
    ((l.foldl (fun q f => ((hearM q.1 f).1, q.2 ++ (hearM q.1 f).2)) (x, acc)).1.seen ≤ P ∧ (l.foldl (fun q f => ((hearM q.1 f).1, q.2 ++ (hearM q.1 f).2)) (x, acc)).1.att ≤ P) ∧ ∀ f ∈ (l.foldl (fun q f => ((hearM q.1 f).1, q.2 ++ (hearM q.1 f).2)) (x, acc)).2, f.att ≤ P ∧ f.s.pr ≤ P
  | [], x, acc, h0, hx, _, ha => ⟨hx, ha⟩
  | f :: l, x, acc, h0, hx, hl, ha => by
    rw [List.foldl_cons]
    obtain ⟨e1, -, -, -, e2⟩ := hear_att x f
    have hf := hl f (by simp)
    refine Bnd.hears l _ _ h0 ⟨(show (hearM x f).1.seen ≤ P by omega), by rw [e1]; exact hx.2⟩ (fun g hg => hl g (by simp [hg])) fun g hg => ?_
    rcases List.mem_append.1 hg with hg | hg
    · exact ha g hg
    · obtain ⟨-, -, k1, k2, -⟩ := hear_frames g hg
      rw [k1, k2]
      exact ⟨hx.2, h0⟩
theorem tryAtt_le {k s a : Int} (hk : 0 < k) : a ≤ tryAtt k s a ∧ tryAtt k s a ≤ a + k - 1 := by
  unfold tryAtt
  have h1 := Int.emod_nonneg (s - a) (by omega : k ≠ 0)
  have h2 := Int.emod_lt_of_pos (s - a) hk
  generalize (s - a) % k = z at *
  omega
theorem tryAbove_le {M : Wm} {P N : Int} (h : Bnd M P N) {s : Int} (h0 : 0 ≤ s) (h1 : s < M.w.length) {d : Nat} (hd : d < 6) {p : Int} (hp : p ≤ P) : tryAbove (ndAt M s) d p ≤ P := by
  unfold tryAbove
  split
  · exact hp
  · rename_i x hx
    have := (h.ld s.toNat d x (by omega) hd (by unfold ldW; rw [show ((s.toNat : Nat) : Int) = s by omega]; exact hx)).1
    omega
theorem Bnd.try {M : Wm} {P N : Int} (h : Bnd M P N) (hI : WI M) {s p : Int} {d : Nat} (h0 : 0 ≤ s) (h1 : s < M.n.length) (hd : d < 6) (hp : p ≤ P) : Bnd (tryW M s d p).1 (P + 7) (N + 1) := by
  have hn := hI.wn
  have hw := hI.wl
  have hw1 := hI.w1
  have hab := tryAbove_le h h0 (by omega) hd hp
  have hp0 := h.p0
  unfold tryW
  simp only
  have hle := tryAtt_le (k := M.w.length) (s := s) (a := tryAbove (ndAt M s) d p + 1) (by omega)
  generalize tryAtt M.w.length s (tryAbove (ndAt M s) d p + 1) = a at *
  split
  · exact h.mono (by omega) (by omega)
  have h7 := h.mono (P' := P + 7) (N' := N) (by omega) (by omega)
  obtain ⟨k1, k2⟩ := h7.hear hI (f := tryF s d a) h0 h1 (by show a ≤ _; omega)
  obtain ⟨hI2, -⟩ := hI.hear (f := tryF s d a) h0 h1 (by show s < _; omega)
  have hS := same_hear M s (tryF s d a)
  generalize hearW M s (tryF s d a) = R at *
  split
  · exact k1
  · obtain ⟨q1, q2⟩ := Bnd.hears (P := P + 7) R.2.1 (newLd s d M.w a 4) [] (by omega) ⟨by show (0 : Int) ≤ _; omega, by show a ≤ _; omega⟩ k2 (fun f hf => by cases hf)
    refine k1.lead hI2 h0 (by rw [hS.n]; exact h1) (d := (d : Int).toNat) (by simpa using hd) q1 fun f hf => ?_
    rcases List.mem_append.1 hf with hf | hf
    · rcases List.mem_append.1 hf with hf | hf
      · exact .inl hf
      · obtain ⟨-, -, e1, e2, -⟩ := start_frames f hf
        rw [e1, e2]
        exact .inr ⟨by show a ≤ _; omega, by omega⟩
    · exact .inr (q2 f hf)
theorem Bnd.tickD {M : Wm} {P N : Int} {q : Wm × Bool} {s : Int} {k d : Nat} (h : Bnd q.1 P N) (hT : TickOk M q s k) (h0 : 0 ≤ s) (h1 : s < M.n.length) (hd : d < 6) : Bnd (tickD s q d).1 (P + 7) (N + 1) := by
  obtain ⟨M1, b⟩ := q
  have hn := hT.same.n
  simp only at hn h
  have hwn := hT.wi.wn
  simp only at hwn
  have hp0 := h.p0
  unfold HL.tickD
  split
  · exact h.mono (by omega) (by omega)
  split
  · exact h.mono (by omega) (by omega)
  rename_i hb _ j ref hs
  have hs' : (ndAt M1 s).site = some (j, ref) := hs
  have hni := hT.wi.at (s := s) h0 (by simp only; omega)
  have e := st_eq hni hs' d
  have hpr := h.pr s.toNat d (by omega) hd
  unfold stW at hpr
  rw [show ((s.toNat : Nat) : Int) = s by omega] at hpr
  split
  · exact h.mono (by omega) (by omega)
  split
  · refine (h.mono (P' := P + 7) (N' := N + 1) (by omega) (by omega)).setL fun f hf => ?_
    rcases List.mem_append.1 hf with hf | hf
    · exact .inl hf
    · unfold decideF at hf
      obtain ⟨i, hi, rfl⟩ := List.mem_map.1 hf
      refine .inr ⟨?_, ?_⟩
      · show (stAt j d).pr ≤ P + 7
        rw [e]
        exact Int.le_trans hpr (by omega)
      · show (0 : Int) ≤ P + 7
        omega
  · exact h.try hT.wi h0 (by show s < M1.n.length; omega) hd (by rw [e]; exact hpr)
theorem Bnd.ticks {M : Wm} {P N : Int} (h : Bnd M P N) (hI : WI M) {s : Int} (h0 : 0 ≤ s) (h1 : s < M.n.length) (hs : (ndAt M s).site ≠ none) : ∀ k : Nat, k ≤ 6 → Bnd ((List.range k).foldl (HL.tickD s) (M, true)).1 (P + 7 * k) (N + k)
  | 0, _ => by simpa using h
  | k + 1, hk => by
    rw [List.range_succ, List.foldl_append]
    have := Bnd.tickD (d := k) (Bnd.ticks h hI h0 h1 hs k (by omega)) (ticks_ok hI h0 h1 hs k (by omega)) h0 h1 (by omega)
    exact this.mono (by push_cast; omega) (by push_cast; omega)
theorem Bnd.tick {M : Wm} {P N : Int} (h : Bnd M P N) (hI : WI M) (s : Int) : Bnd (tickW M s).1 (P + 42) (N + 6) := by
  unfold tickW
  split
  · exact h.mono (by omega) (by omega)
  · rename_i hu
    obtain ⟨h0, h1, hs⟩ := up_site hu
    exact (h.ticks hI h0 h1 hs 6 (by omega)).mono (by omega) (by omega)
theorem Bnd.deliver {M : Wm} {P N : Int} (h : Bnd M P N) (hI : WI M) (k : Int) : Bnd (deliverW M k).1 P (N + 1) := by
  have hn := hI.wn
  unfold deliverW
  split
  · exact h.mono (by omega) (by omega)
  rename_i hk
  obtain ⟨⟨hbad, hto, hfr⟩, hk0, hk1⟩ := frame_at hI hk
  have hmem : M.l.getD k.toNat zeroF ∈ M.l := by
    rw [List.getD, List.getElem?_eq_getElem (show k.toNat < M.l.length by omega)]
    exact List.getElem_mem _
  have hE := hI.erase k.toNat
  have hB := h.erase k.toNat
  generalize M.l.getD k.toNat zeroF = f at *
  unfold badF at hbad
  have hf := h.fr f hmem
  have hp0 := h.p0
  simp only
  split
  · exact hB.mono (by omega) (by omega)
  split
  · split
    · exact hB.mono (by omega) (by omega)
    · rename_i x hx
      have hx' := h.ld f.to.toNat f.dl.toNat x (by omega) (by omega) (by unfold ldW; rw [show ((f.to.toNat : Nat) : Int) = f.to by omega]; exact hx)
      obtain ⟨e1, -, -, -, e2⟩ := hear_att x f
      refine Bnd.mono (N := N) ?_ (Int.le_refl P) (by omega)
      refine hB.lead hE (by omega) (by simp only; omega) (by omega) ⟨by omega, by omega⟩ fun g hg => ?_
      rcases List.mem_append.1 hg with hg | hg
      · exact .inl hg
      · obtain ⟨-, -, k1, k2, -⟩ := hear_frames g hg
        rw [k1, k2]
        exact .inr ⟨hx'.2, hp0⟩
  · obtain ⟨k1, k2⟩ := hB.hear hE (s := f.to) (f := f) (by omega) (by simp only; omega) hf.1
    refine k1.setL fun g hg => ?_
    rcases List.mem_append.1 hg with hg | hg
    · exact .inl hg
    · exact .inr (k2 g hg)
theorem Bnd.act {M : Wm} {P N : Int} (h : Bnd M P N) (hI : WI M) (x : StpS) : Bnd (actW M x).1 (P + 42) (N + 6) := by
  have hp0 := h.p0
  have hm : ∀ {M' : Wm}, Bnd M' P N → Bnd M' (P + 42) (N + 6) := fun h => h.mono (by omega) (by omega)
  have hlk : ∀ a b c, Bnd (linkW M a b c).1 P N := fun a b c => by
    unfold linkW
    split
    · exact h
    · exact h.of rfl (fun _ _ => rfl) (fun _ _ => rfl) (fun _ _ _ _ _ hx => .inl hx) fun f hf => .inl hf
  unfold actW
  split
  · refine hm ?_
    unfold beginW
    split
    · exact h
    rename_i hb
    split
    · exact h
    split
    · exact h
    refine h.lead hI (by omega) (by omega) (by omega) ⟨by show (0 : Int) ≤ P; exact hp0, by show (0 : Int) ≤ P; exact hp0⟩ fun f hf => ?_
    rcases List.mem_append.1 hf with hf | hf
    · exact .inl hf
    · obtain ⟨-, -, e1, e2, -⟩ := start_frames f hf
      rw [e1, e2]
      exact .inr ⟨by show (0 : Int) ≤ P; exact hp0, hp0⟩
  split
  · refine hm ?_
    unfold refuseW
    split
    · exact h
    split
    · exact h
    rename_i hu
    obtain ⟨h0, h1, -⟩ := up_site hu
    exact h.node h0 h1 (ev := M.ev) (by unfold refuseN; split <;> rfl) (.inl (by unfold refuseN; split <;> rfl))
  split
  · exact h.tick hI _
  split
  · refine hm ?_
    unfold downW
    split
    · exact h
    rename_i hu
    obtain ⟨h0, h1, -⟩ := up_site hu
    exact h.node h0 h1 (ev := M.ev) rfl (.inr rfl)
  split
  · refine hm ?_
    unfold upW
    split
    · exact h
    split
    · exact h
    rename_i hu _
    obtain ⟨h0, h1⟩ := nodeE_none hu
    exact h.node h0 h1 rfl (.inl rfl)
  split
  · refine hm ?_
    unfold dropW
    split
    · exact h
    · exact h.erase _
  split
  · refine hm ?_
    unfold twiceW
    split
    · exact h
    rename_i hk
    have hkk : 0 ≤ x.n ∧ x.n < M.l.length := by
      unfold wat at hk
      split at hk
      · cases hk
      · omega
    refine h.setL fun f hf => .inl ?_
    rcases List.mem_append.1 hf with hf | hf
    · exact List.mem_of_mem_take hf
    · rcases List.mem_cons.1 hf with hf | hf
      · rw [hf, List.getD, List.getElem?_eq_getElem (show x.n.toNat < M.l.length by omega)]
        exact List.getElem_mem _
      · exact List.mem_of_mem_drop hf
  split
  · exact hm (hlk _ _ _)
  split
  · exact hm (hlk _ _ _)
  split
  · refine hm ?_
    unfold cutW
    split
    · exact h
    split
    · exact h
    rename_i hu
    obtain ⟨h0, h1, -⟩ := up_site hu
    exact h.node h0 h1 (ev := M.ev) rfl (.inl rfl)
  · exact (h.deliver hI _).mono (by omega) (by omega)
theorem bnd_new {w : List Int} (hc : checkW w = none) : Bnd (newW w) 0 0 := by
  have e : ∀ s : Nat, s < (newW w).w.length → ndAt (newW w) (s : Int) = newNd := fun s hs => ndAt_new (by omega) (by have : (newW w).w = w := rfl; rw [this] at hs; omega)
  refine ⟨fun s d hs hd => ?_, fun s d x hs hd hx => ?_, fun f hf => (by cases hf), fun s d hs => ?_, (by omega), (by omega)⟩
  · unfold stW
    rw [e s hs, plSt_new]
    exact Int.le_refl _
  · unfold ldW at hx
    rw [e s hs] at hx
    have : newNd.leads = noLeads := rfl
    rw [this, noLeads_getD] at hx
    cases hx
  · unfold nmW
    rw [e s hs]
    unfold numAt newNd
    simp only
    rw [open_zeros (by omega)]
    rw [List.getD, List.getElem?_replicate]
    split <;> exact Int.le_refl _
end Go.HL
end

/-! EdC -/
section
namespace Go.HL
open Go Go.Proofs
set_option linter.unusedVariables false
set_option linter.unusedSimpArgs false
/-- what a frame weighs: each delivery makes all of it lighter -/
def wtF (f : Fr) : Nat := if f.kd = 1 ∨ f.kd = 3 then 65 else if f.kd = 2 ∨ f.kd = 4 then 64 else if f.kd = 5 then 9 else if f.kd = 6 then 8 else 1
def wtL (l : List Fr) : Nat := (l.map wtF).sum
theorem wt_app (a b : List Fr) : wtL (a ++ b) = wtL a + wtL b := by simp [wtL]
theorem wt_cons (f : Fr) (b : List Fr) : wtL (f :: b) = wtF f + wtL b := by simp [wtL]
theorem wt_pos (f : Fr) : 1 ≤ wtF f := by unfold wtF; split <;> (try split) <;> (try split) <;> (try split) <;> omega
theorem wt_max (f : Fr) : wtF f ≤ 65 := by unfold wtF; split <;> (try split) <;> (try split) <;> (try split) <;> omega
theorem wt_le {l : List Fr} {k : Nat} (h : ∀ f ∈ l, wtF f ≤ k) : wtL l ≤ k * l.length := by
  induction l with
  | nil => simp [wtL]
  | cons f r ih =>
    have h1 := h f (by simp)
    have h2 := ih fun g hg => h g (by simp [hg])
    rw [wt_cons, List.length_cons, Nat.mul_add, Nat.mul_one]
    omega
theorem wt_len (l : List Fr) : l.length ≤ wtL l := by
  induction l with
  | nil => simp [wtL]
  | cons f r ih =>
    have := wt_pos f
    rw [wt_cons, List.length_cons]
    omega
theorem wt_65 (l : List Fr) : wtL l ≤ 65 * l.length := wt_le fun f _ => wt_max f
theorem hear_six {x : Ld} {f : Fr} (h6 : f.kd = 6) : ∀ y ∈ (hearM x f).2, y.kd = 7 := by
  have hall : ∀ (m : Ld) (p : Int), ∀ y ∈ allM m 7 p, y.kd = 7 := fun m p y hy => by
    obtain ⟨i, -, rfl, -⟩ := allM_mem hy
    rfl
  unfold hearM
  split
  · intro y hy; cases hy
  rename_i hw
  have hfit : fitsM x f := by
    by_cases hfit : fitsM x f
    · exact hfit
    · exact absurd (.inr hfit) hw
  have h1 : x.wait = 6 := by have := hfit.1; omega
  split
  · unfold noM
    split
    · exact hall _ _
    · intro y hy; cases hy
  · have e : (m2M x f).wait = 6 := by
      unfold m2M m1M
      simp only
      split <;> exact h1
    unfold countM
    split
    · rename_i h2; omega
    split
    · intro y hy; cases hy
    exact hall _ _
theorem wt_hear {w : List Int} {s d : Nat} {x : Ld} (hx : LdI w s d x) (hw : w.length ≤ 7) {f : Fr} (hk : f.kd = 2 ∨ f.kd = 4 ∨ f.kd = 6) : wtL (hearM x f).2 < wtF f := by
  have hl := hear_len x f
  rw [hx.ww] at hl
  by_cases h6 : f.kd = 6
  · have h1 := wt_le (l := (hearM x f).2) (k := 1) fun y hy => by
      have := hear_six h6 y hy
      unfold wtF
      rw [if_neg (by omega), if_neg (by omega), if_neg (by omega), if_neg (by omega)]
      omega
    have : wtF f = 8 := by unfold wtF; rw [if_neg (by omega), if_neg (by omega), if_neg (by omega), if_pos h6]
    omega
  · have h1 := wt_le (l := (hearM x f).2) (k := 9) fun y hy => by
      obtain ⟨-, -, -, -, h5⟩ := hear_frames y hy
      unfold wtF
      rw [if_neg (by omega), if_neg (by omega)]
      split
      · omega
      · rw [if_neg (by omega)]; omega
    have : wtF f = 64 := by unfold wtF; rw [if_neg (by omega), if_pos (by omega)]
    omega
theorem turn_kd {ref : Int → Bool} {f : Fr} {st : St} (h : (turnM ref f st).2.1 ≠ 0) : (f.kd = 1 ∧ (turnM ref f st).2.1 = 2) ∨ (f.kd = 3 ∧ (turnM ref f st).2.1 = 4) ∨ (f.kd = 5 ∧ (turnM ref f st).2.1 = 6) := by
  unfold turnM at h ⊢
  split
  · exact .inl ⟨by assumption, rfl⟩
  split
  · exact .inr (.inl ⟨by assumption, rfl⟩)
  split
  · rename_i h1 h3 h5
    rw [if_neg h1, if_neg h3, if_pos h5] at h
    refine .inr (.inr ⟨h5, ?_⟩)
    split
    · rename_i h6
      rw [if_pos h6] at h
      exact absurd rfl h
    · split <;> rfl
  · rename_i h1 h3 h5
    rw [if_neg h1, if_neg h3, if_neg h5] at h
    split at h <;> exact absurd rfl h
theorem wt_ans {M : Wm} (hI : WI M) {s : Int} (h0 : 0 ≤ s) (h1 : s < M.n.length) (f : Fr) : wtL (hearW M s f).2.1 < wtF f := by
  have hni := hI.at h0 h1
  obtain ⟨sn, rfl⟩ := Int.eq_ofNat_of_zero_le h0
  simp only [Int.toNat_natCast] at hni
  have hone := hearW_one M sn f
  have h2 := (nd_st hni M.ev f).2
  change ∀ x ∈ (hearW M sn f).2.1, _ at h2
  generalize (hearW M sn f).2.1 = l at *
  have hp := wt_pos f
  match l, hone with
  | [], _ => simp [wtL]; omega
  | [x], _ =>
    obtain ⟨ref, hx, hk, -⟩ := h2 x (by simp)
    have e : x.kd = (turnM ref f (plSt (ndAt M sn).pl f.dl)).2.1 := by rw [hx]
    rw [wt_cons, show wtL ([] : List Fr) = 0 from rfl]
    rcases turn_kd hk with ⟨k1, k2⟩ | ⟨k1, k2⟩ | ⟨k1, k2⟩
    · have a : wtF x = 64 := by unfold wtF; rw [if_neg (by omega), if_pos (by omega)]
      have b : wtF f = 65 := by unfold wtF; rw [if_pos (by omega)]
      omega
    · have a : wtF x = 64 := by unfold wtF; rw [if_neg (by omega), if_pos (by omega)]
      have b : wtF f = 65 := by unfold wtF; rw [if_pos (by omega)]
      omega
    · have a : wtF x = 8 := by unfold wtF; rw [if_neg (by omega), if_neg (by omega), if_neg (by omega), if_pos (by omega)]
      have b : wtF f = 9 := by unfold wtF; rw [if_neg (by omega), if_neg (by omega), if_pos (by omega)]
      omega
  | _ :: _ :: _, h => simp at h
/-- a delivery of the first frame -/
theorem deliver_wt {M : Wm} (hI : WI M) (h : M.l ≠ []) : wtL (deliverW M 0).1.l < wtL M.l ∧ (deliverW M 0).2 = none := by
  obtain ⟨f, r, e⟩ := List.exists_cons_of_ne_nil h
  have hk : wat M 0 = none := by unfold wat; rw [e, if_neg (by simp)]
  obtain ⟨⟨hbad, hto, hfr⟩, -, -⟩ := frame_at hI hk
  have hf : M.l.getD (0 : Int).toNat zeroF = f := by rw [e]; rfl
  have hr : M.l.eraseIdx (0 : Int).toNat = r := by rw [e]; rfl
  have hE := hI.erase (0 : Int).toNat
  have hn := hI.wn
  rw [hf] at hbad hto hfr
  rw [hr] at hE
  have hw : wtL M.l = wtF f + wtL r := by rw [e, wt_cons]
  have hp := wt_pos f
  unfold badF at hbad
  unfold deliverW
  rw [hk]
  simp only [hf, hr]
  split
  · exact ⟨by simp only; omega, by trivial⟩
  split
  · rename_i hkd
    split
    · exact ⟨by simp only; omega, by trivial⟩
    · rename_i x hx
      have hLI := (hI.at (s := f.to) (by omega) (by omega)).ldi f.dl.toNat x (by
        have h6 := (hI.at (s := f.to) (by omega) (by omega)).leads
        have hx' : (ndAt M f.to).leads.getD f.dl.toNat none = some x := hx
        rw [getD_some (x := none) (by omega), hx'])
      have := wt_hear hLI hI.wl hkd
      refine ⟨?_, by trivial⟩
      simp only [wt_app]
      omega
  · have := wt_ans hE (s := f.to) (by omega) (by simp only; omega) f
    refine ⟨?_, by trivial⟩
    simp only [wt_app]
    omega
def drainF : Nat → Wm → Wm × Nat
  | 0, M => (M, 0)
  | k + 1, M => if M.l = [] then (M, 0) else ((drainF k (deliverW M 0).1).1, (drainF k (deliverW M 0).1).2 + 1)
/-- all that flies is delivered -/
def drainW (M : Wm) : Wm × Nat := drainF (wtL M.l) M
theorem drainF_more : ∀ (k : Nat) {M : Wm}, WI M → ∀ (q : Nat), wtL M.l ≤ k → wtL M.l ≤ q → drainF k M = drainF q M
  | 0, M, hI, q, h1, h2 => by
    have e : M.l = [] := List.eq_nil_of_length_eq_zero (by have := wt_len M.l; omega)
    cases q with
    | zero => rfl
    | succ q => unfold drainF; rw [if_pos e]
  | k + 1, M, hI, q, h1, h2 => by
    by_cases e : M.l = []
    · cases q with
      | zero => unfold drainF; rw [if_pos e]
      | succ q => unfold drainF; rw [if_pos e, if_pos e]
    · have hd := (deliver_wt hI e).1
      cases q with
      | zero => omega
      | succ q =>
        unfold drainF
        rw [if_neg e, if_neg e, drainF_more k (deliver_ok hI 0).wi q (by omega) (by omega)]
theorem drain_nil {M : Wm} (h : M.l = []) : drainW M = (M, 0) := by
  unfold drainW
  rw [h]
  rfl
theorem drain_step {M : Wm} (hI : WI M) (h : M.l ≠ []) : drainW M = ((drainW (deliverW M 0).1).1, (drainW (deliverW M 0).1).2 + 1) := by
  have hd := (deliver_wt hI h).1
  unfold drainW
  obtain ⟨k, hk⟩ : ∃ k, wtL M.l = k + 1 := ⟨wtL M.l - 1, by omega⟩
  rw [hk]
  show (if M.l = [] then (M, 0) else _) = _
  rw [if_neg h, drainF_more k (deliver_ok hI 0).wi (wtL (deliverW M 0).1.l) (by omega) (Nat.le_refl _)]
/-- what holds of each delivery holds of all -/
theorem drain_ind {P : Wm → Prop} (hstep : ∀ M, WI M → M.l ≠ [] → P M → P (deliverW M 0).1) : ∀ (k : Nat) {M : Wm}, wtL M.l ≤ k → WI M → P M → WI (drainW M).1 ∧ P (drainW M).1 ∧ (drainW M).1.l = [] ∧ Same M (drainW M).1 ∧ (drainW M).2 ≤ wtL M.l
  | 0, M, hk, hI, hP => by
    have e : M.l = [] := List.eq_nil_of_length_eq_zero (by have := wt_len M.l; omega)
    rw [drain_nil e]
    exact ⟨hI, hP, e, .refl _, by simp⟩
  | k + 1, M, hk, hI, hP => by
    by_cases e : M.l = []
    · rw [drain_nil e]
      exact ⟨hI, hP, e, .refl _, by simp⟩
    · have hd := (deliver_wt hI e).1
      have hok := deliver_ok hI 0
      obtain ⟨a1, a2, a3, a4, a5⟩ := drain_ind hstep k (M := (deliverW M 0).1) (by omega) hok.wi (hstep M hI e hP)
      rw [drain_step hI e]
      exact ⟨a1, a2, a3, hok.same.trans a4, by simp only; omega⟩
/-- is a site of a set? -/
def inS (set : Int) (s : Nat) : Bool := decide (set / 2 ^ s % 2 = 1)
def tickS (set : Int) (M : Wm) (s : Nat) : Wm := if inS set s then (tickW M (s : Int)).1 else M
def ticksS (set : Int) (k : Nat) (M : Wm) : Wm := (List.range k).foldl (tickS set) M
theorem ticksS_succ (set : Int) (k : Nat) (M : Wm) : ticksS set (k + 1) M = tickS set (ticksS set k M) k := by
  unfold ticksS
  rw [List.range_succ, List.foldl_append]
  rfl
def roundW (set : Int) (M : Wm) : Wm × Nat := drainW (ticksS set M.n.length M)
def roundsW (set : Int) : Nat → Wm → Wm × Nat
  | 0, M => (M, 0)
  | k + 1, M => ((roundW set (roundsW set k M).1).1, (roundsW set k M).2 + (roundW set (roundsW set k M).1).2)
theorem tickS_ok {M : Wm} (h : WI M) (set : Int) (s : Nat) : StepOk M (tickS set M s) 84 := by
  unfold tickS
  split
  · exact tick_ok h _
  · exact .refl h _
theorem ticksS_ok {M : Wm} (h : WI M) (set : Int) : ∀ k, StepOk M (ticksS set k M) (84 * k)
  | 0 => .refl h 0
  | k + 1 => by
    rw [ticksS_succ]
    have h1 := ticksS_ok h set k
    have h2 := tickS_ok h1.wi set k
    exact ⟨h2.wi, h1.same.trans h2.same, by have := h1.len; have := h2.len; omega⟩
/-- what is kept by each step of a round -/
theorem ticks_ind {P : Wm → Prop} {set : Int} {M : Wm} (h : WI M) (hP : P M) (hstep : ∀ (M1 : Wm) (s : Nat), WI M1 → Same M M1 → s < M.n.length → inS set s = true → P M1 → P (tickW M1 (s : Int)).1) : ∀ k, k ≤ M.n.length → P (ticksS set k M)
  | 0, _ => hP
  | k + 1, hk => by
    rw [ticksS_succ]
    have h1 := ticksS_ok h set k
    have h2 := ticks_ind h hP hstep k (by omega)
    unfold tickS
    split
    · rename_i hs
      exact hstep _ k h1.wi h1.same (by omega) hs h2
    · exact h2
structure RndOk (M M' : Wm) : Prop where
  wi : WI M'
  same : Same M M'
  nil : M'.l = []
theorem round_ok {M : Wm} (h : WI M) (set : Int) : RndOk M (roundW set M).1 ∧ (roundW set M).2 ≤ 65 * (M.l.length + 84 * M.n.length) := by
  have h1 := ticksS_ok h set M.n.length
  obtain ⟨a1, -, a3, a4, a5⟩ := drain_ind (P := fun _ => True) (fun _ _ _ _ => trivial) _ (Nat.le_refl _) h1.wi trivial
  have h2 := h1.len
  have h3 := wt_65 (ticksS set M.n.length M).l
  exact ⟨⟨a1, h1.same.trans a4, a3⟩, by unfold roundW; omega⟩
theorem rounds_ok {M : Wm} (h : WI M) (set : Int) : ∀ k, WI (roundsW set k M).1 ∧ Same M (roundsW set k M).1 ∧ (roundsW set k M).1.l.length ≤ M.l.length ∧ (1 ≤ k → (roundsW set k M).1.l = [])
  | 0 => ⟨h, .refl _, Nat.le_refl _, fun h => by omega⟩
  | k + 1 => by
    obtain ⟨a1, a2, a3, -⟩ := rounds_ok h set k
    obtain ⟨b1, b2, b3⟩ := (round_ok a1 set).1
    have e : (roundsW set (k + 1) M).1.l = [] := b3
    exact ⟨b1, a2.trans b2, by rw [e]; simp, fun _ => e⟩
/-- safety, and what only rises, in rounds -/
theorem round_safe {M : Wm} (h : WI M) (hs : SafeW M) (he : EvW M) (set : Int) : SafeW (roundW set M).1 ∧ EvW (roundW set M).1 ∧ RiseW M (roundW set M).1 := by
  have h1 := ticksS_ok h set M.n.length
  have k1 := ticks_ind (P := fun M1 => SafeW M1 ∧ EvW M1 ∧ RiseW M M1) (set := set) h ⟨hs, he, .same h fun _ _ => rfl⟩ (fun M1 s a b _ _ c => ⟨safe_tick a c.1 _, ev_tick a c.2.1 _, c.2.2.trans (by rw [b.w]) (rise_tick a _)⟩) M.n.length (Nat.le_refl _)
  obtain ⟨a1, ⟨a2, a2', a2''⟩, -⟩ := drain_ind (P := fun M1 => SafeW M1 ∧ EvW M1 ∧ (M1.w = M.w ∧ RiseW M M1)) (fun M1 a _ c => ⟨safe_deliver a c.1 _, ev_deliver a c.2.1 _, by rw [(deliver_ok a 0).same.w, c.2.2.1], c.2.2.2.trans (by rw [c.2.2.1]) (rise_deliver a _)⟩) _ (Nat.le_refl _) h1.wi ⟨k1.1, k1.2.1, h1.same.w, k1.2.2⟩
  exact ⟨a2, a2', a2''.2⟩
theorem rounds_safe {M : Wm} (h : WI M) (hs : SafeW M) (he : EvW M) (set : Int) : ∀ k, SafeW (roundsW set k M).1 ∧ EvW (roundsW set k M).1 ∧ RiseW M (roundsW set k M).1
  | 0 => ⟨hs, he, .same h fun _ _ => rfl⟩
  | k + 1 => by
    obtain ⟨a1, a2, a3⟩ := rounds_safe h hs he set k
    obtain ⟨b1, b2, -, -⟩ := rounds_ok h set k
    obtain ⟨c1, c2, c3⟩ := round_safe b1 a1 a2 set
    exact ⟨c1, c2, a3.trans (by rw [b2.w]) c3⟩
/-- bounds, in rounds -/
theorem ticks_bnd {M : Wm} {P N : Int} (hI : WI M) (h : Bnd M P N) (set : Int) : ∀ k : Nat, Bnd (ticksS set k M) (P + 42 * k) (N + 6 * k)
  | 0 => h.mono (by simp) (by simp)
  | k + 1 => by
    rw [ticksS_succ]
    have h1 := ticks_bnd hI h set k
    have h2 := (ticksS_ok hI set k).wi
    unfold tickS
    split
    · exact (h1.tick h2 _).mono (by push_cast; omega) (by push_cast; omega)
    · exact h1.mono (by push_cast; omega) (by push_cast; omega)
theorem drain_bnd {P : Int} : ∀ (k : Nat) {M : Wm} {N : Int}, wtL M.l ≤ k → WI M → Bnd M P N → Bnd (drainW M).1 P (N + k)
  | 0, M, N, hk, hI, h => by
    have e : M.l = [] := List.eq_nil_of_length_eq_zero (by have := wt_len M.l; omega)
    rw [drain_nil e]
    exact h.mono (Int.le_refl _) (by omega)
  | k + 1, M, N, hk, hI, h => by
    by_cases e : M.l = []
    · rw [drain_nil e]
      exact h.mono (Int.le_refl _) (by omega)
    · have hd := (deliver_wt hI e).1
      rw [drain_step hI e]
      exact (drain_bnd k (N := N + 1) (by omega) (deliver_ok hI 0).wi (h.deliver hI 0)).mono (Int.le_refl _) (by push_cast; omega)
end Go.HL
end

/-! PwK -/
section
namespace Go.HL
open Go Go.Proofs
set_option linter.unusedVariables false
set_option linter.unusedSimpArgs false
def rndE (set n : Int) : Prop := set < 0 ∨ n < 0 ∨ 10 < n
instance (set n : Int) : Decidable (rndE set n) := by unfold rndE; infer_instance
theorem inS_iff (n s : Nat) : (((((n : Int) / 2 ^ s).toNat &&& Int.toNat 1 : Nat) : Int) = 1) ↔ inS (n : Int) s = true := by
  rw [bit_iff]
  unfold inS
  rw [decide_eq_true_iff]
  constructor
  · intro h
    have : ((n / 2 ^ s % 2 : Nat) : Int) = 1 := by rw [h]; rfl
    push_cast at this
    exact this
  · intro h
    have : ((n / 2 ^ s % 2 : Nat) : Int) = ((1 : Nat) : Int) := by push_cast; exact h
    exact Int.ofNat.inj this
theorem WdQ.refl {G : WdG} {M : Wm} {L : Heap} (hW : WdOk G M) : WdQ G M L (wdC G M :: L) := ⟨G, rfl, hW, rfl⟩
set_option maxHeartbeats 2000000 attribute [local irreducible] HW HO HQ HD HC QOp Has Upd Puts Gets seqQ blkQ loopQ fnQ actQ nextP unQ MapF
attribute [local irreducible] wdC tickW deliverW
theorem wsites_shut (G : WdG) (M : Wm) (L : Heap) (hW : WdOk G M) : HC Tryz.prog 102 [pt G.wp 0] (wdC G M :: L) (fun v L' => v = iv M.n.length ∧ L' = wdC G M :: L) := HC.shutQ (wsites_calls G M _ (wd_in hW L))
theorem rounds_calls (T : Nat) (E : Nat → Addr) (G : WdG) (M : Wm) (set n : Int) (L : Heap) (hE : Ez T E L) (hW : WdOk G M) (hM : WI M) (hl : M.l.length ≤ 1000000) (hs : set ≤ 9223372036854775807) (hn : n ≤ 9223372036854775807) :
    HC Tryz.prog 40 [pt G.wp 0, iv set, iv n] (wdC G M :: L) (fun v L' => if rndE set n then v = .tuple ⟨[iv 0, eV T E (some 2)]⟩ ∧ L' = wdC G M :: L else v = .tuple ⟨[iv (roundsW set n.toNat M).2, .nilIface]⟩ ∧ WdQ G (roundsW set n.toNat M).1 L L') := by
  by_cases hr : rndE set n
  · have hG2 := (hE.er [2]).cons (wdC G M)
    simp only [if_pos hr]
    unfold rndE at hr
    refine Za (fun _ _ => Tryz.call40 _ _) Tryz.func40 rfl Tryz.ntmps40 (Nat.le_of_ble_eq_true rfl) ?_; simp only [args0, Nat.reduceAdd]
    repeat' (first | refine uN ?_ | refine g_k S ?_ | refine uC (wsites_shut G M L hW) ?_ | (refine uP ?_ ?_ <;> (intro h; ((try simp only [zs, ne_eq, and_true, true_and, eq_self, reduceCtorEq] at h); try exact zx))) | fail)
    all_goals first | (exfalso; omega) | exact sp2 (LS.refl _) ⟨rfl, rfl⟩
  · simp only [if_neg hr]
    unfold rndE at hr
    obtain ⟨sn, rfl⟩ := Int.eq_ofNat_of_zero_le (show 0 ≤ set by omega)
    obtain ⟨k, rfl⟩ := Int.eq_ofNat_of_zero_le (show 0 ≤ n by omega)
    rw [Int.toNat_natCast]
    have hok := rounds_ok hM (sn : Int)
    have hmany : ∀ i, (roundsW (sn : Int) i M).2 ≤ 100000000 * i := fun i => by
      induction i with
      | zero => exact Nat.le_refl _
      | succ i ih =>
        obtain ⟨a1, a2, a3, -⟩ := hok i
        have h2 := (round_ok a1 (sn : Int)).2
        have h3 := a2.n
        have h4 := hM.wn
        have h5 := hM.wl
        have : (roundsW (sn : Int) (i + 1) M).2 = (roundsW (sn : Int) i M).2 + (roundW (sn : Int) (roundsW (sn : Int) i M).1).2 := rfl
        omega
    refine Za (fun _ _ => Tryz.call40 _ _) Tryz.func40 rfl Tryz.ntmps40 (Nat.le_of_ble_eq_true rfl) ?_; simp only [args0, Nat.reduceAdd]
    repeat' (first | refine uN ?_ | refine g_k S ?_ | refine uC (wsites_shut G M L hW) ?_ | (refine uP ?_ ?_ <;> (intro h; ((try simp only [zs, ne_eq, and_true, true_and, eq_self, reduceCtorEq] at h); try exact zx))) | fail)
    all_goals first | (exfalso; omega) | skip
    refine hw_sp (L' := wdC G (roundsW (sn : Int) 0 M).1 :: L) ?_ (LS.refl _)
    refine Zf (σ := Nat × WdG) (fun r => [(0, pt G.wp 0), (1, iv sn), (8, iv (roundsW (sn : Int) r.1 M).2), (21, iv k), (22, iv r.1)]) (fun r => wdC r.2 (roundsW (sn : Int) r.1 M).1 :: L)
      (fun r => r.1 ≤ k ∧ r.2.wp = G.wp ∧ WdOk r.2 (roundsW (sn : Int) r.1 M).1) (fun r => k - r.1) (0, G) uS (List.Sublist.refl _) ⟨by simp, rfl, hW⟩ ?_
    rintro ⟨i, G1⟩ ⟨hi, e1, hW1⟩
    simp only at hi e1 hW1 ⊢
    by_cases hlt : i < k
    · obtain ⟨hI1, hS1, hl1, -⟩ := hok i
      have hm1 := hmany i
      have hrs : roundsW (sn : Int) (i + 1) M = ((roundW (sn : Int) (roundsW (sn : Int) i M).1).1, (roundsW (sn : Int) i M).2 + (roundW (sn : Int) (roundsW (sn : Int) i M).1).2) := rfl
      have hi10 : (i : Int) < 10 := by omega
      clear hok hmany
      generalize roundsW (sn : Int) i M = R at *
      obtain ⟨M1, many⟩ := R
      simp only at hW1 hI1 hS1 hl1 hm1 hrs ⊢
      have hn1 := hI1.wn
      have hw1 := hI1.wl
      have htk := ticksS_ok hI1 (sn : Int)
      rw [← e1]
      repeat' (first | refine uN ?_ | refine g_k S ?_ | refine uC (wsites_shut G1 M1 L hW1) ?_ | (refine uP ?_ ?_ <;> (intro h; ((try simp only [zs, ne_eq, and_true, true_and, eq_self, reduceCtorEq] at h); try exact zx))) | fail)
      refine Zf (σ := Nat × WdG) (fun r => [(0, pt G1.wp 0), (1, iv sn), (8, iv many), (21, iv k), (22, iv i), (25, iv M1.n.length), (26, iv r.1)]) (fun r => wdC r.2 (ticksS (sn : Int) r.1 M1) :: L)
        (fun r => r.1 ≤ M1.n.length ∧ r.2.wp = G1.wp ∧ WdOk r.2 (ticksS (sn : Int) r.1 M1)) (fun r => M1.n.length - r.1) (0, G1) uS (List.Sublist.refl _) ⟨by simp, rfl, hW1⟩ ?_
      rintro ⟨s, G2⟩ ⟨hs2, e2, hW2⟩
      simp only at hs2 e2 hW2 ⊢
      by_cases hsl : s < M1.n.length
      · have hss := ticksS_succ (sn : Int) s M1
        have hk2 := htk s
        have hl2 := hk2.len
        have kt := fun L hG => HC.shut (V := fun u => u = eV T E (tickW (ticksS (sn : Int) s M1) s).2) (wtick_calls T E G2 (ticksS (sn : Int) s M1) s L hG hW2 hk2.wi (by omega))
        have hbi := inS_iff sn (s : Int).toNat
        have hbo := bit_ok sn (s : Int).toNat (by omega)
        rw [show inS (sn : Int) (s : Int).toNat = inS (sn : Int) s from rfl] at hbi
        unfold tickS at hss
        cases hin : inS (sn : Int) s with
        | true =>
          rw [hin] at hbi hss
          simp only [if_true, iff_true] at hbi hss
          rw [← e2]
          repeat' (first | refine uN ?_ | refine g_k S ?_ | refine uC (wsites_shut G1 M1 L hW1) ?_ | (refine uP ?_ ?_ <;> (intro h; ((try simp only [zs, ne_eq, and_true, true_and, eq_self, reduceCtorEq] at h); try exact zx))) | fail)
          all_goals first | (exfalso; omega) | skip
          refine gc (kt _ (hE.er [2, 3, 4, 5, 6])) ?_
          rintro v L' ⟨rfl, G3, e3, hW3, rfl⟩
          rw [← e3]
          repeat' (first | refine uN ?_ | refine g_k S ?_ | refine uC (wsites_shut G1 M1 L hW1) ?_ | (refine uP ?_ ?_ <;> (intro h; ((try simp only [zs, ne_eq, and_true, true_and, eq_self, reduceCtorEq] at h); try exact zx))) | fail)
          exact Zc (s + 1, G3) (by simp only [e3, e2]; exact uS) (by simp only [hss]; exact LS.refl _) ⟨by simp only; omega, by simp only [e3, e2], by simp only [hss]; exact hW3⟩ (by simp only; omega)
        | false =>
          rw [hin] at hbi hss
          simp only [Bool.false_eq_true, if_false, iff_false] at hbi hss
          repeat' (first | refine uN ?_ | refine g_k S ?_ | refine uC (wsites_shut G1 M1 L hW1) ?_ | (refine uP ?_ ?_ <;> (intro h; ((try simp only [zs, ne_eq, and_true, true_and, eq_self, reduceCtorEq] at h); try exact zx))) | fail)
          all_goals first | (exfalso; omega) | skip
          exact Zc (s + 1, G2) uS (by simp only [hss]; exact LS.refl _) ⟨by simp only; omega, e2, by simp only [hss]; exact hW2⟩ (by simp only; omega)
      · obtain rfl : s = M1.n.length := by omega
        have hkt := htk M1.n.length
        have hlt2 := hkt.len
        have hw65 := wt_65 (ticksS (sn : Int) M1.n.length M1).l
        have hrd := (round_ok hI1 (sn : Int)).2
        unfold roundW at hrs hrd
        have hIt := hkt.wi
        have hseq : ∀ M2, WI M2 → M2.l.length ≤ 99999999 → ∀ G L hG hW, _ := fun M2 hI2 hl2 G L hG hW => HC.shut (V := fun u => u = eV T E (deliverW M2 0).2) (wdeliver_calls T E G M2 0 L hG hW hI2 hl2)
        clear htk hkt
        generalize ticksS (sn : Int) M1.n.length M1 = MT at *
        rw [← e2]
        repeat' (first | refine uN ?_ | refine g_k S ?_ | refine uC (wsites_shut G1 M1 L hW1) ?_ | (refine uP ?_ ?_ <;> (intro h; ((try simp only [zs, ne_eq, and_true, true_and, eq_self, reduceCtorEq] at h); try exact zx))) | fail)
        refine Zf (σ := Wm × WdG × Nat) (fun r => [(0, pt G2.wp 0), (1, iv sn), (8, iv r.2.2), (21, iv k), (22, iv i)]) (fun r => wdC r.2.1 r.1 :: L)
          (fun r => WI r.1 ∧ r.2.1.wp = G2.wp ∧ WdOk r.2.1 r.1 ∧ wtL r.1.l ≤ wtL MT.l ∧ (drainW r.1).1 = (drainW MT).1 ∧ r.2.2 + (drainW r.1).2 = many + (drainW MT).2) (fun r => wtL r.1.l) (MT, G2, many) uS (List.Sublist.refl _) ⟨hIt, rfl, hW2, Nat.le_refl _, rfl, rfl⟩ ?_
        rintro ⟨M2, G3, j⟩ ⟨hI2, e3, hW3, hwt, hd1, hd2⟩
        simp only at hI2 e3 hW3 hwt hd1 hd2 ⊢
        have hl2 := wt_len M2.l
        have kd := hseq M2 hI2 (by omega)
        rw [← e3]
        by_cases hnl : M2.l = []
        · have hde : (deliverW M2 0).2 = some 4 ∧ (deliverW M2 0).1 = M2 := by
            unfold deliverW wat
            rw [if_pos (by rw [hnl]; simp)]
            exact ⟨rfl, rfl⟩
          rw [drain_nil hnl] at hd1 hd2
          simp only at hd1 hd2
          obtain ⟨hde1, hde2⟩ := hde
          simp only [hde1, hde2] at kd
          repeat' (first | refine uN ?_ | refine g_k S ?_ | refine uC (wsites_shut G1 M1 L hW1) ?_ | (refine uP ?_ ?_ <;> (intro h; ((try simp only [zs, ne_eq, and_true, true_and, eq_self, reduceCtorEq] at h); try exact zx))) | fail)
          refine gc (kd G3 _ (hE.er [2, 3, 4, 5, 6]) hW3) ?_
          rintro v L' ⟨rfl, G4, e4, hW4, rfl⟩
          rw [← e4]
          repeat' (first | refine uN ?_ | refine g_k S ?_ | refine uC (wsites_shut G1 M1 L hW1) ?_ | (refine uP ?_ ?_ <;> (intro h; ((try simp only [zs, ne_eq, and_true, true_and, eq_self, reduceCtorEq] at h); try exact zx))) | fail)
          refine Zc (i + 1, G4) (by simp only [hrs, ← hd2, Nat.add_zero, e4, e3, e2]; exact uS) (by simp only [hrs, ← hd1]; exact LS.refl _) ⟨by simp only; omega, by simp only [e4, e3, e2, e1], by simp only [hrs, ← hd1]; exact hW4⟩ (by simp only; omega)
        · obtain ⟨hd3, hd4⟩ := deliver_wt hI2 hnl
          have hds := drain_step hI2 hnl
          rw [hds] at hd1 hd2
          simp only at hd1 hd2
          have hI3 := (deliver_ok hI2 0).wi
          rw [hd4] at kd
          repeat' (first | refine uN ?_ | refine g_k S ?_ | refine uC (wsites_shut G1 M1 L hW1) ?_ | (refine uP ?_ ?_ <;> (intro h; ((try simp only [zs, ne_eq, and_true, true_and, eq_self, reduceCtorEq] at h); try exact zx))) | fail)
          refine gc (kd G3 _ (hE.er [2, 3, 4, 5, 6]) hW3) ?_
          rintro v L' ⟨rfl, G4, e4, hW4, rfl⟩
          rw [← e4]
          repeat' (first | refine uN ?_ | refine g_k S ?_ | refine uC (wsites_shut G1 M1 L hW1) ?_ | (refine uP ?_ ?_ <;> (intro h; ((try simp only [zs, ne_eq, and_true, true_and, eq_self, reduceCtorEq] at h); try exact zx))) | fail)
          exact Zc ((deliverW M2 0).1, G4, j + 1) (by simp only [e4, e3]; exact uS) (LS.refl _) ⟨hI3, by simp only [e4, e3], hW4, by simp only; omega, hd1, by simp only; omega⟩ hd3
    · obtain rfl : i = k := by omega
      repeat' (first | refine uN ?_ | refine g_k S ?_ | refine uC (wsites_shut G M L hW) ?_ | (refine uP ?_ ?_ <;> (intro h; ((try simp only [zs, ne_eq, and_true, true_and, eq_self, reduceCtorEq] at h); try exact zx))) | fail)
      exact sp2 (LS.refl _) ⟨rfl, G1, e1, hW1, rfl⟩
end Go.HL
end

/-! EdD -/
section
namespace Go.HL
open Go Go.Proofs
set_option linter.unusedVariables false
set_option linter.unusedSimpArgs false
/-- a site heard a frame: what is seen then -/
structure HearV (M M' : Wm) (s : Nat) (f : Fr) (ans : List Fr) : Prop where
  st : ∀ t d : Nat, d < 6 → stW M' t d = stW M t d ∨ (t = s ∧ d = f.dl.toNat ∧ ∃ ref, stW M' t d = (turnM ref f (stW M t d)).1)
  ld : ∀ t d : Nat, ldW M' t d = ldW M t d ∨ (t = s ∧ ldW M' t d = none)
  an : ∀ y ∈ ans, ∃ ref, y = ⟨s, f.fr, f.dl, (turnM ref f (stW M s f.dl.toNat)).2.1, f.att, (turnM ref f (stW M s f.dl.toNat)).2.2, (turnM ref f (stW M s f.dl.toNat)).1⟩ ∧ (turnM ref f (stW M s f.dl.toNat)).2.1 ≠ 0
theorem dl_nat {f : Fr} (h : ¬ badF f) : ((f.dl.toNat : Nat) : Int) = f.dl ∧ f.dl.toNat < 6 := by unfold badF at h; omega
theorem hear_view {M : Wm} (hI : WI M) {s : Nat} (h1 : s < M.n.length) (f : Fr) : HearV M (hearW M s f).1 s f (hearW M s f).2.1 := by
  have hni := hI.at (s := (s : Int)) (by omega) (by omega)
  simp only [Int.toNat_natCast] at hni
  obtain ⟨k1, k2⟩ := nd_st hni M.ev f
  refine ⟨fun t d hd => ?_, fun t d => ?_, fun y hy => ?_⟩
  · unfold stW
    rw [hear_nd (by omega) (by omega)]
    split
    · rename_i e
      have e' : t = s := by omega
      subst e'
      rcases k1 d hd with k | ⟨k, ref, k'⟩
      · exact .inl k
      · exact .inr ⟨rfl, k, ref, k'⟩
    · exact .inl rfl
  · unfold ldW
    rw [hear_nd (by omega) (by omega)]
    split
    · rename_i e
      have e' : t = s := by omega
      subst e'
      rcases hear_leads t (ndAt M t) M.ev f with k | k
      · rw [k]; exact .inl rfl
      · rw [k]; exact .inr ⟨rfl, noLeads_getD d⟩
    · exact .inl rfl
  · have hy' : y ∈ (hearNd s (ndAt M s) M.ev f).2.2.1 := hy
    obtain ⟨ref, e, hk, hb, -⟩ := k2 y hy'
    have h2 := (dl_nat hb).1
    unfold stW
    rw [h2]
    exact ⟨ref, e, hk⟩
/-- a site that is up, and whose power stays, heard a frame -/
structure HearL (M M' : Wm) (s : Nat) (f : Fr) (ans : List Fr) (ref : Int → Bool) : Prop where
  rf : ∃ j, (ndAt M (s : Int)).site = some (j, ref)
  me : stW M' s f.dl.toNat = (turnM ref f (stW M s f.dl.toNat)).1
  st : ∀ t d : Nat, t ≠ s ∨ d ≠ f.dl.toNat → stW M' t d = stW M t d
  ld : ∀ t d : Nat, ldW M' t d = ldW M t d
  an : ans = if (turnM ref f (stW M s f.dl.toNat)).2.1 = 0 then [] else [⟨s, f.fr, f.dl, (turnM ref f (stW M s f.dl.toNat)).2.1, f.att, (turnM ref f (stW M s f.dl.toNat)).2.2, (turnM ref f (stW M s f.dl.toNat)).1⟩]
  lv : ∀ t : Nat, LiveW M t → LiveW M' t
  rr : ∀ (t : Nat) j r, (ndAt M (t : Int)).site = some (j, r) → ∃ j', (ndAt M' (t : Int)).site = some (j', r)
theorem hear_live {M : Wm} (hI : WI M) {s : Nat} (h1 : s < M.n.length) (hl : LiveW M s) {f : Fr} (hb : ¬ badF f) (hto : f.to = s) (hn : nmW M s f.dl.toNat + 1 < 4294967296) :
    ∃ ref, HearL M (hearW M s f).1 s f (hearW M s f).2.1 ref ∧ (hearW M s f).2.2 = true := by
  have hni := hI.at (s := (s : Int)) (by omega) (by omega)
  simp only [Int.toNat_natCast] at hni
  obtain ⟨j, ref, hs, -⟩ := hl.off hni
  obtain ⟨k1, k2, k3, k4, k5, k6⟩ := nd_live hni hl hs M.ev hb hto hn
  obtain ⟨h2, h3⟩ := dl_nat hb
  have e6 : (hearW M s f).2 = (hearNd s (ndAt M s) M.ev f).2.2 := rfl
  refine ⟨ref, ⟨⟨j, hs⟩, ?_, fun t d htd => ?_, fun t d => ?_, ?_, fun t ht => ?_, fun t j2 r2 ht => ?_⟩, by rw [e6, k6]⟩
  · unfold stW
    rw [hear_nd (by omega) (by omega), if_pos rfl, h2]
    exact k4
  · unfold stW
    rw [hear_nd (by omega) (by omega)]
    split
    · rename_i e
      have e' : t = s := by omega
      subst e'
      exact k5 d (htd.resolve_left (fun h => h rfl))
    · rfl
  · unfold ldW
    rw [hear_nd (by omega) (by omega)]
    split
    · rename_i e
      have e' : t = s := by omega
      subst e'
      rw [k3]
    · rfl
  · rw [e6, k6]
    unfold stW
    rw [h2]
  · unfold LiveW
    rw [hear_nd (by omega) (by omega)]
    split
    · obtain ⟨j', hj⟩ := k1
      exact ⟨by rw [hj]; simp, k2⟩
    · exact ht
  · rw [hear_nd (by omega) (by omega)]
    split
    · rename_i e
      have e' : t = s := by omega
      subst e'
      rw [hs] at ht
      cases ht
      exact k1
    · exact ⟨_, ht⟩
/-- what a delivery of the first frame makes -/
inductive DelV (M : Wm) (f : Fr) (r : List Fr) (M' : Wm) : Prop where
  | gone (e : M' = { M with l := r }) (why : (ndAt M f.to).site = none ∨ M.br (linkP f) = true ∨ ((f.kd = 2 ∨ f.kd = 4 ∨ f.kd = 6) ∧ ldW M f.to.toNat f.dl.toNat = none))
  | lead (x : Ld) (hx : ldW M f.to.toNat f.dl.toNat = some x) (hi : LdI M.w f.to.toNat f.dl.toNat x) (hk : f.kd = 2 ∨ f.kd = 4 ∨ f.kd = 6) (hb : M.br (linkP f) = false) (up : (ndAt M f.to).site ≠ none) (br : M'.br = M.br) (l : M'.l = r ++ (hearM x f).2)
      (st : ∀ t d, stW M' t d = stW M t d) (ld : ∀ t d, ldW M' t d = if t = f.to.toNat ∧ d = f.dl.toNat then some (hearM x f).1 else ldW M t d) (lv : ∀ t, LiveW M t → LiveW M' t) (rr : ∀ t : Nat, (ndAt M' (t : Int)).site = (ndAt M (t : Int)).site) (ev : M'.ev = M.ev) (dn : ∀ t : Nat, (ndAt M' (t : Int)).done = (ndAt M (t : Int)).done)
  | hear (hk : ¬ (f.kd = 2 ∨ f.kd = 4 ∨ f.kd = 6)) (hb : M.br (linkP f) = false) (up : (ndAt M f.to).site ≠ none) (e : M' = { (hearW { M with l := r } f.to.toNat f).1 with l := r ++ (hearW { M with l := r } f.to.toNat f).2.1 })
theorem deliver_view {M : Wm} (hI : WI M) {f : Fr} {r : List Fr} (e : M.l = f :: r) : okF M.w.length f ∧ DelV M f r (deliverW M 0).1 := by
  have hk : wat M 0 = none := by unfold wat; rw [e, if_neg (by simp)]
  have hfa := (frame_at hI hk).1
  have hf : M.l.getD (0 : Int).toNat zeroF = f := by rw [e]; rfl
  have hr : M.l.eraseIdx (0 : Int).toNat = r := by rw [e]; rfl
  rw [hf] at hfa
  refine ⟨hfa, ?_⟩
  obtain ⟨hbad, hto, hfr⟩ := hfa
  have hn := hI.wn
  have hb2 := hbad
  unfold badF at hb2
  have hE := hI.erase (0 : Int).toNat
  rw [hr] at hE
  unfold deliverW
  rw [hk]
  simp only [hf, hr]
  split
  · rename_i h
    refine .gone rfl ?_
    rcases h with h | h
    · exact .inl (Option.isNone_iff_eq_none.1 h)
    · exact .inr (.inl h)
  · rename_i h
    have h1 : (ndAt M f.to).site ≠ none := fun e => h (.inl (by show (ndAt M f.to).site.isNone = true; rw [e]; rfl))
    have h2 : M.br (linkP f) = false := by
      cases hq : M.br (linkP f) with
      | false => rfl
      | true => exact absurd (.inr hq) h
    have htn : ((f.to.toNat : Nat) : Int) = f.to := by omega
    split
    · rename_i hkd
      split
      · rename_i hx
        refine .gone rfl (.inr (.inr ⟨hkd, ?_⟩))
        unfold ldW
        rw [htn]
        exact hx
      · rename_i x hx
        have hx' : (ndAt M f.to).leads.getD f.dl.toNat none = some x := hx
        have h6 := (hI.at (s := f.to) (by omega) (by omega)).leads
        have hLI := (hI.at (s := f.to) (by omega) (by omega)).ldi f.dl.toNat x (by rw [getD_some (x := none) (by omega), hx'])
        refine .lead x (by unfold ldW; rw [htn]; exact hx') hLI hkd h2 h1 rfl rfl (fun t d => ?_) (fun t d => ?_) (fun t ht => ?_) (fun t => ?_) rfl (fun t => ?_)
        · exact stW_lead (M := { M with l := r }) (by omega) (by simp only; omega) _ _ t d
        · have := ldW_set (M := { M with l := r }) (s := f.to) (by omega) (by simp only; omega) h6 (d := f.dl.toNat) (by omega) (some (hearM x f).1) (r ++ (hearM x f).2) t d
          exact this.trans (ite_congr (propext ⟨fun h => ⟨by omega, h.2⟩, fun h => ⟨by omega, h.2⟩⟩) (fun _ => rfl) (fun _ => rfl))
        · show LiveN (ndAt (setN { M with l := r } f.to { ndAt { M with l := r } f.to with leads := _ }) (t : Int))
          rw [Ze (M := { M with l := r }) (by omega) (by simp only; omega)]
          split
          · rename_i e2
            have ht' : LiveN (ndAt M (t : Int)) := ht
            rw [e2] at ht'
            exact ht'
          · exact ht
        · show (ndAt (setN { M with l := r } f.to { ndAt { M with l := r } f.to with leads := _ }) (t : Int)).site = _
          rw [Ze (M := { M with l := r }) (by omega) (by simp only; omega)]
          split
          · rename_i e2
            rw [e2]
            rfl
          · rfl
        · show (ndAt (setN { M with l := r } f.to { ndAt { M with l := r } f.to with leads := _ }) (t : Int)).done = _
          rw [Ze (M := { M with l := r }) (by omega) (by simp only; omega)]
          split
          · rename_i e2
            rw [e2]
            rfl
          · rfl
    · rename_i hkd
      rw [← htn]
      exact .hear hkd h2 h1 rfl
/-- what a try makes -/
inductive TryV (M : Wm) (s d : Nat) (a : Int) (q : Wm × Bool) : Prop where
  | far (h : 1048576 < a) (e : q = (M, true))
  | fell (h : a ≤ 1048576) (hr : (hearW M s (tryF s d a)).2.2 = false) (e : q = ((hearW M s (tryF s d a)).1, false))
  | began (h : a ≤ 1048576) (hr : (hearW M s (tryF s d a)).2.2 = true) (hb : q.2 = true) (br : q.1.br = M.br) (l : q.1.l = M.l ++ startM (newLd s d M.w a 4) ++ (hearsM (newLd s d M.w a 4) (hearW M s (tryF s d a)).2.1).2)
      (st : ∀ t e, stW q.1 t e = stW (hearW M s (tryF s d a)).1 t e) (ld : ∀ t e, ldW q.1 t e = if t = s ∧ e = d then some (hearsM (newLd s d M.w a 4) (hearW M s (tryF s d a)).2.1).1 else ldW (hearW M s (tryF s d a)).1 t e)
      (lv : ∀ t, LiveW (hearW M s (tryF s d a)).1 t → LiveW q.1 t) (rr : ∀ t : Nat, (ndAt q.1 (t : Int)).site = (ndAt (hearW M s (tryF s d a)).1 (t : Int)).site)
theorem try_view {M : Wm} (hI : WI M) {s d : Nat} (h1 : s < M.n.length) (hd : d < 6) (p : Int) : TryV M s d (tryAtt M.w.length s (tryAbove (ndAt M s) d p + 1)) (tryW M s d p) := by
  unfold tryW
  simp only
  generalize ha : tryAtt M.w.length s (tryAbove (ndAt M s) d p + 1) = a
  split
  · rename_i h
    exact .far h rfl
  rename_i hle
  split
  · rename_i hr
    exact .fell (by omega) hr rfl
  · rename_i hr
    have hS := same_hear M s (tryF s d a)
    have hn := hI.wn
    have hIR := (hI.hear (s := (s : Int)) (f := tryF s d a) (by omega) (by omega) (by show (s : Int) < _; omega)).1
    have h6 := (hIR.at (s := (s : Int)) (by omega) (by rw [hS.n]; omega)).leads
    have h1' : (s : Int) < (hearW M s (tryF s d a)).1.n.length := by rw [hS.n]; omega
    refine .began (by omega) (by simpa using hr) rfl rfl rfl (fun t e => stW_lead (by omega) h1' _ _ t e) (fun t e => ?_) (fun t ht => ?_) (fun t => ?_)
    · have := ldW_set (M := (hearW M s (tryF s d a)).1) (s := (s : Int)) (by omega) h1' h6 (d := d) hd (some (hearsM (newLd s d M.w a 4) (hearW M s (tryF s d a)).2.1).1) ((hearW M s (tryF s d a)).1.l ++ startM (newLd s d M.w a 4) ++ (hearsM (newLd s d M.w a 4) (hearW M s (tryF s d a)).2.1).2) t e
      exact this.trans (ite_congr (propext ⟨fun h => ⟨by omega, h.2⟩, fun h => ⟨by omega, h.2⟩⟩) (fun _ => rfl) (fun _ => rfl))
    · show LiveN (ndAt (setN (hearW M s (tryF s d a)).1 s { ndAt (hearW M s (tryF s d a)).1 s with leads := _ }) (t : Int))
      rw [Ze (by omega) h1']
      split
      · rename_i e2
        have ht' : LiveN (ndAt (hearW M s (tryF s d a)).1 (t : Int)) := ht
        rw [e2] at ht'
        exact ht'
      · exact ht
    · show (ndAt (setN (hearW M s (tryF s d a)).1 s { ndAt (hearW M s (tryF s d a)).1 s with leads := _ }) (t : Int)).site = _
      rw [Ze (by omega) h1']
      split
      · rename_i e2
        rw [e2]
      · rfl
end Go.HL
end

/-! EdE -/
section
namespace Go.HL
open Go Go.Proofs
set_option linter.unusedVariables false
set_option linter.unusedSimpArgs false
theorem bit_test (q i : Nat) : bit q i ↔ q.testBit i = true := by
  unfold bit
  rw [Nat.testBit_eq_decide_div_mod_eq]
  simp
theorem quor_sub {w : List Int} (hc : checkW w = none) {a b : Nat} (hq : quor w a = true) (ha : a < 2 ^ w.length) (h : ∀ i, i < w.length → bit a i → bit b i) : quor w b = true := by
  have e : a ||| b = b := by
    apply Nat.eq_of_testBit_eq
    intro i
    rw [Nat.testBit_or]
    cases h1 : a.testBit i with
    | false => simp
    | true =>
      have hi : i < w.length := by
        by_cases hlt : i < w.length
        · exact hlt
        · rw [Nat.testBit_lt_two_pow (Nat.lt_of_lt_of_le ha (Nat.pow_le_pow_right (by decide) (by omega)))] at h1
          cases h1
      have := (bit_test b i).1 (h i hi ((bit_test a i).2 h1))
      rw [this]
      rfl
  rw [← e]
  exact quor_more hc hq
theorem inS_bit (n s : Nat) : inS (n : Int) s = true ↔ bit n s := by
  unfold inS bit
  rw [decide_eq_true_iff]
  constructor
  · intro h
    have : ((n / 2 ^ s % 2 : Nat) : Int) = ((1 : Nat) : Int) := by push_cast; exact h
    exact Int.ofNat.inj this
  · intro h
    have : ((n / 2 ^ s % 2 : Nat) : Int) = 1 := by rw [h]; rfl
    push_cast at this
    exact this
/-- links are whole between sites of a set alone -/
def CutOff (set : Int) (n : Nat) (br : Int × Int → Bool) : Prop := ∀ a b : Nat, a < n → b < n → a ≠ b → ¬ (inS set a = true ∧ inS set b = true) → br (min (a : Int) b, max (a : Int) b) = true
theorem try_pos {M : Wm} (hI : WI M) {s d : Nat} (hs : s < M.n.length) (hd : d < 6) {p : Int} (hp : 0 ≤ p ∧ p ≤ 1048576) : 1 ≤ tryAtt M.w.length s (tryAbove (ndAt M s) d p + 1) := by
  have h1 := tryAtt_le (k := M.w.length) (s := (s : Int)) (a := tryAbove (ndAt M s) d p + 1) (by have := hI.w1; omega)
  have h2 := tryAbove_ok (hI.at (s := (s : Int)) (by omega) (by omega)) (d := (d : Int)) (p := p) (by omega) hp
  omega
/-- a try of any deal -/
theorem try_same {M : Wm} {s d p : Int} : Same M (tryW M s d p).1 := by
  have hS := same_hear M s (tryF s d (tryAtt M.w.length s (tryAbove (ndAt M s) d p + 1)))
  unfold tryW
  simp only
  split
  · exact .refl _
  split
  · exact hS
  · exact hS.trans ⟨rfl, by simp [setN]⟩
end Go.HL
end

/-! EdF -/
section
namespace Go.HL
open Go Go.Proofs
set_option linter.unusedVariables false
set_option linter.unusedSimpArgs false
def linkA (set : Int) (M : Wm) (a b : Nat) : Wm := (linkW M a b (inS set a && inS set b)).1
def linksA (set : Int) (a k : Nat) (M : Wm) : Wm := (List.range k).foldl (fun M b => linkA set M a b) M
def bootA (set : Int) (M : Wm) (a : Nat) : Wm := if inS set a then (upW (downW M a).1 a).1 else M
def prepA (set : Int) (n : Nat) (M : Wm) (a : Nat) : Wm := bootA set (linksA set a n M) a
def prepW (set : Int) (n k : Nat) (M : Wm) : Wm := (List.range k).foldl (prepA set n) M
theorem linksA_succ (set : Int) (a k : Nat) (M : Wm) : linksA set a (k + 1) M = linkA set (linksA set a k M) a k := by
  unfold linksA
  rw [List.range_succ, List.foldl_append]
  rfl
theorem prepW_succ (set : Int) (n k : Nat) (M : Wm) : prepW set n (k + 1) M = prepA set n (prepW set n k M) k := by
  unfold prepW
  rw [List.range_succ, List.foldl_append]
  rfl
structure PrepI (M0 M : Wm) : Prop where
  wi : WI M
  same : Same M0 M
  safe : SafeW M0 → SafeW M
  ev : EvW M0 → EvW M
  l : M.l = M0.l
  st : ∀ t d, stW M t d = stW M0 t d
  bn : ∀ P N, Bnd M0 P N → Bnd M P N
theorem PrepI.refl {M : Wm} (h : WI M) : PrepI M M := ⟨h, .refl _, id, id, rfl, fun _ _ => rfl, fun _ _ h => h⟩
theorem PrepI.trans {A B C : Wm} (h : PrepI A B) (h' : PrepI B C) : PrepI A C := ⟨h'.wi, h.same.trans h'.same, fun s => h'.safe (h.safe s), fun s => h'.ev (h.ev s), h'.l.trans h.l, fun t d => (h'.st t d).trans (h.st t d), fun P N b => h'.bn P N (h.bn P N b)⟩
def xLink (a b : Int) (w : Bool) : StpS := if w then ⟨[108, 105, 110, 107], a, b, 0⟩ else ⟨[98, 114, 101, 97, 107], a, b, 0⟩
theorem xLink_e (M : Wm) (a b : Int) (w : Bool) : actW M (xLink a b w) = linkW M a b w := by
  unfold actW xLink
  cases w <;> simp
def xDown (a : Int) : StpS := ⟨[100, 111, 119, 110], a, 0, 0⟩
theorem xDown_e (M : Wm) (a : Int) : actW M (xDown a) = downW M a := by unfold actW xDown; simp
def xUp (a : Int) : StpS := ⟨[117, 112], a, 0, 0⟩
theorem xUp_e (M : Wm) (a : Int) : actW M (xUp a) = upW M a := by unfold actW xUp; simp
def tgtB (set : Int) (x : Int × Int) : Bool := !(inS set x.1.toNat && inS set x.2.toNat) && decide (x.1 ≠ x.2)
theorem link_node (M : Wm) (a b : Int) (w : Bool) : (linkW M a b w).1.n = M.n ∧ (linkW M a b w).1.l = M.l ∧ (linkW M a b w).1.ev = M.ev ∧ (linkW M a b w).1.w = M.w := by
  unfold linkW
  split <;> exact ⟨rfl, rfl, rfl, rfl⟩
theorem link_prep {M : Wm} (hI : WI M) (a b : Int) (w : Bool) : PrepI M (linkW M a b w).1 := by
  obtain ⟨h1, h2, h3, h4⟩ := link_node M a b w
  have hnd : ∀ t : Nat, ndAt (linkW M a b w).1 (t : Int) = ndAt M (t : Int) := fun t => by unfold ndAt; rw [h1]
  refine ⟨(link_ok hI a b w).wi, (link_ok hI a b w).same, fun s => safe_link hI s a b w, fun e => ?_, h2, fun t d => by unfold stW; rw [hnd], fun P N h => ?_⟩
  · have := ev_act hI e (xLink a b w)
    rw [xLink_e] at this
    exact this
  · exact h.of h4 (fun t d => by unfold stW; rw [hnd]) (fun t d => by unfold nmW; rw [hnd]) (fun t d x _ _ hx => .inl (by unfold ldW at hx ⊢; rw [hnd] at hx; exact hx)) fun f hf => .inl (by rw [h2] at hf; exact hf)
theorem linkA_br {set : Int} {M : Wm} (a b : Nat) (ha : a < M.n.length) (hb : b < M.n.length) (x : Int × Int) : (linkA set M a b).br x = if x = (min (a : Int) b, max (a : Int) b) then tgtB set x else M.br x := by
  unfold linkA linkW
  rw [if_neg (by omega)]
  simp only
  split
  · rename_i h
    subst h
    unfold tgtB
    simp only
    have key : ∀ p q : Nat, (!(inS set p && inS set q) && decide ((p : Int) ≠ q)) = (!(inS set q && inS set p) && decide ((q : Int) ≠ p)) := fun p q => by
      rw [Bool.and_comm (inS set p)]
      congr 1
      exact decide_eq_decide.2 ⟨fun h e => h e.symm, fun h e => h e.symm⟩
    rcases Nat.le_total a b with h | h
    · rw [show min (a : Int) b = a by omega, show max (a : Int) b = b by omega, Int.toNat_natCast, Int.toNat_natCast]
    · rw [show min (a : Int) b = b by omega, show max (a : Int) b = a by omega, Int.toNat_natCast, Int.toNat_natCast]
      exact key a b
  · rfl
/-- a site that was made anew -/
def RbW (M : Wm) (a : Nat) : Prop := LiveW M a ∧ (∀ d, ldW M a d = none) ∧ ∃ j, (ndAt M (a : Int)).site = some (j, fun _ => false)
theorem down_node {M : Wm} (hI : WI M) {a : Nat} (ha : a < M.n.length) : (ndAt (downW M a).1 (a : Int)).site = none ∧ (ndAt (downW M a).1 (a : Int)).leads.length = 6 ∧ (∀ d : Nat, (ndAt (downW M a).1 (a : Int)).leads.getD d none = none ∨ (downW M a).1 = M) ∧ (∀ t : Nat, t ≠ a → ndAt (downW M a).1 (t : Int) = ndAt M (t : Int)) ∧ (downW M a).1.l = M.l ∧ (downW M a).1.br = M.br ∧ (ndAt (downW M a).1 (a : Int)).pl.b = (ndAt M (a : Int)).pl.b := by
  have h6 := (hI.at (s := (a : Int)) (by omega) (by omega)).leads
  unfold downW
  split
  · rename_i e hu
    unfold upE at hu
    rw [nodeE_ok (by omega) (by omega)] at hu
    simp only at hu
    split at hu
    · rename_i hs
      exact ⟨Option.isNone_iff_eq_none.1 hs, h6, fun d => .inr rfl, fun t _ => rfl, rfl, rfl, rfl⟩
    · cases hu
  · have e : ndAt (setN M a (downN (ndAt M a))) (a : Int) = downN (ndAt M a) := ndAt_set (by omega) (by omega)
    simp only [e]
    refine ⟨rfl, by simp [downN, noLeads], fun d => .inl (noLeads_getD d), fun t ht => ?_, rfl, rfl, rfl⟩
    rw [Ze (by omega) (by omega), if_neg (by omega)]
theorem boot_view {M : Wm} (hI : WI M) {a : Nat} (ha : a < M.n.length) (hld : (ndAt M (a : Int)).site = none → ∀ d, ldW M a d = none) : (upW (downW M a).1 a).2 = none ∧ PrepI M (upW (downW M a).1 a).1 ∧ (upW (downW M a).1 a).1.br = M.br ∧ RbW (upW (downW M a).1 a).1 a ∧ ∀ t : Nat, t ≠ a → ndAt (upW (downW M a).1 a).1 (t : Int) = ndAt M (t : Int) := by
  obtain ⟨d1, d2, d3, d4, d5, d6, d7⟩ := down_node hI ha
  have hok := down_ok hI (a : Int)
  have hok2 := up_ok hok.wi (a : Int)
  have hn1 : (a : Int) < (downW M a).1.n.length := by rw [hok.same.n]; omega
  have hs1 : SafeW M → SafeW (downW M a).1 := fun s => safe_down hI s _
  have hs2 : SafeW (downW M a).1 → SafeW (upW (downW M a).1 a).1 := fun s => safe_up hok.wi s _
  have he : EvW M → EvW (upW (downW M a).1 a).1 := fun e => by
    have h1 := ev_act hI e (xDown a)
    rw [xDown_e] at h1
    have h2 := ev_act hok.wi h1 (xUp a)
    rw [xUp_e] at h2
    exact h2
  have hld2 : ∀ d : Nat, (ndAt (downW M a).1 (a : Int)).leads.getD d none = none := fun d => by
    rcases d3 d with k | k
    · exact k
    · rw [k]
      exact hld (by rw [k] at d1; exact d1) d
  generalize (downW M a).1 = M1 at *
  have hu : upW M1 a = ({ setN M1 a { bootN (ndAt M1 a) with done := (noteN a (bootN (ndAt M1 a)) M1.ev).1 } with ev := (noteN a (bootN (ndAt M1 a)) M1.ev).2 }, none) := by
    unfold upW
    rw [nodeE_ok (by omega) hn1]
    simp only
    rw [d1]
    rfl
  rw [hu] at hok2 hs2 he ⊢
  have hnd : ∀ t : Nat, ndAt { setN M1 a { bootN (ndAt M1 a) with done := (noteN a (bootN (ndAt M1 a)) M1.ev).1 } with ev := (noteN a (bootN (ndAt M1 a)) M1.ev).2 } (t : Int) = if (t : Int) = a then { bootN (ndAt M1 a) with done := (noteN a (bootN (ndAt M1 a)) M1.ev).1 } else ndAt M1 (t : Int) := fun t => Ze (by omega) hn1 t
  have hoth : ∀ t : Nat, t ≠ a → ndAt { setN M1 a { bootN (ndAt M1 a) with done := (noteN a (bootN (ndAt M1 a)) M1.ev).1 } with ev := (noteN a (bootN (ndAt M1 a)) M1.ev).2 } (t : Int) = ndAt M (t : Int) := fun t ht => by
    rw [hnd, if_neg (by omega), d4 t ht]
  have hb : ∀ t : Nat, (ndAt { setN M1 a { bootN (ndAt M1 a) with done := (noteN a (bootN (ndAt M1 a)) M1.ev).1 } with ev := (noteN a (bootN (ndAt M1 a)) M1.ev).2 } (t : Int)).pl.b = (ndAt M (t : Int)).pl.b := fun t => by
    by_cases ht : t = a
    · subst ht
      rw [hnd, if_pos rfl]
      exact d7
    · rw [hoth t ht]
  have hrb : RbW { setN M1 a { bootN (ndAt M1 a) with done := (noteN a (bootN (ndAt M1 a)) M1.ev).1 } with ev := (noteN a (bootN (ndAt M1 a)) M1.ev).2 } a := by
    refine ⟨?_, fun d => ?_, ?_⟩
    · unfold LiveW LiveN
      rw [hnd, if_pos rfl]
      exact ⟨by simp [bootN], rfl⟩
    · unfold ldW
      rw [hnd, if_pos rfl]
      exact hld2 d
    · rw [hnd, if_pos rfl]
      exact ⟨_, rfl⟩
  refine ⟨rfl, ⟨hok2.wi, hok.same.trans hok2.same, fun s => hs2 (hs1 s), he, d5, fun t d => ?_, fun P N h => ?_⟩, d6, hrb, hoth⟩
  · unfold stW plSt
    rw [hb]
  · refine h.of hok.same.w (fun t d => by unfold stW plSt; rw [hb]) (fun t d => by unfold nmW numAt; rw [hb]) (fun t d x _ _ hx => .inl ?_) fun f hf => .inl (by rw [← d5]; exact hf)
    by_cases ht : t = a
    · subst ht
      rw [hrb.2.1] at hx
      cases hx
    · unfold ldW at hx ⊢
      rw [hoth t ht] at hx
      exact hx
end Go.HL
end

/-! EdG -/
section
namespace Go.HL
open Go Go.Proofs
set_option linter.unusedVariables false
set_option linter.unusedSimpArgs false
def DnN (m : Nd) : Prop := m.site = none → ∀ d, m.leads.getD d none = none
def DnA (M : Wm) : Prop := ∀ s : Nat, DnN (ndAt M (s : Int))
theorem DnA.set {M : Wm} (h : DnA M) {s : Int} (h0 : 0 ≤ s) (h1 : s < M.n.length) {m : Nd} (hm : DnN m) : DnA (setN M s m) := fun t => by
  rw [Ze h0 h1]
  split
  · exact hm
  · exact h t
theorem DnA.at {M : Wm} (h : DnA M) {s : Int} (h0 : 0 ≤ s) : DnN (ndAt M s) := by
  have := h s.toNat
  rw [show ((s.toNat : Nat) : Int) = s by omega] at this
  exact this
theorem hear_dn (s : Int) {m : Nd} (h : DnN m) (ev : List Evt) (f : Fr) : DnN (hearNd s m ev f).1 := by
  unfold hearNd
  split
  · exact h
  split
  · exact fun _ d => noLeads_getD d
  · exact fun e => by cases e
theorem DnA.hear {M : Wm} (h : DnA M) {s : Int} (h0 : 0 ≤ s) (h1 : s < M.n.length) (f : Fr) : DnA (hearW M s f).1 := h.set h0 h1 (hear_dn s (h.at h0) M.ev f)
theorem DnA.up {M : Wm} (h : DnA M) {s : Int} (h0 : 0 ≤ s) (h1 : s < M.n.length) {m : Nd} (hm : m.site ≠ none) : DnA (setN M s m) := h.set h0 h1 fun e => absurd e hm
theorem DnA.try {M : Wm} (h : DnA M) {s d p : Int} (h0 : 0 ≤ s) (h1 : s < M.n.length) : DnA (tryW M s d p).1 := by
  unfold tryW
  simp only
  generalize tryAtt M.w.length s (tryAbove (ndAt M s) d p + 1) = a
  split
  · exact h
  have hR := h.hear h0 h1 (tryF s d a)
  have hS := same_hear M s (tryF s d a)
  have hu := hearW_site (M := M) (f := tryF s d a) h0 h1
  split
  · exact hR
  · rename_i hr
    exact DnA.up (M := (hearW M s (tryF s d a)).1) hR h0 (by rw [hS.n]; exact h1) (hu (by simpa using hr))
theorem DnA.tickD {M : Wm} {q : Wm × Bool} {s : Int} {k d : Nat} (h : DnA q.1) (hT : TickOk M q s k) (h0 : 0 ≤ s) (h1 : s < M.n.length) : DnA (HL.tickD s q d).1 := by
  have hn := hT.same.n
  unfold HL.tickD
  split
  · exact h
  split
  · exact h
  split
  · exact h
  split
  · exact h
  · exact h.try h0 (by rw [hn]; exact h1)
theorem DnA.tick {M : Wm} (h : DnA M) (hI : WI M) (s : Int) : DnA (tickW M s).1 := by
  unfold tickW
  split
  · exact h
  · rename_i hu
    obtain ⟨h0, h1, hs⟩ := up_site hu
    have key : ∀ k, k ≤ 6 → DnA ((List.range k).foldl (HL.tickD s) (M, true)).1 := fun k => by
      induction k with
      | zero => exact fun _ => h
      | succ k ih =>
        intro hk
        rw [List.range_succ, List.foldl_append]
        exact DnA.tickD (ih (by omega)) (ticks_ok hI h0 h1 hs k (by omega)) h0 h1
    exact key 6 (by omega)
theorem DnA.deliver {M : Wm} (h : DnA M) (hI : WI M) (k : Int) : DnA (deliverW M k).1 := by
  have hn := hI.wn
  unfold deliverW
  split
  · exact h
  rename_i hk
  obtain ⟨⟨hbad, hto, hfr⟩, hk0, hk1⟩ := frame_at hI hk
  generalize M.l.getD k.toNat zeroF = f at *
  unfold badF at hbad
  have hE : DnA { M with l := M.l.eraseIdx k.toNat } := h
  simp only
  split
  · exact hE
  rename_i hup
  split
  · split
    · exact hE
    · refine DnA.up (M := { M with l := M.l.eraseIdx k.toNat }) hE (s := f.to) (by omega) (by simp only; omega) (m := { ndAt { M with l := M.l.eraseIdx k.toNat } f.to with leads := _ }) ?_
      intro e
      refine hup (.inl ?_)
      have e' : (ndAt { M with l := M.l.eraseIdx k.toNat } f.to).site = none := e
      rw [e']
      rfl
  · exact DnA.hear hE (by omega) (by simp only; omega) f
theorem DnA.act {M : Wm} (h : DnA M) (hI : WI M) (x : StpS) : DnA (actW M x).1 := by
  have hlk : ∀ a b c, DnA (linkW M a b c).1 := fun a b c => by unfold linkW; split <;> exact h
  unfold actW
  split
  · unfold beginW
    split
    · exact h
    rename_i hb
    split
    · exact h
    split
    · exact h
    rename_i hu _
    obtain ⟨h0, h1, hs⟩ := up_site hu
    exact h.up (m := { ndAt M x.s with leads := _ }) h0 h1 hs
  split
  · unfold refuseW
    split
    · exact h
    split
    · exact h
    rename_i hu
    obtain ⟨h0, h1, hs⟩ := up_site hu
    refine h.up h0 h1 ?_
    unfold refuseN
    split
    · exact hs
    · simp
  split
  · exact h.tick hI _
  split
  · unfold downW
    split
    · exact h
    rename_i hu
    obtain ⟨h0, h1, -⟩ := up_site hu
    exact h.set h0 h1 fun _ d => noLeads_getD d
  split
  · unfold upW
    split
    · exact h
    split
    · exact h
    rename_i hu _
    obtain ⟨h0, h1⟩ := nodeE_none hu
    exact h.up (m := { bootN (ndAt M x.s) with done := _ }) h0 h1 (by simp [bootN])
  split
  · unfold dropW; split <;> exact h
  split
  · unfold twiceW; split <;> exact h
  split
  · exact hlk _ _ _
  split
  · exact hlk _ _ _
  split
  · unfold cutW
    split
    · exact h
    split
    · exact h
    rename_i hu
    obtain ⟨h0, h1, hs⟩ := up_site hu
    exact h.up (m := { ndAt M x.s with pl := _ }) h0 h1 hs
  · exact h.deliver hI _
theorem dn_new (w : List Int) : DnA (newW w) := fun s => by
  unfold ndAt newW
  simp only [List.getD, List.getElem?_replicate]
  split
  · exact fun e => by cases e
  · exact fun _ d => rfl
theorem dn_acts : ∀ (l : List StpS) {M : Wm}, WI M → DnA M → (∀ x ∈ l, x.n ≤ 9223372036854775807) → DnA (actsW M l)
  | [], M, hI, h, _ => h
  | x :: l, M, hI, h, hx => dn_acts l (act_ok hI x (hx x (by simp))).wi (h.act hI x) fun y hy => hx y (by simp [hy])
theorem bnd_acts : ∀ (l : List StpS) {M : Wm} {P N : Int}, WI M → Bnd M P N → (∀ x ∈ l, x.n ≤ 9223372036854775807) → Bnd (actsW M l) (P + 42 * l.length) (N + 6 * l.length)
  | [], M, P, N, hI, h, _ => by simpa [actsW] using h
  | x :: l, M, P, N, hI, h, hx => by
    have := bnd_acts l (act_ok hI x (hx x (by simp))).wi (h.act hI x) fun y hy => hx y (by simp [hy])
    exact Bnd.mono this (by simp only [List.length_cons]; push_cast; omega) (by simp only [List.length_cons]; push_cast; omega)
/-- so far: links of all sites below k, and these sites -/
structure PrpK (set : Int) (M0 M : Wm) (k : Nat) : Prop where
  pi : PrepI M0 M
  nd : ∀ t : Nat, k ≤ t → ndAt M (t : Int) = ndAt M0 (t : Int)
  rb : ∀ a, a < k → inS set a = true → RbW M a
  br : ∀ a b : Nat, a < k → b < M0.n.length → M.br (min (a : Int) b, max (a : Int) b) = tgtB set (min (a : Int) b, max (a : Int) b)
theorem RbW.same {M M' : Wm} {a : Nat} (h : RbW M a) (e : ndAt M' (a : Int) = ndAt M (a : Int)) : RbW M' a := by
  unfold RbW LiveW ldW at *
  rw [e]
  exact h
/-- links of one site -/
theorem links_view {set : Int} {M : Wm} (hI : WI M) {a : Nat} (ha : a < M.n.length) : ∀ k, k ≤ M.n.length → PrepI M (linksA set a k M) ∧ (linksA set a k M).n = M.n ∧ (∀ b : Nat, b < k → (linksA set a k M).br (min (a : Int) b, max (a : Int) b) = tgtB set (min (a : Int) b, max (a : Int) b)) ∧ ∀ x, M.br x = tgtB set x → (linksA set a k M).br x = tgtB set x
  | 0, _ => ⟨.refl hI, rfl, fun b hb => by omega, fun x h => h⟩
  | k + 1, hk => by
    obtain ⟨h1, h2, h3, h4⟩ := links_view (set := set) hI ha k (by omega)
    rw [linksA_succ]
    have hbr := linkA_br (set := set) (M := linksA set a k M) a k (by rw [h2]; omega) (by rw [h2]; omega)
    have hp : PrepI (linksA set a k M) (linkA set (linksA set a k M) a k) := link_prep h1.wi a k _
    have hkeep : ∀ x, (linksA set a k M).br x = tgtB set x → (linkA set (linksA set a k M) a k).br x = tgtB set x := fun x hx => by
      rw [hbr]
      split
      · rfl
      · exact hx
    refine ⟨h1.trans hp, by rw [show (linkA set (linksA set a k M) a k).n = _ from (link_node _ _ _ _).1, h2], fun b hb => ?_, fun x hx => hkeep x (h4 x hx)⟩
    by_cases e : b = k
    · subst e
      rw [hbr, if_pos rfl]
    · exact hkeep _ (h3 b (by omega))
theorem prep_view {set : Int} {M0 : Wm} (hI : WI M0) (hdn : DnA M0) : ∀ k, k ≤ M0.n.length → PrpK set M0 (prepW set M0.n.length k M0) k
  | 0, _ => ⟨.refl hI, fun t _ => rfl, fun a h => by omega, fun a b h => by omega⟩
  | k + 1, hk => by
    have h := prep_view (set := set) hI hdn k (by omega)
    rw [prepW_succ]
    generalize prepW set M0.n.length k M0 = M at *
    have hn := h.pi.same.n
    obtain ⟨l1, l2, l3, l4⟩ := links_view (set := set) h.pi.wi (a := k) (by omega) M.n.length (Nat.le_refl _)
    unfold prepA
    rw [hn] at l1 l2 l3 l4
    generalize linksA set k M0.n.length M = M1 at *
    have hnd1 : ∀ t : Nat, ndAt M1 (t : Int) = ndAt M (t : Int) := fun t => by unfold ndAt; rw [l2]
    have hp1 := h.pi.trans l1
    have hbr1 : ∀ a b : Nat, a < k + 1 → b < M0.n.length → M1.br (min (a : Int) b, max (a : Int) b) = tgtB set (min (a : Int) b, max (a : Int) b) := fun a b ha hb => by
      by_cases e : a = k
      · subst e; exact l3 b hb
      · exact l4 _ (h.br a b (by omega) hb)
    unfold bootA
    cases hin : inS set k with
    | false =>
      simp only [Bool.false_eq_true, if_false]
      exact ⟨hp1, fun t ht => by rw [hnd1, h.nd t (by omega)], fun a ha hi => (by
        by_cases e : a = k
        · subst e; rw [hin] at hi; cases hi
        · exact (h.rb a (by omega) hi).same (hnd1 a)), hbr1⟩
    | true =>
      simp only [if_true]
      have hn1 : M1.n.length = M0.n.length := by rw [l2, hn]
      obtain ⟨-, b2, b3, b4, b5⟩ := boot_view hp1.wi (a := k) (by omega) (fun e d => by
        unfold ldW
        rw [hnd1, h.nd k (by omega)] at e ⊢
        exact hdn k e d)
      refine ⟨hp1.trans b2, fun t ht => by rw [b5 t (by omega), hnd1, h.nd t (by omega)], fun a ha hi => ?_, fun a b ha hb => by rw [b3]; exact hbr1 a b ha hb⟩
      by_cases e : a = k
      · subst e; exact b4
      · exact ((h.rb a (by omega) hi).same (hnd1 a)).same (b5 a e)
theorem tgt_off {set : Int} {n : Nat} {br : Int × Int → Bool} (h : ∀ a b : Nat, a < n → b < n → br (min (a : Int) b, max (a : Int) b) = tgtB set (min (a : Int) b, max (a : Int) b)) : CutOff set n br ∧ ∀ a b : Nat, a < n → b < n → inS set a = true → inS set b = true → br (min (a : Int) b, max (a : Int) b) = false := by
  refine ⟨fun a b ha hb hne hns => ?_, fun a b ha hb h1 h2 => ?_⟩
  · rw [h a b ha hb]
    unfold tgtB
    simp only
    rcases Nat.le_total a b with hab | hab
    · rw [show min (a : Int) b = a by omega, show max (a : Int) b = b by omega, Int.toNat_natCast, Int.toNat_natCast]
      simp only [Bool.and_eq_true, Bool.not_eq_true', Bool.and_eq_false_iff, decide_eq_true_eq]
      refine ⟨?_, by omega⟩
      cases e1 : inS set a <;> cases e2 : inS set b <;> simp_all
    · rw [show min (a : Int) b = b by omega, show max (a : Int) b = a by omega, Int.toNat_natCast, Int.toNat_natCast]
      simp only [Bool.and_eq_true, Bool.not_eq_true', Bool.and_eq_false_iff, decide_eq_true_eq]
      refine ⟨?_, by omega⟩
      cases e1 : inS set a <;> cases e2 : inS set b <;> simp_all
  · rw [h a b ha hb]
    unfold tgtB
    simp only
    rcases Nat.le_total a b with hab | hab
    · rw [show min (a : Int) b = a by omega, show max (a : Int) b = b by omega, Int.toNat_natCast, Int.toNat_natCast, h1, h2]
      rfl
    · rw [show min (a : Int) b = b by omega, show max (a : Int) b = a by omega, Int.toNat_natCast, Int.toNat_natCast, h1, h2]
      rfl
/-- a site in a set has decided a deal -/
def decS (set : Int) (M : Wm) (d i : Nat) : Bool := (List.range i).any fun s => inS set s && finP (stW M s d).ph
theorem finP_fin {p : Int} : finP p = true ↔ fin p := by unfold finP fin; simp
end Go.HL
end

/-! WnA -/
section
namespace Go.HL
open Go Go.Proofs
set_option linter.unusedVariables false
set_option linter.unusedSimpArgs false
theorem enough_e {ws : List Int} {s : Int} : (enoughW ws s).2 = (sumW ws s).2 := by
  unfold enoughW
  split
  · rename_i h; rw [h]
  · rename_i n h
    have := (sumW_none (ws := ws) (set := s) (by rw [h])).1
    rw [all_none this, h]
set_option maxHeartbeats 2000000 attribute [local irreducible] HW HO HQ HD HC QOp Has Upd Puts Gets seqQ blkQ loopQ fnQ actQ nextP unQ MapF
theorem setError_calls (a : Option Addr) (cap : Nat) (xs : List Int) (s : Int) (L : Heap) (hR : Rd ic 1 L a xs) (hs : s ≤ 9223372036854775807) : HC Tryz.prog 32 [.slice a xs.length cap, iv s] L (fun v L' => v = iv (cdN' (sumW xs s).2) ∧ L' = L) := by
  have k1 := weightsError_calls a cap xs L hR
  refine Za (fun _ _ => Tryz.call32 _ _) Tryz.func32 rfl Tryz.ntmps32 (Nat.le_of_ble_eq_true rfl) ?_; simp only [args0, Nat.reduceAdd]
  unfold sumW
  cases hc : checkW xs with
  | some e =>
    have he : e = 2 ∨ e = 3 ∨ e = 4 := by
      unfold checkW at hc
      split at hc
      · cases hc; simp
      · split at hc
        · cases hc; simp
        · split at hc
          · cases hc; simp
          · cases hc
    rw [hc] at k1
    rcases he with rfl | rfl | rfl
    all_goals
      repeat' (first | refine uN ?_ | refine uC (k1) ?_ | (refine uP ?_ ?_ <;> (intro h; ((try simp only [zs, ne_eq, and_true, true_and, eq_self, reduceCtorEq] at h); try exact zx))) | fail)
      exact sp1 uZ ⟨rfl, rfl⟩
  | none =>
    obtain ⟨c1, c2, c3, c4⟩ := check_none hc
    have kt := two_calls xs.length (by omega) L
    have et : (2 : Int) ^ xs.length = ((2 ^ xs.length : Nat) : Int) := by simp
    rw [et] at kt
    have hb := blen_le (n := s.toNat) (k := xs.length)
    rw [hc] at k1
    generalize 2 ^ xs.length = z at *
    simp only
    by_cases h0 : s < 0 ∨ xs.length < blen s.toNat
    · rw [if_pos h0]
      repeat' (first | refine uN ?_ | refine uC (k1) ?_ | refine uC (kt) ?_ | (refine uP ?_ ?_ <;> (intro h; ((try simp only [zs, ne_eq, and_true, true_and, eq_self, reduceCtorEq] at h); try exact zx))) | fail)
      all_goals first | exact sp1 uZ ⟨rfl, rfl⟩ | (exfalso; omega)
    · rw [if_neg h0]
      repeat' (first | refine uN ?_ | refine uC (k1) ?_ | refine uC (kt) ?_ | (refine uP ?_ ?_ <;> (intro h; ((try simp only [zs, ne_eq, and_true, true_and, eq_self, reduceCtorEq] at h); try exact zx))) | fail)
      all_goals first | exact sp1 uZ ⟨rfl, rfl⟩ | (exfalso; omega)
end Go.HL
end

/-! PwL -/
section
namespace Go.HL
open Go Go.Proofs
set_option linter.unusedVariables false
set_option linter.unusedSimpArgs false
theorem decS_succ (set : Int) (M : Wm) (d i : Nat) : decS set M d (i + 1) = (decS set M d i || (inS set i && finP (stW M i d).ph)) := by
  unfold decS
  rw [List.range_succ, List.any_append]
  simp
/-- which deals are decided in a set, as9 far as9 it is known -/
def DecI (set : Int) (M : Wm) (n d i : Nat) (vals : List Bool) : Prop := vals.length = 6 ∧ ∀ e, e < 6 → vals[e]? = some (if e < d then decS set M e n else if e = d then decS set M d i else false)
theorem DecI.zero (set : Int) (M : Wm) (n : Nat) : DecI set M n 0 0 (List.replicate 6 false) := by
  refine ⟨rfl, fun e he => ?_⟩
  rw [List.getElem?_replicate, if_pos he, if_neg (by omega)]
  congr 1
  split <;> rfl
theorem DecI.next {set : Int} {M : Wm} {n d : Nat} {vals : List Bool} (h : DecI set M n d n vals) : DecI set M n (d + 1) 0 vals := by
  refine ⟨h.1, fun e he => ?_⟩
  rw [h.2 e he]
  congr 1
  by_cases h1 : e < d
  · rw [if_pos h1, if_pos (by omega)]
  · rw [if_neg h1]
    by_cases h2 : e = d
    · subst h2; rw [if_pos rfl, if_pos (by omega)]
    · rw [if_neg h2, if_neg (by omega)]
      split
      · rfl
      · rfl
theorem DecI.step {set : Int} {M : Wm} {n d i : Nat} {vals : List Bool} (h : DecI set M n d i vals) (hs : (inS set i && finP (stW M i d).ph) = false) : DecI set M n d (i + 1) vals := by
  refine ⟨h.1, fun e he => ?_⟩
  rw [h.2 e he, decS_succ, hs, Bool.or_false]
theorem DecI.hit {set : Int} {M : Wm} {n d i : Nat} {vals : List Bool} (h : DecI set M n d i vals) (hd : d < 6) (hs : (inS set i && finP (stW M i d).ph) = true) : DecI set M n d (i + 1) (vals.set d true) := by
  refine ⟨by rw [List.length_set]; exact h.1, fun e he => ?_⟩
  rw [decS_succ, hs, Bool.or_true, List.getElem?_set]
  by_cases h1 : d = e
  · subst h1
    rw [if_pos rfl, if_pos (by rw [h.1]; exact hd), if_neg (by omega), if_pos rfl]
  · rw [if_neg h1, h.2 e he, if_neg (Ne.symm h1)]
    congr 1
    split
    · rfl
    · rw [if_neg (Ne.symm h1)]
theorem drop_drop (M : Wm) (k : Nat) (h : k < M.l.length) : dropW { M with l := M.l.drop k } 0 = ({ M with l := M.l.drop (k + 1) }, none) := by
  have hd : M.l.drop k = M.l[k] :: M.l.drop (k + 1) := List.drop_eq_getElem_cons h
  have e : wat { M with l := M.l.drop k } 0 = none := by
    unfold wat
    simp only [hd]
    rw [if_neg (by simp only [List.length_cons]; omega)]
  unfold dropW
  rw [e]
  simp only [hd]
  rfl
theorem set_ok {w : List Int} {s : Int} (h : (sumW w s).2 = none) : checkW w = none ∧ ∃ n : Nat, s = n ∧ n < 2 ^ w.length := en_none (by rw [enough_e]; exact h)
theorem rHas2_calls (n k : Nat) (hk : k ≤ 30) (hn : (n : Int) ≤ 9223372036854775807) (L : Heap) : HC Tryz.prog 19 [iv n, iv k] L (fun v L' => v = .bool (inS n k) ∧ L' = L) := by
  have := rHas_calls n k hk hn L
  rwa [show decide (n / 2 ^ k % 2 = 1) = inS n k from decide_eq_decide.2 ((inS_bit n k).symm.trans (by unfold inS; rw [decide_eq_true_iff]))] at this
theorem link_none {M : Wm} {a b : Nat} (ha : a < M.n.length) (hb : b < M.n.length) (w : Bool) : (linkW M a b w).2 = none := by
  unfold linkW
  rw [if_neg (by omega)]
set_option maxHeartbeats 2000000 attribute [local irreducible] HW HO HQ HD HC QOp Has Upd Puts Gets seqQ blkQ loopQ fnQ actQ nextP unQ MapF
attribute [local irreducible] newW actsW actW stsW wdC roundsW linkW upW downW
end Go.HL
end

/-! EdH -/
section
namespace Go.HL
open Go Go.Proofs
set_option linter.unusedVariables false
set_option linter.unusedSimpArgs false
theorem quor_zero {w : List Int} (hc : checkW w = none) : quor w 0 = false := by
  cases h : quor w 0 with
  | false => rfl
  | true => exact absurd rfl (quor_meet hc h h)
theorem allM_has {m : Ld} {k p : Int} {i : Nat} (hi : i < m.w.length) (hk : k ≠ 3 ∨ (i : Int) ≠ m.id) : (⟨m.id, i, m.deal, k, m.att, false, ⟨p, 0, 0⟩⟩ : Fr) ∈ allM m k p := by
  unfold allM
  refine List.mem_flatMap.2 ⟨i, List.mem_range.2 hi, ?_⟩
  unfold allF
  rw [if_pos hk]
  simp
/-- what asks a site for an attempt -/
def elP (d : Nat) (A : Int) (t : Nat) (f : Fr) : Bool := decide (f.kd = 3 ∧ f.dl = d ∧ f.att = A ∧ f.to = t)
theorem el_count {m : Ld} {d : Nat} {A : Int} {t : Nat} (hd : m.deal = d) (ha : m.att = A) : ∀ n, ((List.range n).flatMap (allF m 3 0)).countP (elP d A t) = if t < n ∧ (t : Int) ≠ m.id then 1 else 0
  | 0 => by simp
  | n + 1 => by
    rw [range_flat, List.countP_append, el_count hd ha n]
    have e : (allF m 3 0 n).countP (elP d A t) = if n = t ∧ (t : Int) ≠ m.id then 1 else 0 := by
      unfold allF
      by_cases h1 : (n : Int) ≠ m.id
      · rw [if_pos (.inr h1)]
        by_cases h2 : n = t
        · subst h2
          rw [if_pos ⟨rfl, h1⟩]
          rw [List.countP_singleton, if_pos]
          unfold elP
          simp [hd, ha]
        · rw [if_neg (fun h => h2 h.1), List.countP_singleton, if_neg]
          unfold elP
          simp only [decide_eq_true_eq]
          omega
      · rw [if_neg (by omega)]
        rw [if_neg (by omega)]
        rfl
    rw [e]
    by_cases h1 : (t : Int) ≠ m.id
    · by_cases h2 : t < n
      · rw [if_pos ⟨h2, h1⟩, if_neg (by omega), if_pos ⟨by omega, h1⟩]
      · by_cases h3 : n = t
        · rw [if_neg (by omega), if_pos ⟨h3, h1⟩, if_pos ⟨by omega, h1⟩]
        · rw [if_neg (by omega), if_neg (by omega), if_neg (by omega)]
    · rw [if_neg (fun h => h1 h.2), if_neg (fun h => h1 h.2), if_neg (fun h => h1 h.2)]
theorem el_none {l : List Fr} {d : Nat} {A : Int} {t : Nat} (h : ∀ f ∈ l, f.dl = d → f.kd = 3 → f.att = A → (f.to : Int) ≠ t) : l.countP (elP d A t) = 0 := by
  rw [List.countP_eq_zero]
  intro f hf
  unfold elP
  rw [decide_eq_true_iff]
  rintro ⟨h1, h2, h3, h4⟩
  exact h f hf h2 h1 h3 h4
/-- what a lead sends to all -/
structure SentA (w : List Int) (s d : Nat) (att : Int) (k p : Int) (l : List Fr) : Prop where
  mem : ∀ f ∈ l, f.fr = s ∧ f.dl = d ∧ f.kd = k ∧ f.att = att ∧ f.s.ph = p
  all : ∀ i, i < w.length → ∃ f ∈ l, f.to = (i : Int)
theorem sent_all {w : List Int} {s d : Nat} {m : Ld} {k p : Int} (h1 : m.id = s) (h2 : m.deal = d) (h3 : m.w = w) (hk : k ≠ 3) : SentA w s d m.att k p (allM m k p) := by
  refine ⟨fun f hf => ?_, fun i hi => ⟨_, allM_has (by rw [h3]; exact hi) (.inl hk), rfl⟩⟩
  obtain ⟨i, hi, rfl, -⟩ := allM_mem hf
  exact ⟨h1, h2, rfl, rfl, rfl⟩
/-- what is prepared may be decided -/
def PhOk (x : Ld) : Prop := x.wait = 6 → x.phase = 4 ∨ x.phase = 5
theorem hear_out {w : List Int} {s d : Nat} {x : Ld} (hi : LdI w s d x) (h6 : PhOk x) (f : Fr) : PhOk (hearM x f).1 ∧ ((hearM x f).2 = [] ∨ (∃ p, (p = 4 ∨ p = 5) ∧ SentA w s d x.att 5 p (hearM x f).2) ∨ ∃ p, fin p ∧ SentA w s d x.att 7 p (hearM x f).2) := by
  have e1 : (m1M x f).deal = d ∧ (m1M x f).id = s ∧ (m1M x f).att = x.att ∧ (m1M x f).w = w ∧ (m1M x f).wait = x.wait ∧ (m1M x f).phase = x.phase := by
    unfold m1M; split <;> exact ⟨hi.deal, hi.id, rfl, hi.ww, rfl, rfl⟩
  have e2 : (m2M x f).deal = d ∧ (m2M x f).id = s ∧ (m2M x f).att = x.att ∧ (m2M x f).w = w ∧ (m2M x f).wait = x.wait ∧ (m2M x f).phase = x.phase := e1
  obtain ⟨a1, a2, a3, a4, a5, a6⟩ := e1
  obtain ⟨b1, b2, b3, b4, b5, b6⟩ := e2
  unfold hearM
  split
  · exact ⟨h6, .inl rfl⟩
  split
  · unfold noM
    split
    · refine ⟨fun e => by simp [doneM] at e, .inr (.inr ⟨3, .inr rfl, ?_⟩)⟩
      rw [← a3]
      exact sent_all (m := doneM (m1M x f)) a2 a1 a4 (by omega)
    · exact ⟨fun e => by simp at e, .inl rfl⟩
  · unfold countM
    split
    · refine ⟨fun _ => .inl rfl, .inr (.inl ⟨4, .inl rfl, ?_⟩)⟩
      rw [← b3]
      exact sent_all (m := prepM (m2M x f) 4) b2 b1 b4 (by omega)
    split
    · exact ⟨fun e => by rw [b6]; exact h6 (by rw [← b5]; exact e), .inl rfl⟩
    split
    · rename_i hw6
      refine ⟨fun e => by simp [decdM, doneM] at e, .inr (.inr ⟨afterS (m2M x f).phase, ?_, ?_⟩)⟩
      · rw [b6]
        have := h6 (by rw [← b5]; exact hw6)
        unfold afterS fin
        rcases this with e | e <;> rw [e] <;> simp
      · rw [← b3]
        exact sent_all (m := doneM (m2M x f)) b2 b1 b4 (by omega)
    split
    · rename_i hch
      refine ⟨fun e => by simp [decdM, doneM] at e, .inr (.inr ⟨_, (choose_fin hch).1, ?_⟩)⟩
      rw [← b3]
      exact sent_all (m := doneM (m2M x f)) b2 b1 b4 (by omega)
    · rename_i hch
      have hp := choose_pre (xs := statesM (m2M x f)) (by simpa using hch)
      refine ⟨fun _ => hp, .inr (.inl ⟨_, hp, ?_⟩)⟩
      rw [← b3]
      exact sent_all (m := prepM (m2M x f) _) b2 b1 b4 (by omega)
/-- a yes to a lead that waits for promises, or for what it prepared -/
theorem hear_yes {w : List Int} {s d : Nat} (hc : checkW w = none) {x : Ld} (hi : LdI w s d x) (h6 : PhOk x) {f : Fr} (hw : x.wait = 4 ∨ x.wait = 6) (hfit : fitsM x f) (hy : f.yes = true) :
    ((hearM x f).1.wait = x.wait ∧ (hearM x f).2 = [] ∧ (hearM x f).1.heard = x.heard ||| 2 ^ f.fr.toNat ∧ quor w (hearM x f).1.heard = false) ∨
    (x.wait = 4 ∧ (hearM x f).1.wait = 6 ∧ (hearM x f).1.heard = 0 ∧ ∃ p, (p = 4 ∨ p = 5) ∧ SentA w s d x.att 5 p (hearM x f).2) ∨
    (∃ p, fin p ∧ SentA w s d x.att 7 p (hearM x f).2) := by
  obtain ⟨g1, g2, -⟩ := fitsM_heard hfit
  have b : (m2M x f).deal = d ∧ (m2M x f).id = s ∧ (m2M x f).att = x.att ∧ (m2M x f).w = w ∧ (m2M x f).wait = x.wait ∧ (m2M x f).phase = x.phase ∧ (m2M x f).heard = x.heard ||| 2 ^ f.fr.toNat := by
    unfold m2M m1M; split <;> exact ⟨hi.deal, hi.id, rfl, hi.ww, rfl, rfl, rfl⟩
  obtain ⟨b1, b2, b3, b4, b5, b6, b7⟩ := b
  have hlt : (m2M x f).heard < 2 ^ w.length := by rw [b7]; rw [hi.ww] at g2; exact heard_lt hi.heard (by omega)
  have e : hearM x f = countM (m2M x f) := by
    unfold hearM
    rw [if_neg (by rintro (h | h)
                   · omega
                   · exact h hfit), if_neg (by rw [hy]; simp)]
  rw [e]
  unfold countM
  rw [if_neg (by rw [b5]; omega)]
  have hen : (enoughW (m2M x f).w (m2M x f).heard).1 = quor w (m2M x f).heard := by rw [b4, en_ok hc hlt]
  rw [hen]
  split
  · rename_i hq
    refine .inl ⟨b5, rfl, b7, ?_⟩
    rcases hq with hq | hq
    · omega
    · exact hq
  split
  · rename_i hw6
    refine .inr (.inr ⟨afterS (m2M x f).phase, ?_, ?_⟩)
    · rw [b6]
      have := h6 (by rw [← b5]; exact hw6)
      unfold afterS fin
      rcases this with e | e <;> rw [e] <;> simp
    · rw [← b3]
      exact sent_all (m := doneM (m2M x f)) b2 b1 b4 (by omega)
  split
  · rename_i hch
    refine .inr (.inr ⟨_, (choose_fin hch).1, ?_⟩)
    rw [← b3]
    exact sent_all (m := doneM (m2M x f)) b2 b1 b4 (by omega)
  · rename_i hn6 hch
    have hp := choose_pre (xs := statesM (m2M x f)) (by simpa using hch)
    refine .inr (.inl ⟨by omega, rfl, rfl, _, hp, ?_⟩)
    rw [← b3]
    exact sent_all (m := prepM (m2M x f) _) b2 b1 b4 (by omega)
/-- an answer that does not fit, or to a lead that waits no more -/
theorem hear_not {x : Ld} {f : Fr} (h : x.wait = 0 ∨ ¬ fitsM x f) : hearM x f = (x, []) := hear_wait h
end Go.HL
end

/-! EdI -/
section
namespace Go.HL
open Go Go.Proofs
set_option linter.unusedVariables false
set_option linter.unusedSimpArgs false
theorem nd_leads {w : List Int} {s : Nat} {m : Nd} (h : NdI w s m) (hl : LiveN m) (ev : List Evt) (f : Fr) : (hearNd s m ev f).1.leads = m.leads := by
  obtain ⟨j, ref, hs, e1, e2, e3, e4⟩ := hl.off h
  have hst := site_stays e2 e3 s ref j f
  unfold hearNd
  rw [hs]
  simp only
  rw [hst.1]
  simp only [Bool.false_eq_true, if_false]
theorem live_hear {M : Wm} (hI : WI M) {s : Nat} (h1 : s < M.n.length) (f : Fr) (t : Nat) (ht : LiveW M t) : LiveW (hearW M s f).1 t := by
  unfold LiveW
  rw [hear_nd (by omega) (by omega)]
  split
  · rename_i e
    have e' : t = s := by omega
    subst e'
    have hni := hI.at (s := (t : Int)) (by omega) (by omega)
    simp only [Int.toNat_natCast] at hni
    exact nd_stays hni ht M.ev f
  · exact ht
theorem ld_hear {M : Wm} (hI : WI M) {s : Nat} (h1 : s < M.n.length) (f : Fr) (t d : Nat) (ht : LiveW M t) : ldW (hearW M s f).1 t d = ldW M t d := by
  unfold ldW
  rw [hear_nd (by omega) (by omega)]
  split
  · rename_i e
    have e' : t = s := by omega
    subst e'
    have hni := hI.at (s := (t : Int)) (by omega) (by omega)
    simp only [Int.toNat_natCast] at hni
    rw [nd_leads hni ht M.ev f]
  · rfl
/-- sites of a set: up, linked with each other alone -/
structure SetI (set : Int) (M : Wm) : Prop where
  live : ∀ t, t < M.w.length → inS set t = true → LiveW M t
  whole : ∀ a b : Nat, a < M.w.length → b < M.w.length → inS set a = true → inS set b = true → M.br (min (a : Int) b, max (a : Int) b) = false
  off : CutOff set M.w.length M.br
theorem SetI.of {set : Int} {M M' : Wm} (h : SetI set M) (hw : M'.w = M.w) (hb : M'.br = M.br) (hl : ∀ t, LiveW M t → LiveW M' t) : SetI set M' := by
  refine ⟨fun t ht hi => hl t (h.live t (by rw [← hw]; exact ht) hi), fun a b ha hb' h1 h2 => ?_, fun a b ha hb' h1 h2 => ?_⟩
  · rw [hb]; rw [hw] at ha hb'; exact h.whole a b ha hb' h1 h2
  · rw [hb]; rw [hw] at ha hb'; exact h.off a b ha hb' h1 h2
theorem set_deliver {M : Wm} (hI : WI M) {set : Int} (h : SetI set M) (hne : M.l ≠ []) : SetI set (deliverW M 0).1 := by
  obtain ⟨f, r, e⟩ := List.exists_cons_of_ne_nil hne
  obtain ⟨⟨hbad, hto, hfr⟩, hv⟩ := deliver_view hI e
  have hw := (deliver_ok hI 0).same.w
  have hn := hI.wn
  unfold badF at hbad
  cases hv with
  | gone e1 why => rw [e1]; exact h.of rfl rfl fun t ht => ht
  | lead x hx hi hk hbr up br l st ld lv => exact h.of hw br lv
  | hear hk hbr up e1 =>
    have hE : WI { M with l := r } := by
      have := hI.erase 0
      rw [e] at this
      exact this
    rw [e1]
    exact h.of rfl rfl fun t ht => live_hear (M := { M with l := r }) hE (by simp only; omega) f t ht
theorem try_live {M : Wm} (hI : WI M) {s e : Nat} (hs : s < M.n.length) (he : e < 6) (p : Int) : (tryW M s e p).1.br = M.br ∧ ∀ t, LiveW M t → LiveW (tryW M s e p).1 t := by
  have hv := try_view hI hs he p
  generalize tryAtt M.w.length s (tryAbove (ndAt M s) e p + 1) = a at *
  cases hv with
  | far _ e1 => rw [e1]; exact ⟨rfl, fun t ht => ht⟩
  | fell _ _ e1 => rw [e1]; exact ⟨rfl, fun t ht => live_hear hI hs _ t ht⟩
  | began hle hr hb br l st ld lv => exact ⟨br, fun t ht => lv t (live_hear hI hs _ t ht)⟩
theorem tickD_live {M : Wm} {q : Wm × Bool} {s k e : Nat} (hT : TickOk M q s k) (hs : s < M.n.length) (he : e < 6) : (tickD s q e).1.br = q.1.br ∧ ∀ t, LiveW q.1 t → LiveW (tickD s q e).1 t := by
  have hn := hT.same.n
  unfold tickD
  split
  · exact ⟨rfl, fun t ht => ht⟩
  split
  · exact ⟨rfl, fun t ht => ht⟩
  split
  · exact ⟨rfl, fun t ht => ht⟩
  split
  · exact ⟨rfl, fun t ht => ht⟩
  · exact try_live hT.wi (by omega) he _
theorem tick_live {M : Wm} (hI : WI M) {s : Nat} (hs : s < M.n.length) : (tickW M s).1.br = M.br ∧ ∀ t, LiveW M t → LiveW (tickW M s).1 t := by
  unfold tickW
  split
  · exact ⟨rfl, fun t ht => ht⟩
  · rename_i hu
    have hup := (up_site hu).2.2
    have key : ∀ k, k ≤ 6 → ((List.range k).foldl (tickD s) (M, true)).1.br = M.br ∧ ∀ t, LiveW M t → LiveW ((List.range k).foldl (tickD s) (M, true)).1 t := fun k => by
      induction k with
      | zero => exact fun _ => ⟨rfl, fun t ht => ht⟩
      | succ k ih =>
        intro hk
        rw [List.range_succ, List.foldl_append]
        have h1 := ih (by omega)
        have h2 := tickD_live (e := k) (ticks_ok hI (by omega) (by omega) hup k (by omega)) hs (by omega)
        exact ⟨h2.1.trans h1.1, fun t ht => h2.2 t (h1.2 t ht)⟩
    exact key 6 (by omega)
theorem set_tick {M : Wm} (hI : WI M) {set : Int} (h : SetI set M) {s : Nat} (hs : s < M.n.length) : SetI set (tickW M s).1 := by
  have h1 := tick_live hI hs
  exact h.of (tick_ok hI _).same.w h1.1 h1.2
/-- leads of the set's sites: of an attempt that the site has promised -/
def LdP (set : Int) (d : Nat) (M : Wm) : Prop := ∀ t, t < M.w.length → inS set t = true → ∀ x, ldW M t d = some x → 1 ≤ x.att ∧ x.att ≤ (stW M t d).pr
theorem ldp_hear {M : Wm} (hI : WI M) {set : Int} {d : Nat} (hd : d < 6) (hS : SetI set M) (h : LdP set d M) {s : Nat} (hs : s < M.n.length) (f : Fr) : LdP set d (hearW M s f).1 := fun t ht hi x hx => by
  have ht' : t < M.w.length := ht
  rw [ld_hear hI hs f t d (hS.live t ht' hi)] at hx
  have h0 := h t ht' hi x hx
  have := (rise_hear hI (s := (s : Int)) (by omega) (by omega) f t d ht' hd).1
  unfold stW at h0 ⊢
  exact ⟨h0.1, by omega⟩
theorem ldp_deliver {M : Wm} (hI : WI M) {set : Int} {d : Nat} (hd : d < 6) (hS : SetI set M) (h : LdP set d M) (hne : M.l ≠ []) : LdP set d (deliverW M 0).1 := by
  obtain ⟨f, r, e⟩ := List.exists_cons_of_ne_nil hne
  obtain ⟨⟨hbad, hto, hfr⟩, hv⟩ := deliver_view hI e
  have hw := (deliver_ok hI 0).same.w
  have hn := hI.wn
  unfold badF at hbad
  cases hv with
  | gone e1 why => rw [e1]; exact h
  | lead x hx hi hk hbr up br l st ld lv =>
    intro t ht hin y hy
    rw [hw] at ht
    rw [ld] at hy
    rw [st]
    split at hy
    · rename_i hc
      cases hy
      rw [(hear_att x f).1]
      refine h t ht hin x ?_
      rw [hc.1, hc.2]
      exact hx
    · exact h t ht hin y hy
  | hear hk hbr up e1 =>
    have hE : WI { M with l := r } := by
      have := hI.erase 0
      rw [e] at this
      exact this
    rw [e1]
    exact ldp_hear (M := { M with l := r }) hE hd (hS.of rfl rfl fun t ht => ht) h (by simp only; omega) f
theorem try_att {M : Wm} (hI : WI M) {s e : Nat} (hs : s < M.n.length) (he : e < 6) {a : Int} (hr : (hearW M s (tryF s e a)).2.2 = true) : (stW (hearW M s (tryF s e a)).1 s e).pr = max (stW M s e).pr a ∧ (stW (hearW M s (tryF s e a)).1 s e).ph = (stW M s e).ph := by
  obtain ⟨ref, ht⟩ := hearW_turn hI (s := (s : Int)) (by omega) (by omega) hr
  have e2 : (tryF s e a).dl.toNat = e := by show ((e : Int)).toNat = e; simp
  rw [e2] at ht
  unfold stW
  rw [ht]
  unfold turnM
  rw [if_neg (show ¬ (tryF s e a).kd = 1 by show ¬ (3 : Int) = 1; omega), if_pos (show (tryF s e a).kd = 3 from rfl)]
  exact ⟨rfl, rfl⟩
theorem ldp_try {M : Wm} (hI : WI M) {set : Int} {d s e : Nat} (hd : d < 6) (hS : SetI set M) (h : LdP set d M) (hs : s < M.n.length) (he : e < 6) {p : Int} (hp : 0 ≤ p ∧ p ≤ 1048576) : LdP set d (tryW M s e p).1 := by
  have hv := try_view hI hs he p
  have ha := try_pos hI hs he hp
  have hws := (try_same (M := M) (s := s) (d := e) (p := p)).w
  generalize tryAtt M.w.length s (tryAbove (ndAt M s) e p + 1) = a at *
  have hR := ldp_hear hI hd hS h hs (tryF s e a)
  cases hv with
  | far _ e1 => rw [e1]; exact h
  | fell _ _ e1 => rw [e1]; exact hR
  | began hle hr hb br l st ld lv =>
    intro t ht hin y hy
    rw [hws] at ht
    rw [ld] at hy
    rw [st]
    split at hy
    · rename_i hc
      cases hy
      obtain ⟨rfl, rfl⟩ := hc
      have e1 : ∀ (l : List Fr) (x : Ld) (acc : List Fr), (l.foldl (fun q f => ((hearM q.1 f).1, q.2 ++ (hearM q.1 f).2)) (x, acc)).1.att = x.att := fun l => by
        induction l with
        | nil => exact fun _ _ => rfl
        | cons f l ih => intro x acc; rw [List.foldl_cons, ih, (hear_att x f).1]
      have e2 : (hearsM (newLd t d M.w a 4) (hearW M t (tryF t d a)).2.1).1.att = a := e1 _ _ _
      rw [e2, (try_att hI hs he hr).1]
      exact ⟨ha, by omega⟩
    · exact hR t ht hin y hy
theorem ldp_tickD {M : Wm} {q : Wm × Bool} {set : Int} {d s k e : Nat} (hT : TickOk M q s k) (hd : d < 6) (hS : SetI set q.1) (h : LdP set d q.1) (hs : s < M.n.length) (he : e < 6) : LdP set d (tickD s q e).1 := by
  obtain ⟨M1, b⟩ := q
  have hn := hT.same.n
  simp only at hn
  unfold tickD
  split
  · exact h
  split
  · exact h
  rename_i hb _ j ref hsj
  have hs' : (ndAt M1 s).site = some (j, ref) := hsj
  have hni := hT.wi.at (s := (s : Int)) (by omega) (by simp only; omega)
  obtain ⟨g1, g2, g3, g4, g5⟩ := (hni.jn hs').st e he
  split
  · exact h
  split
  · exact h
  · exact ldp_try hT.wi hd hS h (by show s < M1.n.length; omega) he (by omega)
theorem ldp_tick {M : Wm} (hI : WI M) {set : Int} {d s : Nat} (hd : d < 6) (hS : SetI set M) (h : LdP set d M) (hs : s < M.n.length) : LdP set d (tickW M s).1 := by
  unfold tickW
  split
  · exact h
  · rename_i hu
    have hup := (up_site hu).2.2
    have key : ∀ k, k ≤ 6 → SetI set ((List.range k).foldl (tickD s) (M, true)).1 ∧ LdP set d ((List.range k).foldl (tickD s) (M, true)).1 := fun k => by
      induction k with
      | zero => exact fun _ => ⟨hS, h⟩
      | succ k ih =>
        intro hk
        rw [List.range_succ, List.foldl_append]
        obtain ⟨h1, h2⟩ := ih (by omega)
        have hT := ticks_ok hI (s := (s : Int)) (by omega) (by omega) hup k (by omega)
        have h3 := tickD_live (e := k) hT hs (by omega)
        exact ⟨h1.of (by rw [show List.foldl (tickD s) (List.foldl (tickD s) (M, true) (List.range k)) [k] = tickD s ((List.range k).foldl (tickD s) (M, true)) k from rfl, (tickD_ok hT (by omega) (by omega) (by omega)).same.w, hT.same.w]) h3.1 h3.2, ldp_tickD hT hd h1 h2 hs (by omega)⟩
    exact (key 6 (by omega)).2
/-- a round keeps all that -/
theorem set_round {M : Wm} (hI : WI M) {set : Int} {d : Nat} (hd : d < 6) (hS : SetI set M) (h : LdP set d M) : SetI set (roundW set M).1 ∧ LdP set d (roundW set M).1 := by
  have h1 := ticks_ind (P := fun M1 => SetI set M1 ∧ LdP set d M1) (set := set) hI ⟨hS, h⟩ (fun M1 s a b c _ h => ⟨set_tick a h.1 (by rw [b.n]; exact c), ldp_tick a hd h.1 h.2 (by rw [b.n]; exact c)⟩) M.n.length (Nat.le_refl _)
  have h2 := ticksS_ok hI set M.n.length
  exact (drain_ind (P := fun M1 => SetI set M1 ∧ LdP set d M1) (fun M1 a b c => ⟨set_deliver a c.1 b, ldp_deliver a hd c.1 c.2 b⟩) _ (Nat.le_refl _) h2.wi h1).2.1
end Go.HL
end

/-! EdJ -/
section
namespace Go.HL
open Go Go.Proofs
set_option linter.unusedVariables false
set_option linter.unusedSimpArgs false
/-- what is seen of a deal: states, leads, its frames -/
structure Vw where
  st : Nat → St
  ld : Nat → Option Ld
  l : List Fr
section v
variable (w : List Int) (sn d : Nat) (A : Int)
structure EnvV (v : Vw) : Prop where
  fr : ∀ f ∈ v.l, f.dl = d ∧ okF w.length f ∧ inS sn f.fr.toNat = true ∧ f.att ≤ A ∧ (f.kd = 5 → f.s.ph = 4 ∨ f.s.ph = 5)
  pr : ∀ t, t < w.length → inS sn t = true → (v.st t).pr ≤ A
  ld : ∀ t, t < w.length → inS sn t = true → ∀ x, v.ld t = some x → LdI w t d x ∧ x.att ≤ A ∧ PhOk x
/-- each site of the set has decided, or will be told -/
def DnV (v : Vw) : Prop := ∀ t, t < w.length → inS sn t = true → fin (v.st t).ph ∨ ∃ f ∈ v.l, f.kd = 7 ∧ f.to = (t : Int) ∧ fin f.s.ph
/-- the greatest attempt is asked for -/
structure StE (s : Nat) (v : Vw) (x : Ld) : Prop where
  wt : x.wait = 4
  co : ∀ f ∈ v.l, f.att = A → (f.kd = 3 ∨ f.kd = 4) ∧ (f.kd = 4 → f.yes = true)
  cv : ∀ t, t < w.length → inS sn t = true → bit x.heard t ∨ (∃ f ∈ v.l, elP d A t f = true) ∨ ∃ f ∈ v.l, f.kd = 4 ∧ f.att = A ∧ f.to = (s : Int) ∧ f.fr = (t : Int)
  ct : ∀ t, t < w.length → inS sn t = true → v.l.countP (elP d A t) ≤ 1 ∧ (0 < v.l.countP (elP d A t) → (v.st t).pr < A)
/-- what it prepared is on its way -/
structure StA (s : Nat) (v : Vw) (x : Ld) : Prop where
  wt : x.wait = 6
  co : ∀ f ∈ v.l, f.att = A → f.kd = 6 → f.yes = true
  cv : ∀ t, t < w.length → inS sn t = true → bit x.heard t ∨ (∃ f ∈ v.l, f.kd = 5 ∧ f.att = A ∧ f.to = (t : Int)) ∨ ∃ f ∈ v.l, f.kd = 6 ∧ f.att = A ∧ f.to = (s : Int) ∧ f.fr = (t : Int)
structure PgV (s : Nat) (v : Vw) : Prop where
  nf : ∀ t, t < w.length → inS sn t = true → ¬ fin (v.st t).ph
  kd : ∀ f ∈ v.l, f.kd = 3 ∨ f.kd = 4 ∨ f.kd = 5 ∨ f.kd = 6
  ot : ∀ t, t < w.length → inS sn t = true → t ≠ s → ∀ x, v.ld t = some x → x.att < A
  fs : ∀ f ∈ v.l, f.att = A → f.kd = 3 ∨ f.kd = 5 → f.fr = (s : Int)
  st : ∃ x, v.ld s = some x ∧ x.att = A ∧ quor w x.heard = false ∧ (StE w sn d A s v x ∨ StA w sn A s v x)
end v
section steps
variable {w : List Int} {sn d s : Nat} {A : Int} {v : Vw} {f : Fr} {R : List Fr}
theorem in_tail {P : Fr → Prop} (h : ∃ g ∈ f :: R, P g) (hn : ¬ P f) : ∃ g ∈ R, P g := by
  obtain ⟨g, hg, hp⟩ := h
  rcases List.mem_cons.1 hg with rfl | hg
  · exact absurd hp hn
  · exact ⟨g, hg, hp⟩
theorem in_app {P : Fr → Prop} {N : List Fr} (h : ∃ g ∈ R, P g) : ∃ g ∈ R ++ N, P g := by
  obtain ⟨g, hg, hp⟩ := h
  exact ⟨g, List.mem_append_left _ hg, hp⟩
theorem count_tail (t : Nat) : R.countP (elP d A t) ≤ (f :: R).countP (elP d A t) := by
  rw [List.countP_cons]
  omega
/-- a frame is lost -/
theorem v_gone (hs : s < w.length) (hin : inS sn s = true) (hl : v.l = f :: R) (hE : EnvV w sn d A v) (hne : inS sn f.to.toNat = false ∨ ((f.kd = 2 ∨ f.kd = 4 ∨ f.kd = 6) ∧ v.ld f.to.toNat = none)) (h : DnV w sn v ∨ PgV w sn d A s v) :
    EnvV w sn d A { v with l := R } ∧ (DnV w sn { v with l := R } ∨ PgV w sn d A s { v with l := R }) := by
  have hm : ∀ g ∈ R, g ∈ v.l := fun g hg => by rw [hl]; exact List.mem_cons_of_mem _ hg
  have hnt : ∀ t : Nat, inS sn t = true → f.to = (t : Int) → (f.kd = 2 ∨ f.kd = 4 ∨ f.kd = 6) ∧ v.ld t = none := fun t ht e => by
    rw [e, Int.toNat_natCast] at hne
    rcases hne with h1 | h1
    · rw [ht] at h1; cases h1
    · exact h1
  refine ⟨⟨fun g hg => hE.fr g (hm g hg), hE.pr, hE.ld⟩, ?_⟩
  rcases h with h | h
  · refine .inl fun t ht hi => ?_
    rcases h t ht hi with k | k
    · exact .inl k
    · rw [hl] at k
      refine .inr (in_tail k ?_)
      rintro ⟨k1, k2, -⟩
      have := (hnt t hi k2).1
      omega
  · right
    obtain ⟨x, hx, ha, hq, hst⟩ := h.st
    have hns : f.to = (s : Int) → False := fun e => by
      have := (hnt s hin e).2
      rw [hx] at this
      cases this
    refine ⟨h.nf, fun g hg => h.kd g (hm g hg), h.ot, fun g hg => h.fs g (hm g hg), x, hx, ha, hq, ?_⟩
    rcases hst with ⟨e1, e2, e3, e4⟩ | ⟨e1, e2, e3⟩
    · refine .inl ⟨e1, fun g hg => e2 g (hm g hg), fun t ht hi => ?_, fun t ht hi => ?_⟩
      · rcases e3 t ht hi with k | k | k
        · exact .inl k
        · rw [hl] at k
          refine .inr (.inl (in_tail k ?_))
          unfold elP
          rw [decide_eq_true_iff]
          rintro ⟨k1, -, -, k2⟩
          have := (hnt t hi k2).1
          omega
        · rw [hl] at k
          exact .inr (.inr (in_tail k fun k => hns k.2.2.1))
      · have := e4 t ht hi
        rw [hl] at this
        have hc := count_tail (d := d) (A := A) (f := f) (R := R) t
        exact ⟨by simp only; omega, fun h0 => this.2 (by simp only at h0; omega)⟩
    · refine .inr ⟨e1, fun g hg => e2 g (hm g hg), fun t ht hi => ?_⟩
      rcases e3 t ht hi with k | k | k
      · exact .inl k
      · rw [hl] at k
        refine .inr (.inl (in_tail k ?_))
        rintro ⟨k1, -, k2⟩
        have := (hnt t hi k2).1
        omega
      · rw [hl] at k
        exact .inr (.inr (in_tail k fun k => hns k.2.2.1))
theorem dn_sent {p : Int} {st : Nat → St} {ld : Nat → Option Ld} {N : List Fr} {t0 : Nat} {a : Int} (hp : fin p) (h : SentA w t0 d a 7 p N) : DnV w sn ⟨st, ld, R ++ N⟩ := fun t ht hi => by
  obtain ⟨g, hg, e⟩ := h.all t ht
  obtain ⟨-, -, k1, -, k2⟩ := h.mem g hg
  exact .inr ⟨g, List.mem_append_right _ hg, k1, e, by rw [k2]; exact hp⟩
/-- a lead hears an answer -/
theorem v_lead (hc : checkW w = none) (hs : s < w.length) (hin : inS sn s = true) (hl : v.l = f :: R) (hE : EnvV w sn d A v) {t : Nat} (ht : t < w.length) (hti : inS sn t = true) (hto : f.to = (t : Int)) (hk : f.kd = 2 ∨ f.kd = 4 ∨ f.kd = 6) {x : Ld} (hx : v.ld t = some x) (hd6 : d < 6) (h : DnV w sn v ∨ PgV w sn d A s v) :
    EnvV w sn d A ⟨v.st, upd v.ld t (some (hearM x f).1), R ++ (hearM x f).2⟩ ∧ (DnV w sn ⟨v.st, upd v.ld t (some (hearM x f).1), R ++ (hearM x f).2⟩ ∨ PgV w sn d A s ⟨v.st, upd v.ld t (some (hearM x f).1), R ++ (hearM x f).2⟩) := by
  have hm : ∀ g ∈ R, g ∈ v.l := fun g hg => by rw [hl]; exact List.mem_cons_of_mem _ hg
  have hfm : f ∈ v.l := by rw [hl]; simp
  obtain ⟨hLI, hxA, hPh⟩ := hE.ld t ht hti x hx
  obtain ⟨hfd, ⟨hbad, hft, hff⟩, hfi, hfA, -⟩ := hE.fr f hfm
  have hwl := (check_none hc).2.1
  obtain ⟨hLI', hok'⟩ := hLI.hear ht hwl hd6 hbad
  obtain ⟨hPh', hout⟩ := hear_out hLI hPh f
  have hatt := (hear_att x f).1
  have hnew : ∀ g ∈ (hearM x f).2, g.dl = d ∧ g.fr = t ∧ g.att = x.att ∧ (g.kd = 5 ∨ g.kd = 7) := fun g hg => by
    obtain ⟨k1, k2, k3, -, k5⟩ := hear_frames g hg
    exact ⟨by rw [k2, hLI.deal], by rw [k1, hLI.id], k3, k5⟩
  have hEnv : EnvV w sn d A ⟨v.st, upd v.ld t (some (hearM x f).1), R ++ (hearM x f).2⟩ := by
    refine ⟨fun g hg => ?_, hE.pr, fun t' ht' hi' y hy => ?_⟩
    · rcases List.mem_append.1 hg with hg | hg
      · exact hE.fr g (hm g hg)
      · obtain ⟨k1, k2, k3, k4⟩ := hnew g hg
        refine ⟨k1, hok' g hg, by rw [k2, Int.toNat_natCast]; exact hti, by rw [k3]; exact hxA, fun h5 => ?_⟩
        rcases hout with k | ⟨p, hp, k⟩ | ⟨p, hp, k⟩
        · rw [k] at hg; cases hg
        · rw [(k.mem g hg).2.2.2.2]; exact hp
        · have := (k.mem g hg).2.2.1; omega
    · simp only at hy
      unfold upd at hy
      split at hy
      · rename_i e
        subst e
        cases hy
        exact ⟨hLI', by rw [hatt]; exact hxA, hPh'⟩
      · exact hE.ld t' ht' hi' y hy
  refine ⟨hEnv, ?_⟩
  rcases h with h | h
  · refine .inl fun t' ht' hi' => ?_
    rcases h t' ht' hi' with k | k
    · exact .inl k
    · rw [hl] at k
      exact .inr (in_app (in_tail k fun k => by omega))
  obtain ⟨x0, hx0, ha0, hq0, hst0⟩ := h.st
  by_cases hts : t = s
  · -- the lead itself
    subst hts
    rw [hx] at hx0
    cases hx0
    have hwt : x.wait = 4 ∨ x.wait = 6 := by
      rcases hst0 with k | k
      · exact .inl k.wt
      · exact .inr k.wt
    have hsame : upd v.ld t (some x) = v.ld := funext fun q => by
      unfold upd
      split
      · rename_i e; rw [e, hx]
      · rfl
    by_cases hfit : fitsM x f
    · have hfatt : f.att = A := by rw [hfit.2.2.1, ha0]
      have hy : f.yes = true := by
        rcases hst0 with k | k
        · exact (k.co f hfm hfatt).2 (by rw [hfit.1, k.wt])
        · exact k.co f hfm hfatt (by rw [hfit.1, k.wt])
      rcases hear_yes hc hLI hPh hwt hfit hy with ⟨a1, a2, a3, a4⟩ | ⟨a1, a2, a3, p, hp, a4⟩ | ⟨p, hp, a4⟩
      · -- it waits on
        right
        rw [a2, List.append_nil]
        refine ⟨h.nf, fun g hg => h.kd g (hm g hg), fun q hq hqi hqt y hy' => h.ot q hq hqi hqt y (by simpa [upd, hqt] using hy'), fun g hg => h.fs g (hm g hg), (hearM x f).1, upd_at, by rw [hatt]; exact ha0, a4, ?_⟩
        rcases hst0 with ⟨e1, e2, e3, e4⟩ | ⟨e1, e2, e3⟩
        · refine .inl ⟨by rw [a1]; exact e1, fun g hg => e2 g (hm g hg), fun q hq hqi => ?_, fun q hq hqi => ?_⟩
          · rw [a3]
            rcases e3 q hq hqi with k | k | k
            · exact .inl (bit_or.2 (.inl k))
            · rw [hl] at k
              refine .inr (.inl (in_tail k ?_))
              unfold elP
              rw [decide_eq_true_iff]
              rintro ⟨k1, -⟩
              omega
            · rw [hl] at k
              by_cases hqf : f.fr = (q : Int)
              · exact .inl (bit_or.2 (.inr (by omega)))
              · exact .inr (.inr (in_tail k fun k => hqf k.2.2.2))
          · have := e4 q hq hqi
            rw [hl] at this
            have hc := count_tail (d := d) (A := A) (f := f) (R := R) q
            exact ⟨by simp only; omega, fun h0 => this.2 (by simp only at h0; omega)⟩
        · refine .inr ⟨by rw [a1]; exact e1, fun g hg => e2 g (hm g hg), fun q hq hqi => ?_⟩
          rw [a3]
          rcases e3 q hq hqi with k | k | k
          · exact .inl (bit_or.2 (.inl k))
          · rw [hl] at k
            exact .inr (.inl (in_tail k fun k => by omega))
          · rw [hl] at k
            by_cases hqf : f.fr = (q : Int)
            · exact .inl (bit_or.2 (.inr (by omega)))
            · exact .inr (.inr (in_tail k fun k => hqf k.2.2.2))
      · -- it prepares
        right
        have hE0 : StE w sn d A t v x := by
          rcases hst0 with k | k
          · exact k
          · have := k.wt; omega
        refine ⟨h.nf, fun g hg => ?_, fun q hq hqi hqt y hy' => h.ot q hq hqi hqt y (by simpa [upd, hqt] using hy'), fun g hg hgA hgk => ?_, (hearM x f).1, upd_at, by rw [hatt]; exact ha0, by rw [a3]; exact quor_zero hc, .inr ⟨a2, fun g hg hgA hg6 => ?_, fun q hq hqi => ?_⟩⟩
        · rcases List.mem_append.1 hg with hg | hg
          · exact h.kd g (hm g hg)
          · have := (a4.mem g hg).2.2.1; omega
        · rcases List.mem_append.1 hg with hg | hg
          · exact h.fs g (hm g hg) hgA hgk
          · exact (a4.mem g hg).1
        · rcases List.mem_append.1 hg with hg | hg
          · have := (hE0.co g (hm g hg) hgA).1; omega
          · have := (a4.mem g hg).2.2.1; omega
        · obtain ⟨g, hg, e⟩ := a4.all q hq
          obtain ⟨-, -, k1, k2, -⟩ := a4.mem g hg
          exact .inr (.inl ⟨g, List.mem_append_right _ hg, k1, by rw [k2]; exact ha0, e⟩)
      · exact .inl (dn_sent hp a4)
    · -- nothing that fits
      right
      rw [hear_not (.inr hfit)]
      simp only [List.append_nil]
      rw [hsame]
      have hbit : f.kd = x.wait → f.att = A → bit x.heard f.fr.toNat := fun k1 k2 => by
        by_cases hb : bit x.heard f.fr.toNat
        · exact hb
        · exfalso
          refine hfit ⟨k1, by rw [hfd, hLI.deal], by rw [k2, ha0], by rw [hto, hLI.id], ?_⟩
          unfold badF at hbad
          unfold bit at hb
          rw [hLI.ww]
          exact ⟨by omega, by omega, by omega⟩
      refine ⟨h.nf, fun g hg => h.kd g (hm g hg), h.ot, fun g hg => h.fs g (hm g hg), x, hx, ha0, hq0, ?_⟩
      rcases hst0 with ⟨e1, e2, e3, e4⟩ | ⟨e1, e2, e3⟩
      · refine .inl ⟨e1, fun g hg => e2 g (hm g hg), fun q hq hqi => ?_, fun q hq hqi => ?_⟩
        · rcases e3 q hq hqi with k | k | k
          · exact .inl k
          · rw [hl] at k
            refine .inr (.inl (in_tail k ?_))
            unfold elP
            rw [decide_eq_true_iff]
            rintro ⟨k1, -⟩
            omega
          · rw [hl] at k
            by_cases hqf : f.kd = 4 ∧ f.att = A ∧ f.to = (t : Int) ∧ f.fr = (q : Int)
            · have := hbit (by omega) hqf.2.1
              rw [hqf.2.2.2, Int.toNat_natCast] at this
              exact .inl this
            · exact .inr (.inr (in_tail k hqf))
        · have := e4 q hq hqi
          rw [hl] at this
          have hc := count_tail (d := d) (A := A) (f := f) (R := R) q
          exact ⟨by simp only; omega, fun h0 => this.2 (by simp only at h0; omega)⟩
      · refine .inr ⟨e1, fun g hg => e2 g (hm g hg), fun q hq hqi => ?_⟩
        rcases e3 q hq hqi with k | k | k
        · exact .inl k
        · rw [hl] at k
          exact .inr (.inl (in_tail k fun k => by omega))
        · rw [hl] at k
          by_cases hqf : f.kd = 6 ∧ f.att = A ∧ f.to = (t : Int) ∧ f.fr = (q : Int)
          · have := hbit (by omega) hqf.2.1
            rw [hqf.2.2.2, Int.toNat_natCast] at this
            exact .inl this
          · exact .inr (.inr (in_tail k hqf))
  · -- another lead, of a lesser attempt
    have hlt := h.ot t ht hti hts x hx
    have hor : (∃ p, fin p ∧ SentA w t d x.att 7 p (hearM x f).2) ∨ ∀ g ∈ (hearM x f).2, g.kd = 5 ∧ g.att < A := by
      rcases hout with k0 | ⟨p, hp, k0⟩ | k0
      · right
        intro g hg
        rw [k0] at hg
        cases hg
      · right
        intro g hg
        have h1 := (k0.mem g hg).2.2.1
        have h2 := (k0.mem g hg).2.2.2.1
        exact ⟨h1, by omega⟩
      · exact .inl k0
    rcases hor with ⟨p, hp, k0⟩ | hnk
    · exact .inl (dn_sent hp k0)
    right
    refine ⟨h.nf, fun g hg => ?_, fun q hq hqi hqt y hy' => ?_, fun g hg hgA hgk => ?_, x0, (upd_ne (Ne.symm hts)).trans hx0, ha0, hq0, ?_⟩
    · rcases List.mem_append.1 hg with hg | hg
      · exact h.kd g (hm g hg)
      · have := (hnk g hg).1; omega
    · simp only at hy'
      unfold upd at hy'
      split at hy'
      · cases hy'; rw [hatt]; exact hlt
      · exact h.ot q hq hqi hqt y hy'
    · rcases List.mem_append.1 hg with hg | hg
      · exact h.fs g (hm g hg) hgA hgk
      · have := (hnk g hg).2; omega
    rcases hst0 with ⟨e1, e2, e3, e4⟩ | ⟨e1, e2, e3⟩
    · refine .inl ⟨e1, fun g hg hgA => ?_, fun q hq hqi => ?_, fun q hq hqi => ?_⟩
      · rcases List.mem_append.1 hg with hg | hg
        · exact e2 g (hm g hg) hgA
        · have := (hnk g hg).2; omega
      · rcases e3 q hq hqi with k | k | k
        · exact .inl k
        · rw [hl] at k
          refine .inr (.inl (in_app (in_tail k ?_)))
          unfold elP
          rw [decide_eq_true_iff]
          rintro ⟨k1, -⟩
          omega
        · rw [hl] at k
          exact .inr (.inr (in_app (in_tail k fun k => by omega)))
      · have h3 := e4 q hq hqi
        rw [hl] at h3
        have hc := count_tail (d := d) (A := A) (f := f) (R := R) q
        have hz : (hearM x f).2.countP (elP d A q) = 0 := el_none fun g hg _ h3 => by have := (hnk g hg).1; omega
        simp only [List.countP_append, hz]
        exact ⟨by omega, fun h0 => h3.2 (by omega)⟩
    · refine .inr ⟨e1, fun g hg hgA hg6 => ?_, fun q hq hqi => ?_⟩
      · rcases List.mem_append.1 hg with hg | hg
        · exact e2 g (hm g hg) hgA hg6
        · have := (hnk g hg).1; omega
      · rcases e3 q hq hqi with k | k | k
        · exact .inl k
        · rw [hl] at k
          exact .inr (.inl (in_app (in_tail k fun k => by omega)))
        · rw [hl] at k
          exact .inr (.inr (in_app (in_tail k fun k => by omega)))
theorem turn_fin {ref : Int → Bool} {f : Fr} {st : St} (h : fin st.ph) : fin (turnM ref f st).1.ph := by
  have ho : openS st = false := by unfold openS; unfold fin at h; exact decide_eq_false (by omega)
  have h0 : st.ph ≠ 0 := by unfold fin at h; omega
  unfold turnM
  split
  · unfold askM
    rw [if_neg h0]
    exact h
  split
  · exact h
  split
  · split
    · exact h
    · rw [if_neg (by rw [ho]; simp)]
      exact h
  split
  · rw [if_neg (by rw [ho]; simp)]
    exact h
  · exact h
/-- a site hears -/
theorem v_site (hs : s < w.length) (hl : v.l = f :: R) (hE : EnvV w sn d A v) {t : Nat} (ht : t < w.length) (hti : inS sn t = true) (hto : f.to = (t : Int)) (hk : ¬ (f.kd = 2 ∨ f.kd = 4 ∨ f.kd = 6)) {ref : Int → Bool} {ans : List Fr}
    (han : ans = if (turnM ref f (v.st t)).2.1 = 0 then [] else [⟨t, f.fr, f.dl, (turnM ref f (v.st t)).2.1, f.att, (turnM ref f (v.st t)).2.2, (turnM ref f (v.st t)).1⟩]) (hok : ∀ g ∈ ans, okF w.length g) (h : DnV w sn v ∨ PgV w sn d A s v) :
    EnvV w sn d A ⟨upd v.st t (turnM ref f (v.st t)).1, v.ld, R ++ ans⟩ ∧ (DnV w sn ⟨upd v.st t (turnM ref f (v.st t)).1, v.ld, R ++ ans⟩ ∨ PgV w sn d A s ⟨upd v.st t (turnM ref f (v.st t)).1, v.ld, R ++ ans⟩) := by
  have hm : ∀ g ∈ R, g ∈ v.l := fun g hg => by rw [hl]; exact List.mem_cons_of_mem _ hg
  have hfm : f ∈ v.l := by rw [hl]; simp
  obtain ⟨hfd, ⟨hbad, hft, hff⟩, hfi, hfA, hf5⟩ := hE.fr f hfm
  have hprt := hE.pr t ht hti
  have hnew : ∀ g ∈ ans, g.dl = d ∧ g.fr = t ∧ g.to = f.fr ∧ g.att = f.att ∧ (g.kd = 2 ∨ g.kd = 4 ∨ g.kd = 6) := fun g hg => by
    rw [han] at hg
    split at hg
    · cases hg
    · rename_i hk0
      simp only [List.mem_singleton] at hg
      subst hg
      refine ⟨hfd, rfl, rfl, rfl, ?_⟩
      rcases turn_kd hk0 with ⟨-, k⟩ | ⟨-, k⟩ | ⟨-, k⟩
      · exact .inl k
      · exact .inr (.inl k)
      · exact .inr (.inr k)
  have hEnv : EnvV w sn d A ⟨upd v.st t (turnM ref f (v.st t)).1, v.ld, R ++ ans⟩ := by
    refine ⟨fun g hg => ?_, fun q hq hqi => ?_, hE.ld⟩
    · rcases List.mem_append.1 hg with hg' | hg'
      · exact hE.fr g (hm g hg')
      · obtain ⟨k1, k2, k3, k4, k5⟩ := hnew g hg'
        exact ⟨k1, hok g hg', by rw [k2, Int.toNat_natCast]; exact hti, by rw [k4]; exact hfA, fun h5 => by omega⟩
    · simp only
      unfold upd
      split
      · have := turn_pr ref f (v.st t)
        omega
      · exact hE.pr q hq hqi
  refine ⟨hEnv, ?_⟩
  rcases h with h | h
  · refine .inl fun q hq hqi => ?_
    simp only
    by_cases hqt : q = t
    · subst hqt
      rw [upd_at]
      by_cases hfi0 : fin (v.st q).ph
      · exact .inl (turn_fin hfi0)
      · rcases h q hq hqi with k | ⟨g, hg, k1, k2, k3⟩
        · exact absurd k hfi0
        · rw [hl] at hg
          rcases List.mem_cons.1 hg with e | hg
          · subst e
            left
            unfold turnM
            rw [if_neg (by omega), if_neg (by omega), if_neg (by omega), if_pos k1, if_pos ⟨by unfold openS; unfold fin at hfi0; exact decide_eq_true (by omega), k3⟩]
            exact k3
          · exact .inr ⟨g, List.mem_append_left _ hg, k1, k2, k3⟩
    · rw [upd_ne hqt]
      rcases h q hq hqi with k | k
      · exact .inl k
      · rw [hl] at k
        exact .inr (in_app (in_tail k fun k => by omega))
  right
  obtain ⟨x, hx, hxa, hxq, hst⟩ := h.st
  have hkd := h.kd f hfm
  have hnf := h.nf t ht hti
  rcases (show f.kd = 3 ∨ f.kd = 5 by omega) with k3 | k5
  · -- it is asked for a promise
    have e : turnM ref f (v.st t) = ({ v.st t with pr := max (v.st t).pr f.att }, 4, decide ((v.st t).pr < f.att)) := by unfold turnM; rw [if_neg (by omega), if_pos k3]
    rw [e] at han hEnv ⊢
    simp only at han hEnv ⊢
    rw [if_neg (by omega)] at han
    subst han
    refine ⟨fun q hq hqi => ?_, fun g hg => ?_, h.ot, fun g hg hgA hgk => ?_, x, hx, hxa, hxq, ?_⟩
    · simp only
      unfold upd
      split
      · exact hnf
      · exact h.nf q hq hqi
    · rcases List.mem_append.1 hg with hg | hg
      · exact h.kd g (hm g hg)
      · simp only [List.mem_singleton] at hg
        subst hg
        exact .inr (.inl rfl)
    · rcases List.mem_append.1 hg with hg | hg
      · exact h.fs g (hm g hg) hgA hgk
      · simp only [List.mem_singleton] at hg
        subst hg
        simp only at hgk
        omega
    · rcases hst with ⟨e1, e2, e3, e4⟩ | ⟨e1, e2, e3⟩
      · refine .inl ⟨e1, fun g hg hgA => ?_, fun q hq hqi => ?_, fun q hq hqi => ?_⟩
        · rcases List.mem_append.1 hg with hg | hg
          · exact e2 g (hm g hg) hgA
          · simp only [List.mem_singleton] at hg
            subst hg
            refine ⟨.inr rfl, fun _ => ?_⟩
            simp only at hgA ⊢
            have := (e4 t ht hti).2 (by
              rw [hl, List.countP_cons, if_pos (by unfold elP; rw [decide_eq_true_iff]; exact ⟨k3, hfd, hgA, hto⟩)]
              omega)
            exact decide_eq_true (by omega)
        · rcases e3 q hq hqi with k | k | k
          · exact .inl k
          · rw [hl] at k
            by_cases hel : elP d A q f = true
            · have hel' := hel
              unfold elP at hel'
              rw [decide_eq_true_iff] at hel'
              obtain ⟨-, -, m3, m4⟩ := hel'
              refine .inr (.inr ⟨_, List.mem_append_right _ (List.mem_singleton.2 rfl), rfl, m3, h.fs f hfm m3 (.inl k3), by simp only; omega⟩)
            · exact .inr (.inl (in_app (in_tail k hel)))
          · rw [hl] at k
            exact .inr (.inr (in_app (in_tail k fun k => by omega)))
        · have h3 := e4 q hq hqi
          rw [hl, List.countP_cons] at h3
          have hz : ([⟨t, f.fr, f.dl, 4, f.att, decide ((v.st t).pr < f.att), { v.st t with pr := max (v.st t).pr f.att }⟩] : List Fr).countP (elP d A q) = 0 := el_none fun g hg _ h3 => by
            simp only [List.mem_singleton] at hg
            subst hg
            simp only at h3
            omega
          simp only [List.countP_append, hz]
          by_cases hqt : q = t
          · subst hqt
            rw [upd_at]
            by_cases hfa : f.att = A
            · have : elP d A q f = true := by unfold elP; rw [decide_eq_true_iff]; exact ⟨k3, hfd, hfa, hto⟩
              rw [if_pos this] at h3
              exact ⟨by omega, fun h0 => by omega⟩
            · have : ¬ elP d A q f = true := by unfold elP; rw [decide_eq_true_iff]; exact fun h => hfa h.2.2.1
              rw [if_neg this] at h3
              refine ⟨by omega, fun h0 => ?_⟩
              have h5 := h3.2 (by omega)
              simp only
              omega
          · rw [upd_ne hqt]
            exact ⟨by omega, fun h0 => h3.2 (by omega)⟩
      · refine .inr ⟨e1, fun g hg hgA hg6 => ?_, fun q hq hqi => ?_⟩
        · rcases List.mem_append.1 hg with hg | hg
          · exact e2 g (hm g hg) hgA hg6
          · simp only [List.mem_singleton] at hg
            subst hg
            simp only at hg6
            omega
        · rcases e3 q hq hqi with k | k | k
          · exact .inl k
          · rw [hl] at k
            exact .inr (.inl (in_app (in_tail k fun k => by omega)))
          · rw [hl] at k
            exact .inr (.inr (in_app (in_tail k fun k => by omega)))
  · -- it is told what was prepared
    have hph := hf5 k5
    have ha : afterS f.s.ph ≠ 0 := afterS_pos.2 hph
    have hop : openS (v.st t) = true := by unfold openS; unfold fin at hnf; exact decide_eq_true (by omega)
    have e : turnM ref f (v.st t) = if (v.st t).pr ≤ f.att then (⟨f.s.ph, f.att, f.att⟩, 6, true) else (v.st t, 6, false) := by
      unfold turnM
      rw [if_neg (by omega), if_neg (by omega), if_pos k5, if_neg ha]
      by_cases hle : (v.st t).pr ≤ f.att
      · rw [if_pos ⟨hop, hle⟩, if_pos hle]
      · rw [if_neg (fun h => hle h.2), if_neg hle]
    have e21 : (turnM ref f (v.st t)).2.1 = 6 := by rw [e]; split <;> rfl
    have eyes : f.att = A → (turnM ref f (v.st t)).2.2 = true := fun h => by rw [e, if_pos (by omega)]
    have enf : ¬ fin (turnM ref f (v.st t)).1.ph := by
      rw [e]
      split
      · unfold fin; simp only; omega
      · exact hnf
    have epr : (turnM ref f (v.st t)).1.pr ≤ (v.st t).pr ∨ (turnM ref f (v.st t)).1.pr ≤ f.att := turn_pr ref f (v.st t)
    rw [if_neg (by omega), e21] at han
    generalize turnM ref f (v.st t) = tr at *
    subst han
    refine ⟨fun q hq hqi => ?_, fun g hg => ?_, h.ot, fun g hg hgA hgk => ?_, x, hx, hxa, hxq, ?_⟩
    · simp only
      unfold upd
      split
      · exact enf
      · exact h.nf q hq hqi
    · rcases List.mem_append.1 hg with hg | hg
      · exact h.kd g (hm g hg)
      · simp only [List.mem_singleton] at hg
        subst hg
        exact .inr (.inr (.inr rfl))
    · rcases List.mem_append.1 hg with hg | hg
      · exact h.fs g (hm g hg) hgA hgk
      · simp only [List.mem_singleton] at hg
        subst hg
        simp only at hgk
        omega
    · rcases hst with ⟨e1, e2, e3, e4⟩ | ⟨e1, e2, e3⟩
      · have hfa : f.att ≠ A := fun h => by have := (e2 f hfm h).1; omega
        refine .inl ⟨e1, fun g hg hgA => ?_, fun q hq hqi => ?_, fun q hq hqi => ?_⟩
        · rcases List.mem_append.1 hg with hg | hg
          · exact e2 g (hm g hg) hgA
          · simp only [List.mem_singleton] at hg
            subst hg
            exact absurd hgA hfa
        · rcases e3 q hq hqi with k | k | k
          · exact .inl k
          · rw [hl] at k
            refine .inr (.inl (in_app (in_tail k ?_)))
            unfold elP
            rw [decide_eq_true_iff]
            rintro ⟨k1, -⟩
            omega
          · rw [hl] at k
            exact .inr (.inr (in_app (in_tail k fun k => by omega)))
        · have h3 := e4 q hq hqi
          rw [hl] at h3
          have hc := count_tail (d := d) (A := A) (f := f) (R := R) q
          have hz : ([⟨t, f.fr, f.dl, 6, f.att, tr.2.2, tr.1⟩] : List Fr).countP (elP d A q) = 0 := el_none fun g hg _ h3 => by
            simp only [List.mem_singleton] at hg
            subst hg
            simp only at h3
            omega
          simp only [List.countP_append, hz]
          refine ⟨by omega, fun h0 => ?_⟩
          have h5 := h3.2 (by omega)
          unfold upd
          split
          · rename_i hqt
            subst hqt
            omega
          · exact h5
      · refine .inr ⟨e1, fun g hg hgA hg6 => ?_, fun q hq hqi => ?_⟩
        · rcases List.mem_append.1 hg with hg | hg
          · exact e2 g (hm g hg) hgA hg6
          · simp only [List.mem_singleton] at hg
            subst hg
            exact eyes hgA
        · rcases e3 q hq hqi with k | k | k
          · exact .inl k
          · rw [hl] at k
            by_cases hel : f.kd = 5 ∧ f.att = A ∧ f.to = (q : Int)
            · refine .inr (.inr ⟨_, List.mem_append_right _ (List.mem_singleton.2 rfl), rfl, hel.2.1, h.fs f hfm hel.2.1 (.inr k5), by simp only; omega⟩)
            · exact .inr (.inl (in_app (in_tail k hel)))
          · rw [hl] at k
            exact .inr (.inr (in_app (in_tail k fun k => by omega)))
/-- where nothing flies, all have decided -/
theorem v_end (hc : checkW w = none) (hsn : sn < 2 ^ w.length) (hq : quor w sn = true) (hl : v.l = []) (h : DnV w sn v ∨ PgV w sn d A s v) : ∀ t, t < w.length → inS sn t = true → fin (v.st t).ph := by
  rcases h with h | h
  · intro t ht hi
    rcases h t ht hi with k | ⟨g, hg, -⟩
    · exact k
    · rw [hl] at hg; cases hg
  · exfalso
    obtain ⟨x, hx, hxa, hxq, hst⟩ := h.st
    have hall : ∀ i, i < w.length → bit sn i → bit x.heard i := fun i hi hb => by
      have hin := (inS_bit sn i).2 hb
      rcases hst with ⟨e1, e2, e3, e4⟩ | ⟨e1, e2, e3⟩
      · rcases e3 i hi hin with k | ⟨g, hg, -⟩ | ⟨g, hg, -⟩
        · exact k
        · rw [hl] at hg; cases hg
        · rw [hl] at hg; cases hg
      · rcases e3 i hi hin with k | ⟨g, hg, -⟩ | ⟨g, hg, -⟩
        · exact k
        · rw [hl] at hg; cases hg
        · rw [hl] at hg; cases hg
    have := quor_sub hc hq hsn hall
    rw [hxq] at this
    cases this
end steps
end Go.HL
end

/-! EdK -/
section
namespace Go.HL
open Go Go.Proofs
set_option linter.unusedVariables false
set_option linter.unusedSimpArgs false
def ofD (d : Nat) (l : List Fr) : List Fr := l.filter fun f => decide (f.dl = (d : Int))
theorem ofD_app (d : Nat) (a b : List Fr) : ofD d (a ++ b) = ofD d a ++ ofD d b := by unfold ofD; exact List.filter_append ..
theorem ofD_nil {d : Nat} {l : List Fr} (h : ∀ f ∈ l, f.dl ≠ (d : Int)) : ofD d l = [] := by
  unfold ofD
  rw [List.filter_eq_nil_iff]
  intro f hf
  simpa using h f hf
theorem ofD_all {d : Nat} {l : List Fr} (h : ∀ f ∈ l, f.dl = (d : Int)) : ofD d l = l := by
  unfold ofD
  rw [List.filter_eq_self]
  intro f hf
  simpa using h f hf
theorem ofD_mem {d : Nat} {l : List Fr} {f : Fr} : f ∈ ofD d l ↔ f ∈ l ∧ f.dl = (d : Int) := by
  unfold ofD
  rw [List.mem_filter]
  simp
theorem ofD_cons {d : Nat} {f : Fr} {r : List Fr} : ofD d (f :: r) = if f.dl = (d : Int) then f :: ofD d r else ofD d r := by
  unfold ofD
  rw [List.filter_cons]
  simp
/-- what is seen of a deal in a world -/
def vwD (M : Wm) (d : Nat) : Vw := ⟨fun t => stW M t d, fun t => ldW M t d, ofD d M.l⟩
section cong
variable {w : List Int} {sn d s : Nat} {A : Int} {v v' : Vw}
theorem env_cong (h1 : ∀ t, t < w.length → inS sn t = true → v'.st t = v.st t ∧ v'.ld t = v.ld t) (h2 : v'.l = v.l) (h : EnvV w sn d A v) : EnvV w sn d A v' :=
  ⟨by rw [h2]; exact h.fr, fun t ht hi => by rw [(h1 t ht hi).1]; exact h.pr t ht hi, fun t ht hi x hx => h.ld t ht hi x (by rw [← (h1 t ht hi).2]; exact hx)⟩
theorem dn_cong (h1 : ∀ t, t < w.length → inS sn t = true → v'.st t = v.st t ∧ v'.ld t = v.ld t) (h2 : v'.l = v.l) (h : DnV w sn v) : DnV w sn v' := fun t ht hi => by
  rw [(h1 t ht hi).1, h2]
  exact h t ht hi
theorem pg_cong (hs : s < w.length) (hin : inS sn s = true) (h1 : ∀ t, t < w.length → inS sn t = true → v'.st t = v.st t ∧ v'.ld t = v.ld t) (h2 : v'.l = v.l) (h : PgV w sn d A s v) : PgV w sn d A s v' := by
  obtain ⟨x, hx, ha, hq, hst⟩ := h.st
  refine ⟨fun t ht hi => by rw [(h1 t ht hi).1]; exact h.nf t ht hi, by rw [h2]; exact h.kd, fun t ht hi hts y hy => h.ot t ht hi hts y (by rw [← (h1 t ht hi).2]; exact hy), by rw [h2]; exact h.fs, x, by rw [(h1 s hs hin).2]; exact hx, ha, hq, ?_⟩
  rcases hst with ⟨e1, e2, e3, e4⟩ | ⟨e1, e2, e3⟩
  · exact .inl ⟨e1, by rw [h2]; exact e2, fun t ht hi => by rw [h2]; exact e3 t ht hi, fun t ht hi => by rw [h2, (h1 t ht hi).1]; exact e4 t ht hi⟩
  · exact .inr ⟨e1, by rw [h2]; exact e2, fun t ht hi => by rw [h2]; exact e3 t ht hi⟩
end cong
/-- a round under way, for a deal -/
structure R2 (sn d s : Nat) (A : Int) (M : Wm) : Prop where
  set : SetI sn M
  env : EnvV M.w sn d A (vwD M d)
  prog : DnV M.w sn (vwD M d) ∨ PgV M.w sn d A s (vwD M d)
  bd : ∃ P, Bnd M P (2000000 - wtL M.l)
theorem R2.view {sn d s : Nat} {A : Int} {M M' : Wm} {v : Vw} (hs : s < M.w.length) (hin : inS sn s = true) (h0 : SetI sn M') (hw : M'.w = M.w) (h1 : EnvV M.w sn d A v ∧ (DnV M.w sn v ∨ PgV M.w sn d A s v)) (hb : ∃ P, Bnd M' P (2000000 - wtL M'.l))
    (hc : ∀ t, t < M.w.length → inS sn t = true → stW M' t d = v.st t ∧ ldW M' t d = v.ld t) (hl : ofD d M'.l = v.l) : R2 sn d s A M' :=
  ⟨h0, by rw [hw]; exact env_cong (v := v) hc hl h1.1, by rw [hw]; exact h1.2.imp (dn_cong (v := v) hc hl) (pg_cong (v := v) hs hin hc hl), hb⟩
theorem link_set {M : Wm} {sn : Nat} (h : SetI sn M) {f : Fr} (hf : okF M.w.length f) (hi : inS sn f.fr.toNat = true) : (M.br (linkP f) = false → inS sn f.to.toNat = true) ∧ (inS sn f.to.toNat = true → M.br (linkP f) = false) := by
  obtain ⟨hbad, hto, hfr⟩ := hf
  unfold badF at hbad
  have e2 : linkP f = (min ((f.fr.toNat : Nat) : Int) (f.to.toNat : Nat), max ((f.fr.toNat : Nat) : Int) (f.to.toNat : Nat)) := by
    unfold linkP
    rw [show ((f.fr.toNat : Nat) : Int) = f.fr by omega, show ((f.to.toNat : Nat) : Int) = f.to by omega]
  rw [e2]
  refine ⟨fun hb => ?_, fun ht => h.whole _ _ (by omega) (by omega) hi ht⟩
  by_cases hft : f.to = f.fr
  · rw [hft]; exact hi
  · cases hin : inS (sn : Int) f.to.toNat with
    | true => rfl
    | false =>
      have := h.off f.fr.toNat f.to.toNat (by omega) (by omega) (by omega) (fun hx => by rw [hin] at hx; cases hx.2)
      rw [hb] at this
      cases this
theorem r2_deliver {M : Wm} (hI : WI M) {sn d s : Nat} {A : Int} (hd : d < 6) (hs : s < M.w.length) (hin : inS sn s = true) (h : R2 sn d s A M) (hne : M.l ≠ []) : R2 sn d s A (deliverW M 0).1 := by
  have hset := set_deliver hI h.set hne
  have hwt := (deliver_wt hI hne).1
  have hsame := (deliver_ok hI 0).same
  have hw := hsame.w
  have hn := hI.wn
  obtain ⟨P, hB⟩ := h.bd
  have hbd : ∃ P, Bnd (deliverW M 0).1 P (2000000 - wtL (deliverW M 0).1.l) := ⟨P, (hB.deliver hI 0).mono (Int.le_refl _) (by omega)⟩
  obtain ⟨f, r, e⟩ := List.exists_cons_of_ne_nil hne
  obtain ⟨hok, hv⟩ := deliver_view hI e
  obtain ⟨hbad, hto, hfr⟩ := hok
  have hb2 := hbad
  unfold badF at hb2
  obtain ⟨hdl, hdl6⟩ := dl_nat hbad
  have hE : WI { M with l := r } := by
    have := hI.erase 0
    rw [e] at this
    exact this
  have hl0 : ofD d M.l = if f.dl = (d : Int) then f :: ofD d r else ofD d r := by rw [e, ofD_cons]
  by_cases hfd : f.dl = (d : Int)
  · rw [if_pos hfd] at hl0
    have hfi := (h.env.fr f (by show f ∈ ofD d M.l; rw [hl0]; simp)).2.2.1
    obtain ⟨hls1, hls2⟩ := link_set h.set ⟨hbad, hto, hfr⟩ hfi
    have hdn : f.dl.toNat = d := by omega
    cases hv with
    | gone e1 why =>
      rw [e1] at hset hbd ⊢
      refine R2.view hs hin hset rfl (v_gone hs hin hl0 h.env ?_ h.prog) hbd (fun t ht hi => ⟨rfl, rfl⟩) rfl
      rcases why with k | k | ⟨k, k2⟩
      · left
        cases hti : inS (sn : Int) f.to.toNat with
        | false => rfl
        | true =>
          have := (h.set.live _ (by omega) hti).1
          rw [show ((f.to.toNat : Nat) : Int) = f.to by omega] at this
          exact absurd k this
      · left
        cases hti : inS (sn : Int) f.to.toNat with
        | false => rfl
        | true => rw [hls2 hti] at k; cases k
      · rw [hdn] at k2
        exact .inr ⟨k, k2⟩
    | lead x hx hi hk hbr up br l st ld lv =>
      have hti := hls1 hbr
      rw [hdn] at hx ld
      refine R2.view hs hin hset hw (v_lead hI.w0 hs hin hl0 h.env (t := f.to.toNat) (by omega) hti (by omega) hk hx hd h.prog) hbd (fun t ht hi => ⟨st t d, ?_⟩) ?_
      · rw [ld]
        unfold upd
        by_cases e2 : t = f.to.toNat
        · rw [if_pos ⟨e2, rfl⟩]; simp only; rw [if_pos e2]
        · rw [if_neg (fun h => e2 h.1)]; simp only; rw [if_neg e2]; rfl
      · rw [l, ofD_app, ofD_all (l := (hearM x f).2) fun g hg => by rw [(hear_frames g hg).2.1, hi.deal, hdl, hfd]]
    | hear hk hbr up e1 =>
      have hti := hls1 hbr
      have hlive : LiveW { M with l := r } f.to.toNat := h.set.live _ (by omega) hti
      have hnm := hB.nm f.to.toNat f.dl.toNat (by omega)
      obtain ⟨ref, hH, hup⟩ := hear_live hE (s := f.to.toNat) (by simp only; omega) hlive hbad (by omega) (by
        have : nmW { M with l := r } f.to.toNat f.dl.toNat = nmW M f.to.toNat f.dl.toNat := rfl
        rw [this]
        omega)
      have hokA := (hE.hear (s := ((f.to.toNat : Nat) : Int)) (f := f) (by omega) (by simp only; omega) hfr).2
      have hme := hH.me
      have han := hH.an
      have hstE : ∀ t q, stW { M with l := r } t q = stW M t q := fun t q => rfl
      rw [hstE, hdn] at hme han
      rw [e1] at hset hbd ⊢
      refine R2.view hs hin hset rfl (v_site (v := vwD M d) (t := f.to.toNat) (ref := ref) (ans := (hearW { M with l := r } f.to.toNat f).2.1) hs hl0 h.env (by omega) hti (by omega) hk han (fun g hg => hokA g hg) h.prog) hbd (fun t ht hi => ⟨?_, ?_⟩) ?_
      · show stW (hearW { M with l := r } f.to.toNat f).1 t d = upd (fun t => stW M t d) f.to.toNat (turnM ref f (stW M f.to.toNat d)).1 t
        unfold upd
        by_cases e2 : t = f.to.toNat
        · rw [if_pos e2, e2, hme]
        · rw [if_neg e2, hH.st t d (.inl e2)]
          rfl
      · exact hH.ld t d
      · show ofD d (r ++ (hearW { M with l := r } f.to.toNat f).2.1) = ofD d r ++ (hearW { M with l := r } f.to.toNat f).2.1
        rw [ofD_app, ofD_all (l := (hearW { M with l := r } f.to.toNat f).2.1) fun g hg => ?_]
        rw [han] at hg
        split at hg
        · cases hg
        · simp only [List.mem_singleton] at hg
          subst hg
          exact hfd
  · rw [if_neg hfd] at hl0
    have hdn : d ≠ f.dl.toNat := by omega
    have hview : EnvV M.w sn d A (vwD M d) ∧ (DnV M.w sn (vwD M d) ∨ PgV M.w sn d A s (vwD M d)) := ⟨h.env, h.prog⟩
    cases hv with
    | gone e1 why =>
      rw [e1] at hset hbd ⊢
      exact R2.view hs hin hset rfl hview hbd (fun t ht hi => ⟨rfl, rfl⟩) hl0.symm
    | lead x hx hi hk hbr up br l st ld lv =>
      refine R2.view hs hin hset hw hview hbd (fun t ht hi => ⟨st t d, ?_⟩) ?_
      · rw [ld, if_neg (fun h => hdn h.2)]
        rfl
      · rw [l, ofD_app, ofD_nil (l := (hearM x f).2) fun g hg => by rw [(hear_frames g hg).2.1, hi.deal]; omega, List.append_nil]
        exact hl0.symm
    | hear hk hbr up e1 =>
      have hV := hear_view hE (s := f.to.toNat) (by simp only; omega) f
      rw [e1] at hset hbd ⊢
      refine R2.view hs hin hset rfl hview hbd (fun t ht hi => ⟨?_, ?_⟩) ?_
      · rcases hV.st t d hd with k | ⟨-, k, -⟩
        · exact k
        · exact absurd k hdn
      · exact ld_hear hE (by simp only; omega) f t d (h.set.live t ht hi)
      · show ofD d (r ++ (hearW { M with l := r } f.to.toNat f).2.1) = ofD d M.l
        rw [ofD_app, ofD_nil (l := (hearW { M with l := r } f.to.toNat f).2.1) fun g hg => ?_, List.append_nil]
        · exact hl0.symm
        · obtain ⟨ref, rfl, -⟩ := hV.an g hg
          exact hfd
/-- a round's deliveries bring the deal to its end -/
theorem r2_drain {M : Wm} (hI : WI M) {sn d s : Nat} {A : Int} (hd : d < 6) (hs : s < M.w.length) (hin : inS sn s = true) (hsn : sn < 2 ^ M.w.length) (hq : quor M.w sn = true) (h : R2 sn d s A M) : ∀ t, t < M.w.length → inS sn t = true → fin (stW (drainW M).1 t d).ph := by
  obtain ⟨a1, ⟨a2, a3⟩, a4, a5, -⟩ := drain_ind (P := fun M1 => M1.w = M.w ∧ R2 sn d s A M1) (fun M1 a b c => ⟨by rw [(deliver_ok a 0).same.w, c.1], r2_deliver a hd (by rw [c.1]; exact hs) hin c.2 b⟩) _ (Nat.le_refl _) hI ⟨rfl, h⟩
  have := v_end (by rw [a2]; exact hI.w0) (by rw [a2]; exact hsn) (by rw [a2]; exact hq) (by show ofD d _ = []; rw [a4]; rfl) a3.prog
  rw [a2] at this
  exact this
end Go.HL
end

/-! EdL -/
section
namespace Go.HL
open Go Go.Proofs
set_option linter.unusedVariables false
set_option linter.unusedSimpArgs false
structure OthT (sn d : Nat) (M M' : Wm) : Prop where
  st : ∀ t, stW M' t d = stW M t d
  ld : ∀ t, t < M.w.length → inS sn t = true → ldW M' t d = ldW M t d
  l : ofD d M'.l = ofD d M.l
  w : M'.w = M.w
theorem OthT.refl (sn d : Nat) (M : Wm) : OthT sn d M M := ⟨fun _ => rfl, fun _ _ _ => rfl, rfl, rfl⟩
theorem OthT.trans {sn d : Nat} {A B C : Wm} (h : OthT sn d A B) (h' : OthT sn d B C) : OthT sn d A C :=
  ⟨fun t => (h'.st t).trans (h.st t), fun t a b => (h'.ld t (by rw [h.w]; exact a) b).trans (h.ld t a b), h'.l.trans h.l, h'.w.trans h.w⟩
/-- what a try needs so that it begins -/
structure GoodT (sn : Nat) (M : Wm) (P N : Int) : Prop where
  wi : WI M
  set : SetI sn M
  bd : Bnd M P N
  p : P + 7 ≤ 1048576
  n : N + 1 < 4294967296
theorem hears_dl' {s d : Nat} : ∀ (l : List Fr) (x : Ld) (acc : List Fr), x.deal = d → (∀ f ∈ acc, f.dl = d) → ∀ y ∈ (l.foldl (fun q f => ((hearM q.1 f).1, q.2 ++ (hearM q.1 f).2)) (x, acc)).2, y.dl = d
  | [], x, acc, hx, ha => ha
  | f :: l, x, acc, hx, ha => by
    rw [List.foldl_cons]
    refine hears_dl' (s := s) l _ _ (by rw [(hear_att x f).2.2.1]; exact hx) fun y hy => ?_
    rcases List.mem_append.1 hy with hy | hy
    · exact ha y hy
    · rw [(hear_frames y hy).2.1, hx]
theorem try_good {sn s e : Nat} {M : Wm} {P N : Int} (h : GoodT sn M P N) (hs : s < M.w.length) (hin : inS sn s = true) (he : e < 6) :
    ∃ a, tryAbove (ndAt M s) e (stW M s e).pr + 1 ≤ a ∧ a ≤ 1048576 ∧ 1 ≤ a ∧ a % M.w.length = s ∧ (∃ ref, HearL M (hearW M s (tryF s e a)).1 s (tryF s e a) (hearW M s (tryF s e a)).2.1 ref) ∧ TryV M s e a (tryW M s e (stW M s e).pr) ∧ (hearW M s (tryF s e a)).2.2 = true := by
  have hI := h.wi
  have hn := hI.wn
  have hw1 := hI.w1
  have hpr := h.bd.pr s e hs he
  have hv := try_view hI (s := s) (d := e) (by omega) he (stW M s e).pr
  have hok := st_ok hI hs he
  have ha1 := try_pos hI (s := s) (d := e) (by omega) he (p := (stW M s e).pr) (by obtain ⟨g1, g2, g3, g4, g5⟩ := hok; unfold stW; omega)
  have ha2 := tryAtt_le (k := M.w.length) (s := (s : Int)) (a := tryAbove (ndAt M s) e (stW M s e).pr + 1) (by omega)
  have ha3 := tryAbove_le h.bd (s := (s : Int)) (by omega) (by omega) (d := e) he hpr
  have ha4 := tryAtt_mod (k := M.w.length) (s := (s : Int)) (a := tryAbove (ndAt M s) e (stW M s e).pr + 1) (by omega) (by omega) (by omega)
  have hwl := hI.wl
  have hp7 := h.p
  generalize tryAtt M.w.length s (tryAbove (ndAt M s) e (stW M s e).pr + 1) = a at *
  have hbad : ¬ badF (tryF s e a) := by unfold badF tryF zeroS; simp only; omega
  have hde : (tryF s e a).dl.toNat = e := by show ((e : Int)).toNat = e; simp
  have hnm := h.bd.nm s e hs
  have hN := h.n
  obtain ⟨ref, hH, hup⟩ := hear_live hI (s := s) (by omega) (h.set.live s hs hin) hbad rfl (by rw [hde]; omega)
  exact ⟨a, ha2.1, by omega, ha1, ha4, ⟨ref, hH⟩, hv, hup⟩
/-- a try of another deal -/
theorem try_oth {sn s e d : Nat} {M : Wm} {P N : Int} (h : GoodT sn M P N) (hs : s < M.w.length) (hin : inS sn s = true) (he : e < 6) (hd : d < 6) (hed : e ≠ d) : OthT sn d M (tryW M s e (stW M s e).pr).1 ∧ (tryW M s e (stW M s e).pr).2 = true := by
  obtain ⟨a, a1, a2, a3, a4, ⟨ref, hH⟩, hv, hup⟩ := try_good h hs hin he
  have hw := (try_same (M := M) (s := s) (d := e) (p := (stW M s e).pr)).w
  have hde : (tryF s e a).dl.toNat = e := by show ((e : Int)).toNat = e; simp
  cases hv with
  | far hf _ => omega
  | fell _ hr _ => rw [hup] at hr; cases hr
  | began hle hr hb br l st ld lv =>
    refine ⟨⟨fun t => ?_, fun t ht hi => ?_, ?_, hw⟩, hb⟩
    · rw [st, hH.st t d (.inr (by rw [hde]; exact fun h => hed h.symm))]
    · rw [ld, if_neg (fun h => hed h.2.symm), hH.ld]
    · rw [l, ofD_app, ofD_app, ofD_nil (l := startM (newLd s e M.w a 4)) fun g hg => ?_, ofD_nil (l := (hearsM (newLd s e M.w a 4) (hearW M s (tryF s e a)).2.1).2) fun g hg => ?_, List.append_nil, List.append_nil]
      · have := hears_dl' (s := s) (d := e) (hearW M s (tryF s e a)).2.1 (newLd s e M.w a 4) [] rfl (fun f hf => by cases hf) g hg
        omega
      · have := (start_frames g hg).2.1
        have e2 : (newLd s e M.w a 4).deal = (e : Int) := rfl
        omega
/-- what a try of the deal makes -/
structure TryB (M M' : Wm) (s d : Nat) (a : Int) (z : Ld) (N : List Fr) : Prop where
  gt : (stW M s d).pr < a
  md : a % M.w.length = s
  st : stW M' s d = { stW M s d with pr := a }
  so : ∀ t, t ≠ s → stW M' t d = stW M t d
  ld : ldW M' s d = some z
  lo : ∀ t, t ≠ s → ldW M' t d = ldW M t d
  at_ : z.att = a
  l : ofD d M'.l = ofD d M.l ++ startM (newLd s d M.w a 4) ++ N
  out : (z.wait = 4 ∧ N = [] ∧ bit z.heard s ∧ quor M.w z.heard = false) ∨ (z.wait = 6 ∧ z.heard = 0 ∧ ∃ p, (p = 4 ∨ p = 5) ∧ SentA M.w s d a 5 p N) ∨ ∃ p, fin p ∧ SentA M.w s d a 7 p N
theorem try_deal {sn s d : Nat} {M : Wm} {P N : Int} (h : GoodT sn M P N) (hs : s < M.w.length) (hin : inS sn s = true) (hd : d < 6) : (∃ a z N, TryB M (tryW M s d (stW M s d).pr).1 s d a z N) ∧ (tryW M s d (stW M s d).pr).2 = true := by
  obtain ⟨a, a1, a2, a3, a4, ⟨ref, hH⟩, hv, hup⟩ := try_good h hs hin hd
  have hI := h.wi
  have hde : (tryF s d a).dl.toNat = d := by show ((d : Int)).toNat = d; simp
  have hgt : (stW M s d).pr < a := by
    have : (stW M s d).pr ≤ tryAbove (ndAt M s) d (stW M s d).pr := by
      unfold tryAbove
      split
      · exact Int.le_refl _
      · exact Int.le_max_left _ _
    omega
  have hturn : turnM ref (tryF s d a) (stW M s d) = ({ stW M s d with pr := a }, 4, true) := by
    unfold turnM
    rw [if_neg (show ¬ (tryF s d a).kd = 1 by show ¬ (3 : Int) = 1; omega), if_pos (show (tryF s d a).kd = 3 from rfl)]
    have e1 : max (stW M s d).pr (tryF s d a).att = a := by show max _ a = a; omega
    rw [e1]
    have e2 : decide ((stW M s d).pr < (tryF s d a).att) = true := decide_eq_true hgt
    rw [e2]
  have hme := hH.me
  have han := hH.an
  rw [hde, hturn] at hme han
  simp only at hme han
  rw [if_neg (by omega)] at han
  cases hv with
  | far hf _ => omega
  | fell _ hr _ => rw [hup] at hr; cases hr
  | began hle hr hb br l st ld lv =>
    refine ⟨⟨a, (hearsM (newLd s d M.w a 4) (hearW M s (tryF s d a)).2.1).1, (hearsM (newLd s d M.w a 4) (hearW M s (tryF s d a)).2.1).2, ?_⟩, hb⟩
    have hho : hearsM (newLd s d M.w a 4) (hearW M s (tryF s d a)).2.1 = ((hearM (newLd s d M.w a 4) ⟨s, (tryF s d a).fr, (tryF s d a).dl, 4, (tryF s d a).att, true, { stW M s d with pr := a }⟩).1, (hearM (newLd s d M.w a 4) ⟨s, (tryF s d a).fr, (tryF s d a).dl, 4, (tryF s d a).att, true, { stW M s d with pr := a }⟩).2) := by
      rw [han]
      rfl
    have hNI : LdI M.w s d (newLd s d M.w a 4) := newLd_I (by omega) (by omega)
    have hfit : fitsM (newLd s d M.w a 4) ⟨s, (tryF s d a).fr, (tryF s d a).dl, 4, (tryF s d a).att, true, { stW M s d with pr := a }⟩ := by
      refine ⟨rfl, rfl, rfl, rfl, by simp only; omega, by simp only; show (s : Int) < M.w.length; omega, ?_⟩
      show (0 : Nat) / _ % 2 = 0
      simp
    have hy := hear_yes hI.w0 hNI (fun e => by simp [newLd] at e) (.inl rfl) hfit rfl
    have hatt := (hear_att (newLd s d M.w a 4) ⟨s, (tryF s d a).fr, (tryF s d a).dl, 4, (tryF s d a).att, true, { stW M s d with pr := a }⟩).1
    have hfd : ∀ g ∈ (hearM (newLd s d M.w a 4) ⟨s, (tryF s d a).fr, (tryF s d a).dl, 4, (tryF s d a).att, true, { stW M s d with pr := a }⟩).2, g.dl = (d : Int) := fun g hg => (hear_frames g hg).2.1
    change _ = a at hatt
    rw [hho] at l ld ⊢
    generalize hearM (newLd s d M.w a 4) ⟨s, (tryF s d a).fr, (tryF s d a).dl, 4, (tryF s d a).att, true, { stW M s d with pr := a }⟩ = r at *
    simp only at l ld ⊢
    refine ⟨hgt, a4, by rw [st, hme], fun t ht => by rw [st, hH.st t d (.inl ht)], by rw [ld, if_pos ⟨rfl, rfl⟩], fun t ht => by rw [ld, if_neg (fun h => ht h.1), hH.ld], hatt, ?_, ?_⟩
    · rw [l, ofD_app, ofD_app, ofD_all (l := startM (newLd s d M.w a 4)) fun g hg => (start_frames g hg).2.1, ofD_all hfd]
    · rcases hy with ⟨b1, b2, b3, b4⟩ | ⟨-, b1, b2, p, hp, b3⟩ | ⟨p, hp, b3⟩
      · refine .inl ⟨b1, b2, ?_, b4⟩
        rw [b3]
        exact bit_or.2 (.inr (by simp only; exact (Int.toNat_natCast s).symm))
      · exact .inr (.inl ⟨b1, b2, p, hp, b3⟩)
      · exact .inr (.inr ⟨p, hp, b3⟩)
/-- one deal's part of a tick, of a site that is up: of another deal -/
theorem tickD_oth {sn s e d : Nat} {M : Wm} {P N : Int} (h : GoodT sn M P N) (hs : s < M.w.length) (hin : inS sn s = true) (he : e < 6) (hd : d < 6) (hed : e ≠ d) : OthT sn d M (tickD s (M, true) e).1 ∧ (tickD s (M, true) e).2 = true := by
  have hI := h.wi
  have hn := hI.wn
  have hni := hI.at (s := (s : Int)) (by omega) (by omega)
  obtain ⟨hup, -⟩ := h.set.live s hs hin
  unfold tickD
  rw [if_neg (by simp)]
  cases hsi : (ndAt M (s : Int)).site with
  | none => exact absurd hsi hup
  | some q =>
    obtain ⟨j, ref⟩ := q
    simp only [hsi]
    have ej : stAt j e = stW M s e := st_eq hni hsi e
    rw [ej]
    split
    · exact ⟨.refl _ _ _, rfl⟩
    split
    · refine ⟨⟨fun t => rfl, fun t _ _ => rfl, ?_, rfl⟩, rfl⟩
      show ofD d (M.l ++ decideF M s e (stW M s e)) = ofD d M.l
      rw [ofD_app, ofD_nil (l := decideF M s e (stW M s e)) fun g hg => ?_, List.append_nil]
      unfold decideF at hg
      obtain ⟨i, hi, rfl⟩ := List.mem_map.1 hg
      simp only
      omega
    · exact try_oth h hs hin he hd hed
/-- one deal's part of a tick, of a site that is up: of the deal -/
inductive TikB (M M' : Wm) (s d : Nat) : Prop where
  | none (hz : stW M s d = zeroS) (e : M' = M)
  | told (hf : fin (stW M s d).ph) (e : M' = { M with l := M.l ++ decideF M s d (stW M s d) })
  | tried (hn : ¬ fin (stW M s d).ph) (a : Int) (z : Ld) (N : List Fr) (h : TryB M M' s d a z N)
theorem tickD_deal {sn s d : Nat} {M : Wm} {P N : Int} (h : GoodT sn M P N) (hs : s < M.w.length) (hin : inS sn s = true) (hd : d < 6) : TikB M (tickD s (M, true) d).1 s d ∧ (tickD s (M, true) d).2 = true := by
  have hI := h.wi
  have hn := hI.wn
  have hni := hI.at (s := (s : Int)) (by omega) (by omega)
  obtain ⟨hup, -⟩ := h.set.live s hs hin
  unfold tickD
  rw [if_neg (by simp)]
  cases hsi : (ndAt M (s : Int)).site with
  | none => exact absurd hsi hup
  | some q =>
    obtain ⟨j, ref⟩ := q
    simp only [hsi]
    have ej : stAt j d = stW M s d := st_eq hni hsi d
    rw [ej]
    split
    · rename_i hz
      exact ⟨.none hz rfl, rfl⟩
    split
    · rename_i hf
      exact ⟨.told hf rfl, rfl⟩
    · rename_i hf
      obtain ⟨⟨a, z, Nn, h1⟩, h2⟩ := try_deal h hs hin hd
      exact ⟨.tried hf a z Nn h1, h2⟩
/-- all of a tick -/
theorem tick_view {sn s d : Nat} {M : Wm} {P N : Int} (hI : WI M) (hS : SetI sn M) (hB : Bnd M P N) (hP : P + 49 ≤ 1048576) (hN : N + 7 < 4294967296) (hs : s < M.w.length) (hin : inS sn s = true) (hd : d < 6) :
    ∃ M1 M2, WI M1 ∧ OthT sn d M M1 ∧ TikB M1 M2 s d ∧ OthT sn d M2 (tickW M s).1 := by
  have hn := hI.wn
  have hup := (hS.live s hs hin).1
  have hu : upE M s = none := by
    unfold upE
    rw [nodeE_ok (by omega) (by omega)]
    simp only
    rw [if_neg]
    intro e
    exact hup (Option.isNone_iff_eq_none.1 e)
  have key : ∀ j, j ≤ 6 → ∃ Mj, (List.range j).foldl (tickD s) (M, true) = (Mj, true) ∧ GoodT sn Mj (P + 7 * j) (N + j) ∧ Mj.w = M.w ∧ (j ≤ d → OthT sn d M Mj) ∧ (d < j → ∃ M1 M2, WI M1 ∧ OthT sn d M M1 ∧ TikB M1 M2 s d ∧ OthT sn d M2 Mj) := fun j => by
    induction j with
    | zero => exact fun _ => ⟨M, rfl, ⟨hI, hS, hB.mono (by omega) (by omega), by omega, by omega⟩, rfl, fun _ => .refl _ _ _, fun h => by omega⟩
    | succ j ih =>
      intro hj
      obtain ⟨Mj, e1, e2, e3, e4, e5⟩ := ih (by omega)
      have hT := ticks_ok hI (s := (s : Int)) (by omega) (by omega) hup j (by omega)
      rw [e1] at hT
      have hlv := tickD_live (e := j) hT (by omega) (by omega)
      have hT' := tickD_ok (d := j) hT (by omega) (by omega) (by omega)
      have hBj := Bnd.tickD (d := j) (q := (Mj, true)) e2.bd hT (by omega) (by omega) (by omega)
      rw [List.range_succ, List.foldl_append, e1]
      show ∃ Mj', tickD s (Mj, true) j = (Mj', true) ∧ _
      have hws : (tickD s (Mj, true) j).1.w = M.w := hT'.same.w
      by_cases hjd : j = d
      · subst hjd
        obtain ⟨k1, k2⟩ := tickD_deal e2 (by rw [e3]; exact hs) hin hd
        refine ⟨(tickD s (Mj, true) j).1, Prod.ext rfl k2, ⟨hT'.wi, e2.set.of (by rw [hws, e3]) hlv.1 hlv.2, hBj.mono (by push_cast; omega) (by push_cast; omega), by push_cast; omega, by push_cast; omega⟩, hws, fun h => by omega, fun _ => ⟨Mj, _, e2.wi, e4 (Nat.le_refl _), k1, .refl _ _ _⟩⟩
      · obtain ⟨k1, k2⟩ := tickD_oth e2 (by rw [e3]; exact hs) hin (e := j) (by omega) hd hjd
        refine ⟨(tickD s (Mj, true) j).1, Prod.ext rfl k2, ⟨hT'.wi, e2.set.of (by rw [hws, e3]) hlv.1 hlv.2, hBj.mono (by push_cast; omega) (by push_cast; omega), by push_cast; omega, by push_cast; omega⟩, hws, fun h => (e4 (by omega)).trans k1, fun h => ?_⟩
        obtain ⟨M1, M2, f0, f1, f2, f3⟩ := e5 (by omega)
        exact ⟨M1, M2, f0, f1, f2, f3.trans k1⟩
  obtain ⟨M6, e1, -, -, -, e5⟩ := key 6 (by omega)
  have : (tickW M s).1 = M6 := by
    unfold tickW
    rw [hu]
    simp only
    rw [e1]
  rw [this]
  exact e5 hd
end Go.HL
end

/-! EdM -/
section
namespace Go.HL
open Go Go.Proofs
set_option linter.unusedVariables false
set_option linter.unusedSimpArgs false
section tk
variable (w : List Int) (sn d : Nat)
/-- a site that has ticked: what it asks for -/
structure TkE (t : Nat) (v : Vw) (x : Ld) : Prop where
  wt : x.wait = 4
  me : bit x.heard t
  el : ∀ i, i < w.length → i ≠ t → ∃ f ∈ v.l, elP d x.att i f = true
  k3 : ∀ f ∈ v.l, f.att = x.att → f.kd = 3
  ct : ∀ i, v.l.countP (elP d x.att i) ≤ if i = t then 0 else 1
structure TkA (v : Vw) (x : Ld) : Prop where
  wt : x.wait = 6
  pr : ∀ i, i < w.length → ∃ f ∈ v.l, f.kd = 5 ∧ f.att = x.att ∧ f.to = (i : Int)
structure TkL (t : Nat) (v : Vw) (x : Ld) : Prop where
  at_ : x.att = (v.st t).pr
  md : x.att % w.length = t
  a1 : 1 ≤ x.att
  nq : quor w x.heard = false
  st : TkE w d t v x ∨ TkA w v x
structure TkN (k : Nat) (v : Vw) : Prop where
  nf : ∀ t, t < w.length → inS sn t = true → ¬ fin (v.st t).ph
  lo : ∀ t, t < k → t < w.length → inS sn t = true → (v.st t = zeroS ∧ v.ld t = none) ∨ ∃ x, v.ld t = some x ∧ TkL w d t v x
  hi : ∀ t, k ≤ t → t < w.length → inS sn t = true → ∀ x, v.ld t = some x → 1 ≤ x.att ∧ x.att ≤ (v.st t).pr
  fr : ∀ f ∈ v.l, ∃ t : Nat, t < k ∧ inS sn t = true ∧ f.fr = (t : Int) ∧ f.att = (v.st t).pr ∧ f.att % w.length = t ∧ (f.kd = 3 ∨ f.kd = 5)
/-- what holds of all frames of the deal -/
def FrX (v : Vw) : Prop := ∀ f ∈ v.l, f.dl = d ∧ inS sn f.fr.toNat = true ∧ (f.kd = 5 → f.s.ph = 4 ∨ f.s.ph = 5)
def TkI (k : Nat) (v : Vw) : Prop := FrX sn d v ∧ (DnV w sn v ∨ (∃ t, k ≤ t ∧ t < w.length ∧ inS sn t = true ∧ fin (v.st t).ph) ∨ TkN w sn d k v)
end tk
section tk2
variable {w : List Int} {sn d k : Nat} {v v' : Vw}
theorem tkN_cong (h1 : ∀ t, t < w.length → inS sn t = true → v'.st t = v.st t ∧ v'.ld t = v.ld t) (h2 : v'.l = v.l) (hst : ∀ t, v'.st t = v.st t) (h : TkN w sn d k v) : TkN w sn d k v' := by
  refine ⟨fun t ht hi => by rw [hst]; exact h.nf t ht hi, fun t hk ht hi => ?_, fun t hk ht hi x hx => by rw [hst]; exact h.hi t hk ht hi x (by rw [← (h1 t ht hi).2]; exact hx), fun f hf => ?_⟩
  · rcases h.lo t hk ht hi with ⟨a, b⟩ | ⟨x, hx, a⟩
    · exact .inl ⟨by rw [hst]; exact a, by rw [(h1 t ht hi).2]; exact b⟩
    · refine .inr ⟨x, by rw [(h1 t ht hi).2]; exact hx, by rw [hst]; exact a.at_, a.md, a.a1, a.nq, ?_⟩
      rcases a.st with ⟨e1, e2, e3, e4, e5⟩ | ⟨e1, e2⟩
      · exact .inl ⟨e1, e2, by rw [h2]; exact e3, by rw [h2]; exact e4, by rw [h2]; exact e5⟩
      · exact .inr ⟨e1, by rw [h2]; exact e2⟩
  · rw [h2] at hf
    obtain ⟨t, a, b, c, e, g, m⟩ := h.fr f hf
    exact ⟨t, a, b, c, by rw [hst]; exact e, g, m⟩
theorem tkI_cong (h1 : ∀ t, t < w.length → inS sn t = true → v'.st t = v.st t ∧ v'.ld t = v.ld t) (h2 : v'.l = v.l) (hst : ∀ t, v'.st t = v.st t) (h : TkI w sn d k v) : TkI w sn d k v' := by
  obtain ⟨ha, hb⟩ := h
  refine ⟨by unfold FrX; rw [h2]; exact ha, ?_⟩
  rcases hb with hb | ⟨t, a, b, c, e⟩ | hb
  · exact .inl (dn_cong h1 h2 hb)
  · exact .inr (.inl ⟨t, a, b, c, by rw [hst]; exact e⟩)
  · exact .inr (.inr (tkN_cong h1 h2 hst hb))
end tk2
theorem oth_cong {sn d : Nat} {M M' : Wm} (h : OthT sn d M M') : (∀ t, t < M.w.length → inS sn t = true → (vwD M' d).st t = (vwD M d).st t ∧ (vwD M' d).ld t = (vwD M d).ld t) ∧ (vwD M' d).l = (vwD M d).l ∧ ∀ t, (vwD M' d).st t = (vwD M d).st t :=
  ⟨fun t ht hi => ⟨h.st t, h.ld t ht hi⟩, h.l, h.st⟩
/-- frames come, states stay final -/
theorem dn_more {w : List Int} {sn : Nat} {v v' : Vw} (h : DnV w sn v) (hf : ∀ t, t < w.length → inS sn t = true → fin (v.st t).ph → fin (v'.st t).ph) (hl : ∀ f ∈ v.l, f ∈ v'.l) : DnV w sn v' := fun t ht hi => by
  rcases h t ht hi with k | ⟨g, hg, k⟩
  · exact .inl (hf t ht hi k)
  · exact .inr ⟨g, hl g hg, k⟩
theorem tik_step {sn k d : Nat} {M M' : Wm} (hI : WI M) (hw : M'.w = M.w) (hks : k < M.w.length) (hin : inS sn k = true) (hd : d < 6) (h : TkI M.w sn d k (vwD M d)) (ht : TikB M M' k d) : TkI M.w sn d (k + 1) (vwD M' d) := by
  obtain ⟨hX, hb⟩ := h
  cases ht with
  | none hz e =>
    rw [e]
    refine ⟨hX, ?_⟩
    rcases hb with hb | ⟨t, a, b, c, e'⟩ | hb
    · exact .inl hb
    · refine .inr (.inl ⟨t, ?_, b, c, e'⟩)
      rcases Nat.lt_or_ge k t with h1 | h1
      · exact h1
      · have : t = k := by omega
        subst this
        have e2 : fin (stW M t d).ph := e'
        rw [hz] at e2
        unfold fin zeroS at e2
        simp at e2
    · refine .inr (.inr ⟨hb.nf, fun t htk htn hi => ?_, fun t htk htn hi => hb.hi t (by omega) htn hi, fun f hf => ?_⟩)
      · by_cases e1 : t = k
        · subst e1
          refine .inl ⟨hz, ?_⟩
          cases hx : (vwD M d).ld t with
          | none => rfl
          | some x =>
            have h1 := hb.hi t (Nat.le_refl _) htn hi x hx
            have e2 : ((vwD M d).st t).pr = 0 := by show (stW M t d).pr = 0; rw [hz]; rfl
            omega
        · exact hb.lo t (by omega) htn hi
      · obtain ⟨t, a, b⟩ := hb.fr f hf
        exact ⟨t, by omega, b⟩
  | told hf e =>
    have hl : (vwD M' d).l = (vwD M d).l ++ decideF M k d (stW M k d) := by
      rw [e]
      show ofD d (M.l ++ decideF M k d (stW M k d)) = _
      rw [ofD_app, ofD_all (l := decideF M k d (stW M k d)) fun g hg => ?_]
      · rfl
      · unfold decideF at hg
        obtain ⟨i, hi, rfl⟩ := List.mem_map.1 hg
        rfl
    refine ⟨fun g hg => ?_, .inl fun t htn hi => .inr ?_⟩
    · rw [hl] at hg
      rcases List.mem_append.1 hg with hg | hg
      · exact hX g hg
      · unfold decideF at hg
        obtain ⟨i, hi, rfl⟩ := List.mem_map.1 hg
        refine ⟨rfl, by simp only; rw [Int.toNat_natCast]; exact hin, fun h5 => ?_⟩
        simp only at h5
        omega
    · refine ⟨⟨k, (t : Int), d, 7, (stW M k d).pr, false, ⟨(stW M k d).ph, 0, 0⟩⟩, ?_, rfl, rfl, hf⟩
      rw [hl]
      refine List.mem_append_right _ ?_
      unfold decideF
      exact List.mem_map.2 ⟨t, List.mem_range.2 htn, rfl⟩
  | tried hn a z N hT =>
    have hl : (vwD M' d).l = (vwD M d).l ++ startM (newLd k d M.w a 4) ++ N := hT.l
    have hst : ∀ t, t ≠ k → (vwD M' d).st t = (vwD M d).st t := hT.so
    have hstk : (vwD M' d).st k = { (vwD M d).st k with pr := a } := hT.st
    have hfin : ∀ t, fin ((vwD M d).st t).ph → fin ((vwD M' d).st t).ph := fun t hf => by
      by_cases e1 : t = k
      · subst e1; rw [hstk]; exact hf
      · rw [hst t e1]; exact hf
    have ha1 : 1 ≤ a ∨ a ≤ 0 := by omega
    have hstart : ∀ g ∈ startM (newLd k d M.w a 4), g.fr = k ∧ g.dl = d ∧ g.att = a ∧ (g.kd = 1 ∨ g.kd = 3) := fun g hg => by
      obtain ⟨k1, k2, k3, -, k5⟩ := start_frames g hg
      refine ⟨k1, k2, k3, ?_⟩
      rw [k5]
      split
      · exact .inl rfl
      · exact .inr rfl
    have hN : ∀ g ∈ N, g.fr = k ∧ g.dl = d ∧ g.att = a ∧ ((g.kd = 5 ∧ (g.s.ph = 4 ∨ g.s.ph = 5)) ∨ g.kd = 7) := fun g hg => by
      rcases hT.out with ⟨-, k1, -⟩ | ⟨-, -, p, hp, k1⟩ | ⟨p, hp, k1⟩
      · rw [k1] at hg; cases hg
      · obtain ⟨m1, m2, m3, m4, m5⟩ := k1.mem g hg
        exact ⟨m1, m2, m4, .inl ⟨m3, by rw [m5]; exact hp⟩⟩
      · obtain ⟨m1, m2, m3, m4, m5⟩ := k1.mem g hg
        exact ⟨m1, m2, m4, .inr m3⟩
    refine ⟨fun g hg => ?_, ?_⟩
    · rw [hl] at hg
      rcases List.mem_append.1 hg with hg | hg
      · rcases List.mem_append.1 hg with hg | hg
        · exact hX g hg
        · obtain ⟨m1, m2, -, m4⟩ := hstart g hg
          exact ⟨m2, by rw [m1, Int.toNat_natCast]; exact hin, fun h5 => by omega⟩
      · obtain ⟨m1, m2, -, m4⟩ := hN g hg
        refine ⟨m2, by rw [m1, Int.toNat_natCast]; exact hin, fun h5 => ?_⟩
        rcases m4 with m4 | m4
        · exact m4.2
        · omega
    rcases hb with hb | ⟨t, a', b, c, e'⟩ | hb
    · exact .inl (dn_more hb (fun t _ _ => hfin t) fun g hg => by rw [hl]; exact List.mem_append_left _ (List.mem_append_left _ hg))
    · refine .inr (.inl ⟨t, ?_, b, c, hfin t e'⟩)
      rcases Nat.lt_or_ge k t with h1 | h1
      · exact h1
      · have : t = k := by omega
        subst this
        exact absurd e' hn
    · by_cases hD : ∃ p, fin p ∧ SentA M.w k d a 7 p N
      · obtain ⟨p, hp, hS⟩ := hD
        left
        intro t htn hi
        obtain ⟨g, hg, e1⟩ := hS.all t htn
        obtain ⟨-, -, m3, -, m5⟩ := hS.mem g hg
        exact .inr ⟨g, by rw [hl]; exact List.mem_append_right _ hg, m3, e1, by rw [m5]; exact hp⟩
      · have hout : (z.wait = 4 ∧ N = [] ∧ bit z.heard k ∧ quor M.w z.heard = false) ∨ (z.wait = 6 ∧ z.heard = 0 ∧ ∃ p, (p = 4 ∨ p = 5) ∧ SentA M.w k d a 5 p N) := by
          rcases hT.out with k1 | k1 | k1
          · exact .inl k1
          · exact .inr k1
          · exact absurd k1 hD
        have hpos : 1 ≤ a := by
          have h1 := hT.gt
          have h2 := st_ok hI hks hd
          obtain ⟨g1, g2, g3, g4, g5⟩ := h2
          unfold stW at h1
          omega
        have hstart3 : ∀ g ∈ startM (newLd k d M.w a 4), g.kd = 3 := fun g hg => by
          have := (start_frames g hg).2.2.2.2
          rw [if_neg (show ¬ (newLd k d M.w a 4).att = 0 by show ¬ a = 0; omega)] at this
          exact this
        have hnewA : ∀ g ∈ startM (newLd k d M.w a 4) ++ N, g.att = a := fun g hg => by
          rcases List.mem_append.1 hg with hg | hg
          · exact (hstart g hg).2.2.1
          · exact (hN g hg).2.2.1
        have hl' : (vwD M' d).l = (vwD M d).l ++ (startM (newLd k d M.w a 4) ++ N) := by rw [hl, List.append_assoc]
        have hold : ∀ g ∈ (vwD M d).l, g.att ≠ a := fun g hg e1 => by
          obtain ⟨t, m1, m2, m3, m4, m5, -⟩ := hb.fr g hg
          have := hT.md
          rw [e1] at m5
          omega
        refine .inr (.inr ⟨fun t htn hi => ?_, fun t htk htn hi => ?_, fun t htk htn hi x hx => ?_, fun f hf => ?_⟩)
        · by_cases e1 : t = k
          · subst e1; rw [hstk]; exact hb.nf t htn hi
          · rw [hst t e1]; exact hb.nf t htn hi
        · by_cases e1 : t = k
          · subst e1
            have hatt : z.att = a := hT.at_
            refine .inr ⟨z, hT.ld, by rw [hstk]; exact hatt, by rw [hatt]; exact hT.md, by omega, ?_, ?_⟩
            · rcases hout with ⟨-, -, -, m⟩ | ⟨-, m, -⟩
              · exact m
              · rw [m]
                exact quor_zero hI.w0
            · rcases hout with ⟨m1, m2, m3, m4⟩ | ⟨m1, m2, p, hp, m3⟩
              · refine .inl ⟨m1, m3, fun i hi2 hit => ?_, fun g hg hga => ?_, fun i => ?_⟩
                · refine ⟨⟨t, i, d, 3, a, false, ⟨0, 0, 0⟩⟩, ?_, ?_⟩
                  · rw [hl']
                    refine List.mem_append_right _ (List.mem_append_left _ ?_)
                    unfold startM
                    rw [if_neg (show ¬ (newLd t d M.w a 4).att = 0 by show ¬ a = 0; omega)]
                    exact allM_has (m := newLd t d M.w a 4) (k := 3) (p := 0) hi2 (.inr (by show (i : Int) ≠ (t : Int); omega))
                  · unfold elP
                    rw [decide_eq_true_iff]
                    exact ⟨rfl, rfl, hatt.symm, rfl⟩
                · rw [hatt] at hga
                  rw [hl'] at hg
                  rcases List.mem_append.1 hg with hg | hg
                  · exact absurd hga (hold g hg)
                  · rw [m2, List.append_nil] at hg
                    exact hstart3 g hg
                · rw [hl', m2, List.append_nil, List.countP_append, hatt]
                  rw [el_none (l := (vwD M d).l) fun g hg _ _ h3 => absurd h3 (hold g hg)]
                  unfold startM
                  rw [if_neg (show ¬ (newLd t d M.w a 4).att = 0 by show ¬ a = 0; omega)]
                  unfold allM
                  rw [el_count (m := newLd t d M.w a 4) (d := d) (A := a) rfl rfl]
                  by_cases hit : i = t
                  · rw [if_pos hit, if_neg (by rw [hit]; rintro ⟨-, h⟩; exact h rfl)]
                    omega
                  · rw [if_neg hit]
                    split <;> omega
              · refine .inr ⟨m1, fun i hi2 => ?_⟩
                obtain ⟨g, hg, e1⟩ := m3.all i hi2
                obtain ⟨-, -, n3, n4, -⟩ := m3.mem g hg
                exact ⟨g, by rw [hl]; exact List.mem_append_right _ hg, n3, by rw [n4, hatt], e1⟩
          · have hldt : (vwD M' d).ld t = (vwD M d).ld t := hT.lo t e1
            rcases hb.lo t (by omega) htn hi with ⟨m1, m2⟩ | ⟨x, hx, m⟩
            · exact .inl ⟨by rw [hst t e1]; exact m1, by rw [hldt]; exact m2⟩
            · have hne : a ≠ x.att := fun e2 => by
                have := hT.md
                have := m.md
                rw [← e2] at this
                omega
              refine .inr ⟨x, by rw [hldt]; exact hx, by rw [hst t e1]; exact m.at_, m.md, m.a1, m.nq, ?_⟩
              rcases m.st with ⟨n1, n2, n3, n4, n5⟩ | ⟨n1, n2⟩
              · refine .inl ⟨n1, n2, fun i hi2 hit => ?_, fun g hg hga => ?_, fun i => ?_⟩
                · rw [hl']; exact in_app (n3 i hi2 hit)
                · rw [hl'] at hg
                  rcases List.mem_append.1 hg with hg | hg
                  · exact n4 g hg hga
                  · have := hnewA g hg
                    omega
                · rw [hl', List.countP_append, el_none (l := startM (newLd k d M.w a 4) ++ N) fun g hg _ _ h3 => by have := hnewA g hg; omega]
                  exact n5 i
              · refine .inr ⟨n1, fun i hi2 => ?_⟩
                rw [hl']
                exact in_app (n2 i hi2)
        · have e1 : t ≠ k := by omega
          have hldt : (vwD M' d).ld t = (vwD M d).ld t := hT.lo t e1
          rw [hldt] at hx
          rw [hst t e1]
          exact hb.hi t (by omega) htn hi x hx
        · rw [hl'] at hf
          rcases List.mem_append.1 hf with hf | hf
          · obtain ⟨t, m1, m2, m3, m4, m5, m6⟩ := hb.fr f hf
            exact ⟨t, by omega, m2, m3, by rw [hst t (by omega)]; exact m4, m5, m6⟩
          · have hfa := hnewA f hf
            refine ⟨k, by omega, hin, ?_, by rw [hstk]; exact hfa, by rw [hfa]; exact hT.md, ?_⟩
            · rcases List.mem_append.1 hf with hf | hf
              · exact (hstart f hf).1
              · exact (hN f hf).1
            · rcases List.mem_append.1 hf with hf | hf
              · exact .inl (hstart3 f hf)
              · rcases hout with ⟨-, m2, -⟩ | ⟨-, -, p, hp, m3⟩
                · rw [m2] at hf; cases hf
                · exact .inr (m3.mem f hf).2.2.1
theorem tick_step {sn k d : Nat} {M : Wm} {P N : Int} (hI : WI M) (hS : SetI sn M) (hB : Bnd M P N) (hP : P + 49 ≤ 1048576) (hN : N + 7 < 4294967296) (hks : k < M.w.length) (hd : d < 6) (h : TkI M.w sn d k (vwD M d)) : TkI M.w sn d (k + 1) (vwD (tickS sn M k) d) := by
  unfold tickS
  cases hin : inS (sn : Int) k with
  | false =>
    simp only [Bool.false_eq_true, if_false]
    obtain ⟨hX, hb⟩ := h
    refine ⟨hX, ?_⟩
    have hne : ∀ t, k ≤ t → inS (sn : Int) t = true → k + 1 ≤ t := fun t h1 h2 => by
      rcases Nat.lt_or_ge k t with h3 | h3
      · omega
      · have : t = k := by omega
        subst this
        rw [hin] at h2; cases h2
    rcases hb with hb | ⟨t, a, b, c, e⟩ | hb
    · exact .inl hb
    · exact .inr (.inl ⟨t, hne t a c, b, c, e⟩)
    · refine .inr (.inr ⟨hb.nf, fun t htk htn hi => hb.lo t ?_ htn hi, fun t htk htn hi => hb.hi t (by omega) htn hi, fun f hf => ?_⟩)
      · rcases Nat.lt_or_ge t k with h1 | h1
        · exact h1
        · have := hne t h1 hi; omega
      · obtain ⟨t, a, b⟩ := hb.fr f hf
        exact ⟨t, by omega, b⟩
  | true =>
    simp only [if_true]
    obtain ⟨M1, M2, f0, f1, f2, f3⟩ := tick_view hI hS hB hP hN hks hin hd
    have hw1 := f1.w
    obtain ⟨c1, c2, c3⟩ := oth_cong f1
    have h1 : TkI M.w sn d k (vwD M1 d) := tkI_cong c1 c2 c3 h
    rw [← hw1] at h1
    have hw2 : M2.w = M1.w := by
      cases f2 with
      | none hz e => rw [e]
      | told hf e => rw [e]
      | tried hn a z Nn hT =>
        have := f3.w
        rw [(tick_ok hI _).same.w] at this
        rw [hw1, this]
    have h2 := tik_step f0 hw2 (by rw [hw1]; exact hks) hin hd h1 f2
    obtain ⟨c1', c2', c3'⟩ := oth_cong f3
    rw [hw1] at h2
    exact tkI_cong (fun t ht hi => c1' t (by rw [hw2, hw1]; exact ht) hi) c2' c3' h2
theorem ticks_tk {sn d : Nat} {M : Wm} {P N : Int} (hI : WI M) (hS : SetI sn M) (hB : Bnd M P N) (hP : P + 400 ≤ 1048576) (hN : N + 100 < 4294967296) (hd : d < 6) (h : TkI M.w sn d 0 (vwD M d)) : ∀ k, k ≤ M.n.length → SetI sn (ticksS sn k M) ∧ TkI M.w sn d k (vwD (ticksS sn k M) d)
  | 0, _ => ⟨hS, h⟩
  | k + 1, hk => by
    obtain ⟨h1, h2⟩ := ticks_tk hI hS hB hP hN hd h k (by omega)
    have hok := ticksS_ok hI (sn : Int) k
    have hb := ticks_bnd hI hB (sn : Int) k
    have hn := hI.wn
    have hwl := hI.wl
    have hw := hok.same.w
    rw [ticksS_succ]
    refine ⟨?_, ?_⟩
    · unfold tickS
      split
      · exact set_tick hok.wi h1 (by rw [hok.same.n]; omega)
      · exact h1
    · rw [← hw] at h2 ⊢
      exact tick_step hok.wi h1 hb (by omega) (by omega) (by rw [hw]; omega) hd h2
theorem exists_max (P : Nat → Prop) [DecidablePred P] (f : Nat → Int) : ∀ n, (∃ t, t < n ∧ P t) → ∃ s, s < n ∧ P s ∧ ∀ t, t < n → P t → f t ≤ f s
  | 0, ⟨t, h, _⟩ => by omega
  | n + 1, h => by
    by_cases h1 : ∃ t, t < n ∧ P t
    · obtain ⟨s, a, b, c⟩ := exists_max P f n h1
      by_cases h2 : P n ∧ f s < f n
      · refine ⟨n, by omega, h2.1, fun t ht hp => ?_⟩
        by_cases e : t = n
        · rw [e]; omega
        · have := c t (by omega) hp; omega
      · refine ⟨s, by omega, b, fun t ht hp => ?_⟩
        by_cases e : t = n
        · subst e
          by_cases h3 : f s < f t
          · exact absurd ⟨hp, h3⟩ h2
          · omega
        · exact c t (by omega) hp
    · obtain ⟨t, a, b⟩ := h
      have : t = n := by
        by_cases e : t = n
        · exact e
        · exact absurd ⟨t, by omega, b⟩ h1
      subst this
      refine ⟨t, by omega, b, fun q hq hp => ?_⟩
      by_cases e : q = t
      · rw [e]; omega
      · exact absurd ⟨q, by omega, hp⟩ h1
/-- a lead's phase -/
theorem safe_ph {M : Wm} (h : SafeW M) {t d : Nat} (ht : t < M.w.length) (hd : d < 6) {x : Ld} (hx : ldW M t d = some x) : PhOk x := fun e => by
  obtain ⟨g, hg⟩ := h d hd
  have := (hg.inv.lead t x ht hx).six e
  exact (hg.inv.pp _ _ this.1).1
/-- behind the ticks: the round is under way -/
theorem ticks_r2 {sn d : Nat} {M : Wm} {P N : Int} (hI : WI M) (hs : SafeW M) (hS : SetI sn M) (hL : LdP sn d M) (hB : Bnd M P N) (hP : P + 400 ≤ 1048576) (hN : N + 100 + 65 * 588 < 2000000) (hd : d < 6) (hl : M.l = []) {t0 : Nat} (ht0 : t0 < M.w.length) (hi0 : inS sn t0 = true) (hz0 : stW M t0 d ≠ zeroS) :
    ∃ s A, s < M.w.length ∧ inS sn s = true ∧ R2 sn d s A (ticksS sn M.n.length M) := by
  have hn := hI.wn
  have hwl := hI.wl
  have hl0 : (vwD M d).l = [] := by show ofD d M.l = []; rw [hl]; rfl
  have h0 : TkI M.w sn d 0 (vwD M d) := by
    refine ⟨fun f hf => (by rw [hl0] at hf; cases hf), ?_⟩
    by_cases hf : ∃ t, 0 ≤ t ∧ t < M.w.length ∧ inS (sn : Int) t = true ∧ fin ((vwD M d).st t).ph
    · exact .inr (.inl hf)
    · refine .inr (.inr ⟨fun t ht hi h => hf ⟨t, by omega, ht, hi, h⟩, fun t h => by omega, fun t _ ht hi x hx => hL t ht hi x hx, fun f hf => (by rw [hl0] at hf; cases hf)⟩)
  obtain ⟨k1, k2⟩ := ticks_tk hI hS hB hP (by omega) hd h0 M.n.length (Nat.le_refl _)
  have hok := ticksS_ok hI (sn : Int) M.n.length
  have hsf := (ticks_ind (P := fun M1 => SafeW M1 ∧ (M1.w = M.w ∧ RiseW M M1)) (set := (sn : Int)) hI ⟨hs, rfl, .same hI fun _ _ => rfl⟩ (fun M1 s a b _ _ c => ⟨safe_tick a c.1 _, by rw [(tick_ok a _).same.w, c.2.1], c.2.2.trans (by rw [b.w]) (rise_tick a _)⟩) M.n.length (Nat.le_refl _))
  have hbd := ticks_bnd hI hB (sn : Int) M.n.length
  have hw := hok.same.w
  have hlen := hok.len
  have hw65 := wt_65 (ticksS sn M.n.length M).l
  rw [hl] at hlen
  simp only [List.length_nil, Nat.zero_add] at hlen
  have hIT := hok.wi
  obtain ⟨hsT, -, hrT⟩ := hsf
  generalize ticksS sn M.n.length M = MT at *
  have hbd' : ∃ P, Bnd MT P (2000000 - wtL MT.l) := ⟨_, hbd.mono (Int.le_refl _) (by omega)⟩
  have hldI : ∀ t, t < M.w.length → inS (sn : Int) t = true → ∀ x, (vwD MT d).ld t = some x → LdI M.w t d x ∧ PhOk x := fun t ht hi x hx => by
    have hni := hIT.at (s := (t : Int)) (by omega) (by rw [hok.same.n]; omega)
    rw [hw] at hni
    simp only [Int.toNat_natCast] at hni
    have hx' : (ndAt MT (t : Int)).leads.getD d none = some x := hx
    exact ⟨hni.ldi d x (by rw [getD_some (x := none) (by rw [hni.leads]; exact hd), hx']), safe_ph hsT (by rw [hw]; exact ht) hd hx⟩
  have hfr : ∀ f ∈ (vwD MT d).l, f.dl = d ∧ okF M.w.length f ∧ inS sn f.fr.toNat = true ∧ (f.kd = 5 → f.s.ph = 4 ∨ f.s.ph = 5) := fun f hf => by
    obtain ⟨a, b, c⟩ := k2.1 f hf
    have := hIT.fr f (ofD_mem.1 hf).1
    rw [hw] at this
    exact ⟨a, this, b, c⟩
  have hst : ∀ t, t < M.w.length → stOk ((vwD MT d).st t) := fun t ht => st_ok hIT (by rw [hw]; exact ht) hd
  rcases k2.2 with hD | ⟨t, a, b, -⟩ | hT
  · refine ⟨t0, 1048576, ht0, hi0, k1, ?_, .inl (by rw [hw]; exact hD), hbd'⟩
    rw [hw]
    exact ⟨fun f hf => by
      obtain ⟨a, b, c, e⟩ := hfr f hf
      have hb := b.1
      unfold badF at hb
      exact ⟨a, b, c, by omega, e⟩, fun t ht hi => (hst t ht).2.2.2.2, fun t ht hi x hx => ⟨(hldI t ht hi x hx).1, (hldI t ht hi x hx).1.att1, (hldI t ht hi x hx).2⟩⟩
  · omega
  · -- nobody has decided: the greatest attempt
    obtain ⟨s, hs1, hs2, hmax⟩ := exists_max (fun t => inS (sn : Int) t = true) (fun t => ((vwD MT d).st t).pr) M.w.length ⟨t0, ht0, hi0⟩
    have hz : (vwD MT d).st t0 ≠ zeroS := fun e => by
      have h1 := hrT t0 d ht0 hd
      have e' : plSt (ndAt MT (t0 : Int)).pl d = zeroS := e
      rw [e'] at h1
      have h2 := st_ok hI ht0 hd
      obtain ⟨g1, g2, g3, g4, g5⟩ := h2
      obtain ⟨m1, m2, m3⟩ := h1
      have h3 : (zeroS).pr = 0 ∧ (zeroS).att = 0 ∧ (zeroS).ph = 0 := ⟨rfl, rfl, rfl⟩
      have h4 : (plSt (ndAt M (t0 : Int)).pl d).ph = 0 := by
        by_cases h5 : (plSt (ndAt M (t0 : Int)).pl d).ph = 0
        · exact h5
        · exact absurd h3.2.2 (mayS_ne m3 h5)
      exact hz0 (St.ext3 ⟨by unfold stW; rw [h4]; rfl, by unfold stW; rw [h3.1] at m1; show _ = (0 : Int); omega, by unfold stW; rw [h3.2.1] at m2; show _ = (0 : Int); omega⟩)
    have hpos : 1 ≤ ((vwD MT d).st s).pr := by
      rcases hT.lo t0 (by omega) ht0 hi0 with ⟨e, -⟩ | ⟨x, hx, e⟩
      · exact absurd e hz
      · have h1 := e.a1
        rw [e.at_] at h1
        have := hmax t0 ht0 hi0
        omega
    obtain ⟨x, hx, hxL⟩ : ∃ x, (vwD MT d).ld s = some x ∧ TkL M.w d s (vwD MT d) x := by
      rcases hT.lo s (by omega) hs1 hs2 with ⟨e, -⟩ | h
      · have : ((vwD MT d).st s).pr = 0 := by rw [e]; rfl
        omega
      · exact h
    have hA : x.att = ((vwD MT d).st s).pr := hxL.at_
    -- no other site has promised so much
    have hlt : ∀ t, t < M.w.length → inS (sn : Int) t = true → t ≠ s → ((vwD MT d).st t).pr < ((vwD MT d).st s).pr := fun t ht hi hts => by
      have h1 := hmax t ht hi
      by_cases e : ((vwD MT d).st t).pr = ((vwD MT d).st s).pr
      · exfalso
        rcases hT.lo t (by omega) ht hi with ⟨e1, -⟩ | ⟨y, hy, e1⟩
        · have : ((vwD MT d).st t).pr = 0 := by rw [e1]; rfl
          omega
        · have m1 := e1.md
          have m2 := hxL.md
          rw [e1.at_, e] at m1
          rw [hA] at m2
          omega
      · omega
    have hatt : ∀ t, t < M.w.length → inS (sn : Int) t = true → ∀ y, (vwD MT d).ld t = some y → y.att = ((vwD MT d).st t).pr := fun t ht hi y hy => by
      rcases hT.lo t (by omega) ht hi with ⟨-, e1⟩ | ⟨z, hz', e1⟩
      · rw [e1] at hy; cases hy
      · rw [hz'] at hy
        cases hy
        exact e1.at_
    have hfrA : ∀ f ∈ (vwD MT d).l, f.att ≤ ((vwD MT d).st s).pr ∧ (f.att = ((vwD MT d).st s).pr → f.fr = (s : Int)) := fun f hf => by
      obtain ⟨t, m1, m2, m3, m4, m5, m6⟩ := hT.fr f hf
      have htn : t < M.w.length := by omega
      have h1 := hmax t htn m2
      refine ⟨by omega, fun e => ?_⟩
      by_cases hts : t = s
      · rw [m3, hts]
      · have := hlt t htn m2 hts
        omega
    refine ⟨s, ((vwD MT d).st s).pr, hs1, hs2, k1, ?_, .inr ?_, hbd'⟩
    · rw [hw]
      refine ⟨fun f hf => ?_, fun t ht hi => hmax t ht hi, fun t ht hi y hy => ⟨(hldI t ht hi y hy).1, ?_, (hldI t ht hi y hy).2⟩⟩
      · obtain ⟨a, b, c, e⟩ := hfr f hf
        exact ⟨a, b, c, (hfrA f hf).1, e⟩
      · rw [hatt t ht hi y hy]
        exact hmax t ht hi
    · rw [hw]
      refine ⟨hT.nf, fun f hf => ?_, fun t ht hi hts y hy => by rw [hatt t ht hi y hy]; exact hlt t ht hi hts, fun f hf hfa _ => (hfrA f hf).2 hfa, x, hx, hA, hxL.nq, ?_⟩
      · obtain ⟨t, -, -, -, -, -, m⟩ := hT.fr f hf
        omega
      · rcases hxL.st with ⟨e1, e2, e3, e4, e5⟩ | ⟨e1, e2⟩
        · rw [hA] at e3 e4 e5
          refine .inl ⟨e1, fun f hf hfa => ?_, fun t ht hi => ?_, fun t ht hi => ?_⟩
          · have := e4 f hf hfa
            exact ⟨.inl this, fun h => by omega⟩
          · by_cases hts : t = s
            · rw [hts]; exact .inl e2
            · exact .inr (.inl (e3 t ht hts))
          · have h1 := e5 t
            by_cases hts : t = s
            · rw [if_pos hts] at h1
              exact ⟨by omega, fun h => by omega⟩
            · rw [if_neg hts] at h1
              exact ⟨h1, fun _ => hlt t ht hi hts⟩
        · rw [hA] at e2
          refine .inr ⟨e1, fun f hf hfa h6 => ?_, fun t ht hi => .inr (.inl (e2 t ht))⟩
          obtain ⟨q, -, -, -, -, -, m⟩ := hT.fr f hf
          omega
/-- WorldEnds, of one round in which nothing else flies -/
theorem round_ends {sn d : Nat} {M : Wm} {P N : Int} (hI : WI M) (hs : SafeW M) (hS : SetI sn M) (hL : LdP sn d M) (hB : Bnd M P N) (hP : P + 400 ≤ 1048576) (hN : N + 100 + 65 * 588 < 2000000) (hd : d < 6) (hl : M.l = []) (hsn : sn < 2 ^ M.w.length) (hq : quor M.w sn = true) {t0 : Nat} (ht0 : t0 < M.w.length) (hi0 : inS sn t0 = true) (hz0 : stW M t0 d ≠ zeroS) :
    ∀ t, t < M.w.length → inS sn t = true → fin (stW (roundW sn M).1 t d).ph := by
  obtain ⟨s, A, h1, h2, h3⟩ := ticks_r2 hI hs hS hL hB hP hN hd hl ht0 hi0 hz0
  have hok := ticksS_ok hI (sn : Int) M.n.length
  have hw := hok.same.w
  have := r2_drain hok.wi hd (by rw [hw]; exact h1) h2 (by rw [hw]; exact hsn) (by rw [hw]; exact hq) h3
  rw [hw] at this
  exact this
/-- WorldEnds -/
theorem ends_law {M0 : Wm} (hI : WI M0) (hs : SafeW M0) (he : EvW M0) (hdn : DnA M0) (hB : Bnd M0 8400 1200) (hl : M0.l.length ≤ 16800) {sn d : Nat} (hd : d < 6) (hsn : sn < 2 ^ M0.w.length) (hq : quor M0.w sn = true) {a : Nat} (ha : a < M0.w.length) (hia : inS sn a = true) (hz : stW (prepW sn M0.n.length M0.n.length M0) a d ≠ zeroS) :
    ∀ t, t < M0.w.length → inS sn t = true → fin (stW (roundsW sn 2 (prepW sn M0.n.length M0.n.length M0)).1 t d).ph := by
  have hp := prep_view (set := (sn : Int)) hI hdn M0.n.length (Nat.le_refl _)
  have hn := hI.wn
  have hwl := hI.wl
  generalize prepW sn M0.n.length M0.n.length M0 = M at *
  have hw := hp.pi.same.w
  have hnn := hp.pi.same.n
  have hwi := hp.pi.wi
  have hoff := tgt_off (set := (sn : Int)) (n := M.w.length) (br := M.br) fun a b ha hb => hp.br a b (by rw [hw] at ha; omega) (by rw [hw] at hb; omega)
  have hS : SetI sn M := ⟨fun t ht hi => (hp.rb t (by rw [hw] at ht; omega) hi).1, hoff.2, hoff.1⟩
  have hL : LdP sn d M := fun t ht hi x hx => by
    rw [(hp.rb t (by rw [hw] at ht; omega) hi).2.1] at hx; cases hx
  have hB1 := hp.pi.bn _ _ hB
  have hs1 := hp.pi.safe hs
  have he1 := hp.pi.ev he
  obtain ⟨k1, k2⟩ := set_round hwi hd hS hL
  obtain ⟨hok, -⟩ := round_ok hwi (sn : Int)
  obtain ⟨s1, s2, s3⟩ := round_safe hwi hs1 he1 (sn : Int)
  have hb2 : Bnd (roundW sn M).1 9000 1200000 := by
    have h1 := ticks_bnd hwi hB1 (sn : Int) M.n.length
    have h2 := ticksS_ok hwi (sn : Int) M.n.length
    have h3 := drain_bnd _ (Nat.le_refl _) h2.wi h1
    have h4 := wt_65 (ticksS (sn : Int) M.n.length M).l
    have h5 := h2.len
    have h6 := hp.pi.l
    rw [h6] at h5
    exact h3.mono (by omega) (by omega)
  have hz1 : stW (roundW sn M).1 a d ≠ zeroS := fun e => by
    have h1 := s3 a d (by rw [hw]; exact ha) hd
    have e' : plSt (ndAt (roundW sn M).1 (a : Int)).pl d = zeroS := e
    rw [e'] at h1
    obtain ⟨g1, g2, g3, g4, g5⟩ := st_ok hwi (s := a) (d := d) (by rw [hw]; exact ha) hd
    obtain ⟨m1, m2, m3⟩ := h1
    have h3 : (zeroS).pr = 0 ∧ (zeroS).att = 0 ∧ (zeroS).ph = 0 := ⟨rfl, rfl, rfl⟩
    have h4 : (plSt (ndAt M (a : Int)).pl d).ph = 0 := by
      by_cases h5 : (plSt (ndAt M (a : Int)).pl d).ph = 0
      · exact h5
      · exact absurd h3.2.2 (mayS_ne m3 h5)
    exact hz (St.ext3 ⟨by unfold stW; rw [h4]; rfl, by unfold stW; rw [h3.1] at m1; show _ = (0 : Int); omega, by unfold stW; rw [h3.2.1] at m2; show _ = (0 : Int); omega⟩)
  have hw1 : (roundW sn M).1.w = M0.w := by rw [hok.same.w, hw]
  have := round_ends hok.wi s1 k1 k2 hb2 (by omega) (by omega) hd hok.nil (by rw [hw1]; exact hsn) (by rw [hw1]; exact hq) (by rw [hw1]; exact ha) hia hz1
  rw [hw1] at this
  exact this
end Go.HL
end

/-! PwM -/
section
namespace Go.HL
open Go Go.Proofs
set_option linter.unusedVariables false
set_option linter.unusedSimpArgs false
/-- a site of a set, of those below i, knows a deal -/
def knB (set : Int) (M : Wm) (d i : Nat) : Bool := (List.range i).any fun s => inS set s && decide (stW M s d ≠ zeroS)
theorem knB_succ (set : Int) (M : Wm) (d i : Nat) : knB set M d (i + 1) = (knB set M d i || (inS set i && decide (stW M i d ≠ zeroS))) := by
  unfold knB
  rw [List.range_succ, List.any_append]
  simp
theorem knB_more {set : Int} {M : Wm} {d i n : Nat} (h : knB set M d i = true) (hn : i ≤ n) : knB set M d n = true := by
  unfold knB at *
  rw [List.any_eq_true] at *
  obtain ⟨s, hs, k⟩ := h
  exact ⟨s, List.mem_range.2 (by have := List.mem_range.1 hs; omega), k⟩
/-- the deals below d that are known -/
def knL (set : Int) (M : Wm) (n d : Nat) : List Int := ((List.range d).filter fun e => knB set M e n).map fun (e : Nat) => (e : Int)
theorem knL_hit {set : Int} {M : Wm} {n d : Nat} (h : knB set M d n = true) : knL set M n (d + 1) = knL set M n d ++ [(d : Int)] := by
  unfold knL
  rw [List.range_succ, List.filter_append, List.map_append]
  simp [h]
theorem knL_miss {set : Int} {M : Wm} {n d : Nat} (h : knB set M d n = false) : knL set M n (d + 1) = knL set M n d := by
  unfold knL
  rw [List.range_succ, List.filter_append, List.map_append]
  simp [h]
theorem knL_len (set : Int) (M : Wm) (n d : Nat) : (knL set M n d).length ≤ d := by
  unfold knL
  rw [List.length_map]
  exact Nat.le_trans (List.length_filter_le _ _) (by simp)
theorem knL_get {set : Int} {M : Wm} {n d i : Nat} (h : i < (knL set M n d).length) : ∃ e : Nat, (knL set M n d)[i] = (e : Int) ∧ e < d ∧ knB set M e n = true := by
  have hm := List.getElem_mem h
  generalize (knL set M n d)[i] = x at *
  unfold knL at hm
  obtain ⟨e, he, rfl⟩ := List.mem_map.1 hm
  rw [List.mem_filter] at he
  exact ⟨e, rfl, List.mem_range.1 he.1, he.2⟩
set_option maxHeartbeats 2000000 attribute [local irreducible] HW HO HQ HD HC QOp Has Upd Puts Gets seqQ blkQ loopQ fnQ actQ nextP unQ MapF
attribute [local irreducible] newW actsW actW stsW wdC roundsW linkW upW downW knL knB
theorem worldEnds_calls (T : Nat) (E : Nat → Addr) (a al : Option Addr) (cap capl : Nat) (w : List Int) (l : List StpS) (set : Int) (L : Heap) (hE : Ez T E L) (hR : Rd ic 1 L a w) (hRl : Rd stpL 4 L al l) (hd : ∀ x ∈ l, x.n ≤ 9223372036854775807) (hset : set ≤ 9223372036854775807) :
    HC Tryz.prog 6 [.slice a w.length cap, .slice al l.length capl, iv set] L (fun v L' => v = .bool true ∧ L' = L) := by
  have kb := born_calls T E L hE
  have kse := setError_calls a cap w set L hR hset
  cases hse : (sumW w set).2 with
  | some e =>
    rw [hse] at kse
    have hpos : ¬ cdN' (some e) ≤ 0 := by
      have h1 : 1 ≤ e := by
        unfold sumW at hse
        split at hse
        · rename_i e2 he2
          cases hse
          exact check_pos he2
        · split at hse <;> cases hse
          omega
      obtain ⟨k, hk⟩ : ∃ k, e = k + 1 := ⟨e - 1, by omega⟩
      subst hk
      simp only [cdN']
      omega
    generalize cdN' (some e) = z at *
    refine Za (fun _ _ => Tryz.call6 _ _) Tryz.func6 rfl Tryz.ntmps6 (Nat.le_of_ble_eq_true rfl) ?_; simp only [args0, Nat.reduceAdd]
    repeat' (first | refine uN ?_ | refine uC (kb) ?_ | refine uC (kse) ?_ | (refine uB ?_; intro b) | (refine uP ?_ ?_ <;> (intro h; ((try simp only [zs, ne_eq, and_true, true_and, eq_self, reduceCtorEq] at h); try exact zx))) | fail)
    all_goals exact sp1 (LS.refl _) ⟨rfl, rfl⟩
  | none =>
    rw [hse] at kse
    simp only [cdN'] at kse
    obtain ⟨hc, sn, rfl, hsn⟩ := set_ok hse
    obtain ⟨c1, c2, c3⟩ := check_none hc
    have ken := rEnough_calls a cap w sn L hR c2 c3.1 hset
    by_cases hql : quor w sn = true ∧ l.length ≤ 200
    · obtain ⟨hq, hl1⟩ := hql
      rw [hq] at ken
      have ko := fun L hR => ownInts_calls a cap w L hR (by omega)
      have kn0 := fun v c L hG hv => wnew_calls T E v w c L hG hv (by omega)
      simp only [hc] at kn0
      have hM := new_ok hc
      have hnl : (newW w).l.length = 0 := by unfold newW; rfl
      have hnw : (newW w).w = w := by unfold newW; rfl
      have hn0 : actsW (newW w) (l.take 0) = newW w := by unfold actsW; rfl
      have kn := fun v c L hG hv => HC.shutN (V := fun u G => u = .tuple ⟨[pt G.wp 0, .nilIface]⟩) (kn0 v c L hG hv)
      have hok := fun i => acts_ok hM (l.take i) (fun x hx => hd x (List.mem_of_mem_take hx))
      have hsucc := fun i h => actsW_succ (newW w) l i h
      refine Za (fun _ _ => Tryz.call6 _ _) Tryz.func6 rfl Tryz.ntmps6 (Nat.le_of_ble_eq_true rfl) ?_; simp only [args0, Nat.reduceAdd]
      repeat' (first | refine uN ?_ | refine uC (kb) ?_ | refine uC (kse) ?_ | refine uC (ken) ?_ | (refine uB ?_; intro b) | (refine uP ?_ ?_ <;> (intro h; ((try simp only [zs, ne_eq, and_true, true_and, eq_self, reduceCtorEq] at h); try exact zx))) | fail)
      refine gc (ko _ hR) ?_
      rintro v L' ⟨o1, ho1, rfl⟩
      repeat' (first | refine uN ?_ | refine uC (kb) ?_ | refine uC (kse) ?_ | refine uC (ken) ?_ | (refine uB ?_; intro b) | (refine uP ?_ ?_ <;> (intro h; ((try simp only [zs, ne_eq, and_true, true_and, eq_self, reduceCtorEq] at h); try exact zx))) | fail)
      refine gc (kn _ _ _ (hE.er [2, 3, 4, 6]) ho1) ?_
      rintro v L' ⟨Ga, rfl, hWa, rfl⟩
      repeat' (first | refine uN ?_ | refine uC (kb) ?_ | refine uC (kse) ?_ | refine uC (ken) ?_ | (refine uB ?_; intro b) | (refine uP ?_ ?_ <;> (intro h; ((try simp only [zs, ne_eq, and_true, true_and, eq_self, reduceCtorEq] at h); try exact zx))) | fail)
      refine hw_sp (L' := wdC Ga (actsW (newW w) (l.take 0)) :: o1 :: L) ?_ (by rw [hn0]; exact LS.refl _)
      refine Zf (σ := Nat × WdG) (fun r => [(0, .slice a w.length cap), (1, .slice al l.length capl), (2, iv sn), (8, pt Ga.wp 0), (10, iv r.1)]) (fun r => wdC r.2 (actsW (newW w) (l.take r.1)) :: o1 :: L)
        (fun r => r.1 ≤ l.length ∧ WdOk r.2 (actsW (newW w) (l.take r.1)) ∧ r.2.wp = Ga.wp) (fun r => l.length - r.1) (0, Ga) uS (List.Sublist.refl _) ⟨by simp, by rw [hn0]; exact hWa, rfl⟩ ?_
      rintro ⟨i, G1⟩ ⟨hi, hW1, e1⟩
      simp only at hi hW1 e1 ⊢
      have hoki := hok i
      by_cases hit : i < l.length
      · have hs := hsucc i hit
        obtain ⟨bl, il, ll, El, frl, rfl, hbl, hgl⟩ := hRl.at (j := (i : Int)) (by omega) (by omega)
        have ex : l[(i : Int).toNat]'(by omega) = l[i] := rfl
        rw [ex] at hgl
        have hti : (l.take i).length = i := by rw [List.length_take]; omega
        have hlen1 := hoki.len
        rw [hti] at hlen1
        have ka := fun L hG => HC.shut (V := fun u => u = .tuple ⟨[]⟩) (act_calls T E G1 (actsW (newW w) (l.take i)) l[i] L hG hW1 hoki.wi (by omega))
        generalize l[i] = x at *
        obtain ⟨kd, xs, xd, xn⟩ := x
        rw [← e1]
        repeat' (first | refine uN ?_ | refine uC (kb) ?_ | (refine uB ?_; intro b) | (refine uP ?_ ?_ <;> (intro h; ((try simp only [zs, ne_eq, and_true, true_and, eq_self, reduceCtorEq] at h); try exact zx))) | fail)
        refine gc (ka _ ((hE.er [2, 3, 4, 5, 6, 8]).cons _)) ?_
        rintro v L' ⟨rfl, G2, e2, hW2, rfl⟩
        rw [← e2]
        repeat' (first | refine uN ?_ | refine uC (kb) ?_ | (refine uB ?_; intro b) | (refine uP ?_ ?_ <;> (intro h; ((try simp only [zs, ne_eq, and_true, true_and, eq_self, reduceCtorEq] at h); try exact zx))) | fail)
        exact Zc (i + 1, G2) (by simp only [e2, e1]; exact uS) (by simp only [hs]; exact LS.refl _) ⟨by simp only; omega, by simp only [hs]; exact hW2, by simp only [e2, e1]⟩ (by simp only; omega)
      · obtain rfl : i = l.length := by omega
        rw [List.take_length] at hoki hW1 ⊢
        have hlen1 := hoki.len
        have hsf := acts_safe l hM (safe_new hc) (ev_new w) hd
        have hbd := bnd_acts l hM (bnd_new hc) hd
        have hdn := dn_acts l hM (dn_new w) hd
        have hIf := hoki.wi
        have hw1 : (actsW (newW w) l).w = w := by rw [hoki.same.w, hnw]
        clear hok hsucc hoki
        generalize actsW (newW w) l = M1 at *
        rw [← e1]
        repeat' (first | refine uN ?_ | refine uC (kb) ?_ | (refine uB ?_; intro b) | (refine uP ?_ ?_ <;> (intro h; ((try simp only [zs, ne_eq, and_true, true_and, eq_self, reduceCtorEq] at h); try exact zx))) | fail)
        have hpv := prep_view (set := (sn : Int)) hIf hdn
        have hnn2 : M1.n.length = w.length := by rw [hIf.wn, hw1]
        have hpz : prepW sn M1.n.length 0 M1 = M1 := by unfold prepW; rfl
        have hps := fun k => prepW_succ sn M1.n.length k M1
        rw [hnn2] at hpv hpz
        simp only [hnn2] at hps
        refine hw_sp (L' := wdC G1 (prepW sn w.length 0 M1) :: o1 :: L) ?_ (by rw [hpz]; exact LS.refl _)
        refine Zf (σ := Nat × WdG) (fun r => [(0, .slice a w.length cap), (2, iv sn), (8, pt G1.wp 0), (11, iv r.1)]) (fun r => wdC r.2 (prepW sn w.length r.1 M1) :: o1 :: L)
          (fun r => r.1 ≤ w.length ∧ WdOk r.2 (prepW sn w.length r.1 M1) ∧ r.2.wp = G1.wp) (fun r => w.length - r.1) (0, G1) uS (List.Sublist.refl _) ⟨by simp, by rw [hpz]; exact hW1, rfl⟩ ?_
        rintro ⟨k, G4⟩ ⟨hk, hW4, e4⟩
        simp only at hk hW4 e4 ⊢
        have hpk := hpv k hk
        by_cases hkl : k < w.length
        · have hsk := hps k
          have hM4n := hpk.pi.same.n
          have hlv := fun j hj => links_view (set := (sn : Int)) hpk.pi.wi (a := k) (by omega) j hj
          have hndk := hpk.nd k (Nat.le_refl _)
          have hdnk := hdn k
          clear hps hpv
          generalize prepW sn w.length k M1 = M4 at *
          have hlz : linksA sn k 0 M4 = M4 := by unfold linksA; rfl
          have hls := fun j => linksA_succ sn k j M4
          rw [← e4]
          repeat' (first | refine uN ?_ | refine uC (kb) ?_ | (refine uB ?_; intro b) | (refine uP ?_ ?_ <;> (intro h; ((try simp only [zs, ne_eq, and_true, true_and, eq_self, reduceCtorEq] at h); try exact zx))) | fail)
          refine hw_sp (L' := wdC G4 (linksA sn k 0 M4) :: o1 :: L) ?_ (by rw [hlz]; exact LS.refl _)
          refine Zf (σ := Nat × WdG) (fun r => [(0, .slice a w.length cap), (2, iv sn), (8, pt G4.wp 0), (11, iv k), (12, iv r.1)]) (fun r => wdC r.2 (linksA sn k r.1 M4) :: o1 :: L)
            (fun r => r.1 ≤ w.length ∧ WdOk r.2 (linksA sn k r.1 M4) ∧ r.2.wp = G4.wp) (fun r => w.length - r.1) (0, G4) uS (List.Sublist.refl _) ⟨by simp, by rw [hlz]; exact hW4, rfl⟩ ?_
          rintro ⟨j, G5⟩ ⟨hj, hW5, e5⟩
          simp only at hj hW5 e5 ⊢
          obtain ⟨v1, v2, v3, v4⟩ := hlv j (by omega)
          rw [← e5]
          by_cases hjl : j < w.length
          · have hsj := hls j
            unfold linkA at hsj
            have hle := link_none (M := linksA sn k j M4) (a := k) (b := j) (by rw [v2]; omega) (by rw [v2]; omega) (inS sn k && inS sn j)
            have khk := rHas2_calls sn k (by omega) hset
            have khj := rHas2_calls sn j (by omega) hset
            generalize linksA sn k j M4 = M5 at *
            have klk := fun L hG => HC.shut (V := fun u => u = eV T E (linkW M5 k j (inS sn k && inS sn j)).2) (wlink_calls T E G5 M5 k j (inS sn k && inS sn j) L hG hW5)
            rw [hle] at klk
            cases hik : inS (sn : Int) k with
            | true =>
              rw [hik] at khk
              simp only [hik, Bool.true_and] at klk hsj
              repeat' (first | refine uN ?_ | refine uC (khk _) ?_ | refine uC (khj _) ?_ | (refine uB ?_; intro b) | (refine uP ?_ ?_ <;> (intro h; ((try simp only [zs, ne_eq, and_true, true_and, eq_self, reduceCtorEq] at h); try exact zx))) | fail)
              refine gc (klk _ ((hE.er [2]).cons _)) ?_
              rintro v L' ⟨rfl, G6, e6, hW6, rfl⟩
              rw [← e6]
              repeat' (first | refine uN ?_ | refine uC (khk _) ?_ | refine uC (khj _) ?_ | (refine uB ?_; intro b) | (refine uP ?_ ?_ <;> (intro h; ((try simp only [zs, ne_eq, and_true, true_and, eq_self, reduceCtorEq] at h); try exact zx))) | fail)
              exact Zc (j + 1, G6) (by simp only [e6, e5]; exact uS) (by simp only [hsj]; exact LS.refl _) ⟨by simp only; omega, by simp only [hsj]; exact hW6, by simp only [e6, e5]⟩ (by simp only; omega)
            | false =>
              rw [hik] at khk
              simp only [hik, Bool.false_and] at klk hsj
              repeat' (first | refine uN ?_ | refine uC (khk _) ?_ | refine uC (khj _) ?_ | (refine uB ?_; intro b) | (refine uP ?_ ?_ <;> (intro h; ((try simp only [zs, ne_eq, and_true, true_and, eq_self, reduceCtorEq] at h); try exact zx))) | fail)
              refine gc (klk _ ((hE.er [2]).cons _)) ?_
              rintro v L' ⟨rfl, G6, e6, hW6, rfl⟩
              rw [← e6]
              repeat' (first | refine uN ?_ | refine uC (khk _) ?_ | refine uC (khj _) ?_ | (refine uB ?_; intro b) | (refine uP ?_ ?_ <;> (intro h; ((try simp only [zs, ne_eq, and_true, true_and, eq_self, reduceCtorEq] at h); try exact zx))) | fail)
              exact Zc (j + 1, G6) (by simp only [e6, e5]; exact uS) (by simp only [hsj]; exact LS.refl _) ⟨by simp only; omega, by simp only [hsj]; exact hW6, by simp only [e6, e5]⟩ (by simp only; omega)
          · obtain rfl : j = w.length := by omega
            have hpA : prepA sn w.length M4 k = bootA sn (linksA sn k w.length M4) k := by unfold prepA; rfl
            rw [hpA] at hsk
            unfold bootA at hsk
            have hbv := boot_view v1.wi (a := k) (by rw [v2]; omega) (fun e dd => by
              have hnd5 : ndAt (linksA sn k w.length M4) (k : Int) = ndAt M1 (k : Int) := by
                rw [← hndk]; unfold ndAt; rw [v2]
              unfold ldW
              rw [hnd5] at e ⊢
              exact hdnk e dd)
            have khk := rHas2_calls sn k (by omega) hset
            have hwi5 := v1.wi
            clear hlv v1 v3 v4 hls
            generalize linksA sn k w.length M4 = M5 at *
            cases hik : inS (sn : Int) k with
            | true =>
              rw [hik] at khk
              simp only [hik, if_true] at hsk
              have kdn := fun L hG => HC.shut (V := fun u => u = eV T E (downW M5 k).2) (wdown_calls T E G5 M5 k L hG hW5 hwi5)
              have hwi6 := (down_ok hwi5 (k : Int)).wi
              obtain ⟨bv1, -⟩ := hbv
              repeat' (first | refine uN ?_ | refine uC (khk _) ?_ | (refine uB ?_; intro b) | (refine uP ?_ ?_ <;> (intro h; ((try simp only [zs, ne_eq, and_true, true_and, eq_self, reduceCtorEq] at h); try exact zx))) | fail)
              refine gc (kdn _ ((hE.er [2, 6]).cons _)) ?_
              rintro v L' ⟨rfl, G6, e6, hW6, rfl⟩
              rw [← e6]
              have kup := fun L hG => HC.shut (V := fun u => u = eV T E (upW (downW M5 k).1 k).2) (wupS_calls T E G6 (downW M5 k).1 k L hG hW6 hwi6)
              rw [bv1] at kup
              repeat' (first | refine uN ?_ | refine uC (khk _) ?_ | (refine uB ?_; intro b) | (refine uP ?_ ?_ <;> (intro h; ((try simp only [zs, ne_eq, and_true, true_and, eq_self, reduceCtorEq] at h); try exact zx))) | fail)
              refine gc (kup _ ((hE.er [2, 3, 6, 8]).cons _)) ?_
              rintro v L' ⟨rfl, G7, e7, hW7, rfl⟩
              rw [← e7]
              repeat' (first | refine uN ?_ | refine uC (khk _) ?_ | (refine uB ?_; intro b) | (refine uP ?_ ?_ <;> (intro h; ((try simp only [zs, ne_eq, and_true, true_and, eq_self, reduceCtorEq] at h); try exact zx))) | fail)
              exact Zc (k + 1, G7) (by simp only [e7, e6, e5, e4]; exact uS) (by simp only [hsk]; exact LS.refl _) ⟨by simp only; omega, by simp only [hsk]; exact hW7, by simp only [e7, e6, e5, e4]⟩ (by simp only; omega)
            | false =>
              rw [hik] at khk
              simp only [hik, Bool.false_eq_true, if_false] at hsk
              repeat' (first | refine uN ?_ | refine uC (khk _) ?_ | (refine uB ?_; intro b) | (refine uP ?_ ?_ <;> (intro h; ((try simp only [zs, ne_eq, and_true, true_and, eq_self, reduceCtorEq] at h); try exact zx))) | fail)
              exact Zc (k + 1, G5) (by simp only [e5, e4]; exact uS) (by simp only [hsk]; exact LS.refl _) ⟨by simp only; omega, by simp only [hsk]; exact hW5, by simp only [e5, e4]⟩ (by simp only; omega)
        · obtain rfl : k = w.length := by omega
          have hbd84 : Bnd M1 8400 1200 := hbd.mono (by omega) (by omega)
          have hl84 : M1.l.length ≤ 16800 := by omega
          have hlaw : ∀ (dd aa : Nat), dd < 6 → aa < w.length → inS (sn : Int) aa = true → stW (prepW sn w.length w.length M1) aa dd ≠ zeroS → ∀ t, t < w.length → inS (sn : Int) t = true → fin (stW (roundsW sn 2 (prepW sn w.length w.length M1)).1 t dd).ph := fun dd aa h1 h2 h3 h4 => by
            have := ends_law hIf hsf.1 hsf.2 hdn hbd84 hl84 (sn := sn) (d := dd) h1 (by rw [hw1]; exact hsn) (by rw [hw1]; exact hq) (a := aa) (by rw [hw1]; exact h2) h3 (by rw [hnn2]; exact h4)
            rw [hnn2, hw1] at this
            exact this
          have hMp := hpk.pi.wi
          have hMpw : (prepW sn w.length w.length M1).w.length = w.length := by rw [hpk.pi.same.w, hw1]
          have hMpl : (prepW sn w.length w.length M1).l.length ≤ 16800 := by rw [hpk.pi.l]; exact hl84
          have hsafe := rounds_safe hMp (hpk.pi.safe hsf.1) (hpk.pi.ev hsf.2) (sn : Int) 2
          clear hps hpv hpk
          generalize prepW sn w.length w.length M1 = Mp at *
          rw [← e4]
          repeat' (first | refine uN ?_ | refine uC (kb) ?_ | (refine uB ?_; intro b) | (refine uP ?_ ?_ <;> (intro h; ((try simp only [zs, ne_eq, and_true, true_and, eq_self, reduceCtorEq] at h); try exact zx))) | fail)
          refine hw_sp (L' := [] :: wdC G4 Mp :: o1 :: L) ?_ (LS.refl _)
          refine Zf (σ := Nat × Value × List Blk) (fun r => [(0, .slice a w.length cap), (2, iv sn), (8, pt G4.wp 0), (13, r.2.1), (14, iv r.1)]) (fun r => r.2.2 :: wdC G4 Mp :: o1 :: L)
            (fun r => r.1 ≤ 6 ∧ Vec 3 1 ic r.2.1 (knL sn Mp w.length r.1) r.2.2) (fun r => 6 - r.1) (0, nilS, []) uS (List.Sublist.refl _) ⟨by simp, by unfold knL; exact vec_nil⟩ ?_
          rintro ⟨d, kv, kc⟩ ⟨hd6, hkv⟩
          simp only at hd6 hkv ⊢
          obtain ⟨ak, capk, rfl, -, hRk⟩ := hkv.rd ic_len
          have hkn := knL_len sn Mp w.length d
          by_cases hdl : d < 6
          · have hsl : (stsW Mp d).length = w.length := by rw [sts_len, hMpw]
            have kst := fun L hG => HC.shutR (V := fun v c => ∃ sv, Vec 43 3 sc sv (stsW Mp d) c ∧ v = .tuple ⟨[sv, .bool true]⟩) (states3_calls T E G4 Mp d L hG hW4 hMp hdl)
            simp only [hMpw] at kst
            repeat' (first | refine uN ?_ | refine uC (kb) ?_ | (refine uB ?_; intro b) | (refine uP ?_ ?_ <;> (intro h; ((try simp only [zs, ne_eq, and_true, true_and, eq_self, reduceCtorEq] at h); try exact zx))) | fail)
            refine fo 1 ?_
            refine gc (kst _ (((hE.er [2, 6]).cons _).cons _)) ?_
            rintro v L' ⟨cS, ⟨sv, hsv, rfl⟩, rfl⟩
            obtain ⟨as5, cap5, rfl, -, hR5⟩ := hsv.rd sc_len
            simp only [hsl]
            repeat' (first | refine uN ?_ | refine uC (kb) ?_ | (refine uB ?_; intro b) | (refine uP ?_ ?_ <;> (intro h; ((try simp only [zs, ne_eq, and_true, true_and, eq_self, reduceCtorEq] at h); try exact zx))) | fail)
            have hhit := knL_hit (set := sn) (M := Mp) (n := w.length) (d := d)
            have hmiss := knL_miss (set := sn) (M := Mp) (n := w.length) (d := d)
            have hz0 : knB sn Mp d 0 = false := by unfold knB; rfl
            generalize hkl : knL sn Mp w.length d = kl at *
            refine hw_sp (L' := kc :: cS :: wdC G4 Mp :: o1 :: L) ?_ uL
            refine Zf (σ := Nat) (fun q => [(0, .slice a w.length cap), (2, iv sn), (8, pt G4.wp 0), (13, .slice ak kl.length capk), (14, iv d), (15, .slice as5 w.length cap5), (17, iv q)]) (fun q => kc :: cS :: wdC G4 Mp :: o1 :: L)
              (fun q => q ≤ w.length ∧ knB sn Mp d q = false) (fun q => w.length - q) 0 uS (List.Sublist.refl _) ⟨by simp, hz0⟩ ?_
            rintro q ⟨hq6, hqz⟩
            by_cases hql2 : q < w.length
            · have hhas := rHas2_calls sn q (by omega) hset
              have hks := knB_succ sn Mp d q
              rw [hqz, Bool.false_or] at hks
              have hmore := fun h => knB_more (set := sn) (M := Mp) (d := d) (i := q + 1) (n := w.length) h (by omega)
              obtain ⟨b7, i7, l7, E7, fr7, rfl, hb7, hg7⟩ := (hR5 (wdC G4 Mp :: o1 :: L)).at (j := (q : Int)) (by omega) (by omega)
              have hsg := sts_get (M := Mp) (d := d) (s := q) (by omega)
              have ex7 : (stsW Mp d)[(q : Int).toNat]'(by rw [hsl]; omega) = stW Mp q d := by
                have h9 : q < (stsW Mp d).length := by omega
                rw [List.getElem?_eq_getElem h9] at hsg
                exact Option.some.inj hsg
              rw [ex7] at hg7
              clear hlaw
              generalize stW Mp q d = st at *
              obtain ⟨ph, pr, att⟩ := st
              generalize inS (sn : Int) q = ib at *
              cases ib with
              | true =>
                repeat' (first | refine uN ?_ | refine uC (hhas _) ?_ | (refine uB ?_; intro b) | (refine uP ?_ ?_ <;> (intro h; ((try simp only [zs, ne_eq, and_true, true_and, eq_self, reduceCtorEq] at h); try exact zx))) | fail)
                · have hzz := h
                  have hne : decide ((⟨ph, pr, att⟩ : St) ≠ zeroS) = true := decide_eq_true (fun e => by cases e; simp at hzz)
                  rw [hne] at hks
                  have hh := hhit (hmore (by rw [hks]; rfl))
                  refine fo 1 ?_
                  refine wp1 S (d : Int) hkv ic_len ic_one ?_
                  intro v' c' hv'
                  repeat' (first | refine uN ?_ | refine uC (hhas _) ?_ | (refine uB ?_; intro b) | (refine uP ?_ ?_ <;> (intro h; ((try simp only [zs, ne_eq, and_true, true_and, eq_self, reduceCtorEq] at h); try exact zx))) | fail)
                  exact Zc (d + 1, v', c') uS uL ⟨by simp only; omega, by simp only [hh]; exact hv'⟩ (by simp only; omega)
                · have hzz := h
                  obtain ⟨rfl, rfl, rfl⟩ := hzz
                  have hz1 : decide ((⟨0, 0, 0⟩ : St) ≠ zeroS) = false := by unfold zeroS; simp
                  exact Zc (q + 1) uS uL ⟨by omega, by rw [hks, hz1]; rfl⟩ (by omega)
              | false =>
                repeat' (first | refine uN ?_ | refine uC (hhas _) ?_ | (refine uB ?_; intro b) | (refine uP ?_ ?_ <;> (intro h; ((try simp only [zs, ne_eq, and_true, true_and, eq_self, reduceCtorEq] at h); try exact zx))) | fail)
                exact Zc (q + 1) uS uL ⟨by omega, by rw [hks]; rfl⟩ (by omega)
            · obtain rfl : q = w.length := by omega
              have hm2 := hmiss hqz
              repeat' (first | refine uN ?_ | refine uC (kb) ?_ | (refine uB ?_; intro b) | (refine uP ?_ ?_ <;> (intro h; ((try simp only [zs, ne_eq, and_true, true_and, eq_self, reduceCtorEq] at h); try exact zx))) | fail)
              exact Zc (d + 1, _, kc) uS uL ⟨by simp only; omega, by simp only [hm2]; exact hkv⟩ (by simp only; omega)
          · obtain rfl : d = 6 := by omega
            have hget := fun i h => knL_get (set := sn) (M := Mp) (n := w.length) (d := 6) (i := i) h
            generalize hkl : knL sn Mp w.length 6 = kl at *
            have hcov : ∀ i (h : i < kl.length), ∃ e : Nat, kl[i] = (e : Int) ∧ e < 6 ∧ ∀ t, t < w.length → inS (sn : Int) t = true → finP (stW (roundsW sn 2 Mp).1 t e).ph = true := fun i h => by
              obtain ⟨e, he, he6, hkb⟩ := hget i h
              refine ⟨e, he, he6, fun t ht hti => ?_⟩
              unfold knB at hkb
              rw [List.any_eq_true] at hkb
              obtain ⟨aa, ha1, ha2⟩ := hkb
              rw [Bool.and_eq_true, decide_eq_true_eq] at ha2
              exact finP_fin.2 (hlaw e aa he6 (List.mem_range.1 ha1) ha2.1 ha2.2 t ht hti)
            have kro := rounds_calls T E G4 Mp sn 2
            simp only [if_neg (show ¬ rndE (sn : Int) 2 by unfold rndE; omega)] at kro
            rw [show Int.toNat 2 = 2 from rfl] at kro
            obtain ⟨hr1, hr2, -, hr4⟩ := rounds_ok hMp (sn : Int) 2
            have hr4 := hr4 (by omega)
            have hMrw : (roundsW (sn : Int) 2 Mp).1.w.length = w.length := by rw [hr2.w, hMpw]
            clear hlaw hget
            generalize roundsW (sn : Int) 2 Mp = R at *
            obtain ⟨Mr, many⟩ := R
            simp only at kro hr1 hr2 hMrw hcov hr4 hsafe
            have hzr : Mr.l.length = 0 := by rw [hr4]; rfl
            repeat' (first | refine uN ?_ | refine uC (kb) ?_ | (refine uB ?_; intro b) | (refine uP ?_ ?_ <;> (intro h; ((try simp only [zs, ne_eq, and_true, true_and, eq_self, reduceCtorEq] at h); try exact zx))) | fail)
            refine fo 1 ?_
            refine gc (kro _ (((hE.cons _).cons _)) hW4 hMp (by omega) hset (by omega)) ?_
            rintro v L' ⟨rfl, G5, e5, hW5, rfl⟩
            rw [← e5]
            have kfl := fun G L hW => HC.shutR (V := fun v c => FrVec v Mr.l c) (wflying_calls G Mr L hW (by rw [hzr]; omega))
            repeat' (first | refine uN ?_ | refine uC (kb) ?_ | (refine uB ?_; intro b) | (refine uP ?_ ?_ <;> (intro h; ((try simp only [zs, ne_eq, and_true, true_and, eq_self, reduceCtorEq] at h); try exact zx))) | fail)
            refine gc (kfl G5 _ hW5) ?_
            rintro v L' ⟨c10, hv10, rfl⟩
            obtain ⟨a10, cap10, rfl, -, hR10⟩ := hv10.rd fc_len
            rw [hzr]
            repeat' (first | refine uN ?_ | refine uC (kb) ?_ | (refine uB ?_; intro b) | (refine uP ?_ ?_ <;> (intro h; ((try simp only [zs, ne_eq, and_true, true_and, eq_self, reduceCtorEq] at h); try exact zx))) | fail)
            refine hw_sp (L' := kc :: c10 :: wdC G5 Mr :: o1 :: L) ?_ uL
            refine Zf (σ := Nat) (fun i => [(0, .slice a w.length cap), (2, iv sn), (8, pt G5.wp 0), (13, .slice ak kl.length capk), (18, iv i)]) (fun i => kc :: c10 :: wdC G5 Mr :: o1 :: L)
              (fun i => i ≤ kl.length) (fun i => kl.length - i) 0 uS (List.Sublist.refl _) (by simp) ?_
            rintro i hi6
            by_cases hil : i < kl.length
            · obtain ⟨d, hkd, hdl, hall⟩ := hcov i hil
              obtain ⟨bk, ik, lk, Ek, frk, rfl, hbk, hgk⟩ := (hRk (c10 :: wdC G5 Mr :: o1 :: L)).at1 (j := (i : Int)) (by omega) (by omega)
              have egk : kl[(i : Int).toNat]'(by omega) = kl[i] := rfl
              rw [egk, hkd] at hgk
              have hsl : (stsW Mr d).length = w.length := by rw [sts_len, hMrw]
              have hag := agF_sts hr1 hsafe.1 hdl
              have kst := fun L hG => HC.shutR (V := fun v c => ∃ sv, Vec 43 3 sc sv (stsW Mr d) c ∧ v = .tuple ⟨[sv, .bool true]⟩) (states3_calls T E G5 Mr d L hG hW5 hr1 hdl)
              simp only [hMrw] at kst
              repeat' (first | refine uN ?_ | refine uC (kb) ?_ | (refine uB ?_; intro b) | (refine uP ?_ ?_ <;> (intro h; ((try simp only [zs, ne_eq, and_true, true_and, eq_self, reduceCtorEq] at h); try exact zx))) | fail)
              refine fo 2 ?_
              refine gc (kst _ ((((hE.er [2, 6]).cons _).cons _).cons _)) ?_
              rintro v L' ⟨cS, ⟨sv, hsv, rfl⟩, rfl⟩
              obtain ⟨as5, cap5, rfl, -, hR5⟩ := hsv.rd sc_len
              have kag := fun H hG hR => agree_calls T E as5 cap5 (stsW Mr d) H hG hR (by omega)
              rw [hag] at kag
              simp only [hsl] at kag ⊢
              repeat' (first | refine uN ?_ | refine uC (kb) ?_ | (refine uB ?_; intro b) | (refine uP ?_ ?_ <;> (intro h; ((try simp only [zs, ne_eq, and_true, true_and, eq_self, reduceCtorEq] at h); try exact zx))) | fail)
              refine gc (kag _ (((((((hE.er [9]).cons _).cons _).cons _).cons _).cons _)) (hR5 _)) ?_
              rintro v L' ⟨cf, hfv, rfl⟩
              obtain ⟨rfl, rfl⟩ := hfv.zero
              repeat' (first | refine uN ?_ | refine uC (kb) ?_ | (refine uB ?_; intro b) | (refine uP ?_ ?_ <;> (intro h; ((try simp only [zs, ne_eq, and_true, true_and, eq_self, reduceCtorEq] at h); try exact zx))) | fail)
              refine hw_sp (L' := cS :: wdC G5 Mr :: kc :: c10 :: o1 :: L) ?_ uL
              refine Zf (σ := Nat) (fun q => [(0, .slice a w.length cap), (2, iv sn), (8, pt G5.wp 0), (13, .slice (some ⟨bk, ik, none⟩) kl.length capk), (18, iv i), (19, .slice as5 w.length cap5), (21, iv q)]) (fun q => cS :: wdC G5 Mr :: kc :: c10 :: o1 :: L)
                (fun q => q ≤ w.length) (fun q => w.length - q) 0 uS (List.Sublist.refl _) (by simp) ?_
              rintro q hq6
              by_cases hql2 : q < w.length
              · have hhas := rHas2_calls sn q (by omega) hset
                have hfq := hall q hql2
                obtain ⟨b7, i7, l7, E7, fr7, rfl, hb7, hg7⟩ := (hR5 (wdC G5 Mr :: kc :: c10 :: o1 :: L)).at (j := (q : Int)) (by omega) (by omega)
                have hsg := sts_get (M := Mr) (d := d) (s := q) (by omega)
                have ex7 : (stsW Mr d)[(q : Int).toNat]'(by rw [hsl]; omega) = stW Mr q d := by
                  have h9 : q < (stsW Mr d).length := by omega
                  rw [List.getElem?_eq_getElem h9] at hsg
                  exact Option.some.inj hsg
                rw [ex7] at hg7
                have kfi := rfinal_calls (stW Mr q d).ph
                clear hcov hall
                generalize stW Mr q d = st at *
                obtain ⟨ph, pr, att⟩ := st
                simp only at kfi hfq
                generalize inS (sn : Int) q = ib at *
                cases ib with
                | true =>
                  rw [hfq rfl] at kfi
                  repeat' (first | refine uN ?_ | refine uC (hhas _) ?_ | refine uC (kfi _) ?_ | (refine uB ?_; intro b) | (refine uP ?_ ?_ <;> (intro h; ((try simp only [zs, ne_eq, and_true, true_and, eq_self, reduceCtorEq] at h); try exact zx))) | fail)
                  exact Zc (q + 1) uS uL (by omega) (by omega)
                | false =>
                  repeat' (first | refine uN ?_ | refine uC (hhas _) ?_ | refine uC (kfi _) ?_ | (refine uB ?_; intro b) | (refine uP ?_ ?_ <;> (intro h; ((try simp only [zs, ne_eq, and_true, true_and, eq_self, reduceCtorEq] at h); try exact zx))) | fail)
                  exact Zc (q + 1) uS uL (by omega) (by omega)
              · obtain rfl : q = w.length := by omega
                repeat' (first | refine uN ?_ | refine uC (kb) ?_ | (refine uB ?_; intro b) | (refine uP ?_ ?_ <;> (intro h; ((try simp only [zs, ne_eq, and_true, true_and, eq_self, reduceCtorEq] at h); try exact zx))) | fail)
                exact Zc (i + 1) uS uL (by omega) (by omega)
            · obtain rfl : i = kl.length := by omega
              repeat' (first | refine uN ?_ | refine uC (kb) ?_ | (refine uB ?_; intro b) | (refine uP ?_ ?_ <;> (intro h; ((try simp only [zs, ne_eq, and_true, true_and, eq_self, reduceCtorEq] at h); try exact zx))) | fail)
              refine sp1 (L' := L) ?_ ⟨rfl, rfl⟩
              repeat (first | exact LS.refl _ | refine LS.c ?_)
    · refine Za (fun _ _ => Tryz.call6 _ _) Tryz.func6 rfl Tryz.ntmps6 (Nat.le_of_ble_eq_true rfl) ?_; simp only [args0, Nat.reduceAdd]
      repeat' (first | refine uN ?_ | refine uC (kb) ?_ | refine uC (kse) ?_ | refine uC (ken) ?_ | (refine uB ?_; intro b) | (refine uP ?_ ?_ <;> (intro h; ((try simp only [zs, ne_eq, and_true, true_and, eq_self, reduceCtorEq] at h); try exact zx))) | fail)
      all_goals first | exact sp1 (LS.refl _) ⟨rfl, rfl⟩ | (exfalso; exact hql ⟨by assumption, by omega⟩)
end Go.HL
end
