/- Texts laid into one, without what the claim does not use. Conditions: none. -/
import Derived.Test.YtkookaogdkdegacGreatDoorMCoE
/-! SfI -/
section
namespace Go.HL
open Go Go.Proofs
set_option linter.unusedVariables false
set_option linter.unusedSimpArgs false
/-- what a statement's input names -/
structure StpS where
  kd : List UInt8
  s : Int
  d : Int
  n : Int
def stpL (x : StpS) : List Value := [bs x.kd, iv x.s, iv x.d, iv x.n]
def actW (M : Wm) (x : StpS) : Wm × Option Nat :=
  if x.kd = [98, 101, 103, 105, 110] then beginW M x.s x.d else
  if x.kd = [114, 101, 102, 117, 115, 101] then refuseW M x.s x.d else
  if x.kd = [116, 105, 99, 107] then tickW M x.s else
  if x.kd = [100, 111, 119, 110] then downW M x.s else
  if x.kd = [117, 112] then upW M x.s else
  if x.kd = [100, 114, 111, 112] then dropW M x.n else
  if x.kd = [116, 119, 105, 99, 101] then twiceW M x.n else
  if x.kd = [108, 105, 110, 107] then linkW M x.s x.d true else
  if x.kd = [98, 114, 101, 97, 107] then linkW M x.s x.d false else
  if x.kd = [99, 117, 116] then cutW M x.s x.n else deliverW M x.n
theorem act_ok {M : Wm} (h : WI M) (x : StpS) (hn : x.n ≤ 9223372036854775807) : StepOk M (actW M x).1 84 := by
  unfold actW
  split
  · exact (begin_ok h _ _).mono (by omega)
  split
  · exact (refuse_ok h _ _).mono (by omega)
  split
  · exact (tick_ok h _).mono (by omega)
  split
  · exact (down_ok h _).mono (by omega)
  split
  · exact (up_ok h _).mono (by omega)
  split
  · exact (drop_ok h _).mono (by omega)
  split
  · exact (twice_ok h _).mono (by omega)
  split
  · exact (link_ok h _ _ _).mono (by omega)
  split
  · exact (link_ok h _ _ _).mono (by omega)
  split
  · exact (cut_ok h _ _ hn).mono (by omega)
  · exact (deliver_ok h _).mono (by omega)
theorem safe_act {M : Wm} (hI : WI M) (h : SafeW M) (x : StpS) (hn : x.n ≤ 9223372036854775807) : SafeW (actW M x).1 := by
  unfold actW
  split
  · exact safe_begin hI h _ _
  split
  · exact safe_refuse hI h _ _
  split
  · exact safe_tick hI h _
  split
  · exact safe_down hI h _
  split
  · exact safe_up hI h _
  split
  · exact safe_drop hI h _
  split
  · exact safe_twice hI h _
  split
  · exact safe_link hI h _ _ _
  split
  · exact safe_link hI h _ _ _
  split
  · exact safe_cut hI h _ _ hn
  · exact safe_deliver hI h _
theorem ev_act {M : Wm} (hI : WI M) (h : EvW M) (x : StpS) : EvW (actW M x).1 := by
  have hl : ∀ a b c, EvW (linkW M a b c).1 := fun a b c => by
    unfold linkW
    split
    · exact h
    · exact ⟨h.pw, h.rg, h.dn⟩
  unfold actW
  split
  · unfold beginW
    split
    · exact h
    rename_i hb
    split
    · exact h
    split
    · exact h
    exact h.lead (s := x.s) (by omega) (by omega) _ _
  split
  · unfold refuseW
    split
    · exact h
    split
    · exact h
    rename_i hu
    obtain ⟨h0, h1, -⟩ := up_site hu
    exact h.set h0 h1 (by unfold refuseN; split <;> rfl)
  split
  · exact ev_tick hI h _
  split
  · unfold downW
    split
    · exact h
    rename_i hu
    obtain ⟨h0, h1, -⟩ := up_site hu
    exact h.set h0 h1 rfl
  split
  · unfold upW
    split
    · exact h
    split
    · exact h
    rename_i hu _
    obtain ⟨h0, h1⟩ := nodeE_none hu
    exact h.note hI h0 h1 rfl rfl
  split
  · unfold dropW; split
    · exact h
    · exact h.setL _
  split
  · unfold twiceW; split
    · exact h
    · exact h.setL _
  split
  · exact hl _ _ _
  split
  · exact hl _ _ _
  split
  · unfold cutW
    split
    · exact h
    split
    · exact h
    rename_i hu
    obtain ⟨h0, h1, -⟩ := up_site hu
    exact h.set h0 h1 rfl
  · exact ev_deliver hI h _
/-- states only rise -/
def RiseW (M M' : Wm) : Prop := ∀ s d : Nat, s < M.w.length → d < 6 → stLe (plSt (ndAt M (s : Int)).pl d) (plSt (ndAt M' (s : Int)).pl d)
theorem mayS_trans {a b c : Int} (h : mayS a b = true) (h' : mayS b c = true) : mayS a c = true := by
  unfold mayS at *
  have h1 := of_decide_eq_true h
  have h2 := of_decide_eq_true h'
  exact decide_eq_true (by omega)
theorem stLe_trans {a b c : St} (h : stLe a b) (h' : stLe b c) : stLe a c := ⟨Int.le_trans h.1 h'.1, Int.le_trans h.2.1 h'.2.1, mayS_trans h.2.2 h'.2.2⟩
theorem st_ok {M : Wm} (h : WI M) {s d : Nat} (hs : s < M.w.length) (hd : d < 6) : stOk (plSt (ndAt M (s : Int)).pl d) := by
  have := (h.at (s := (s : Int)) (by omega) (by rw [h.wn]; omega)).si.st d hd
  exact this
theorem RiseW.same {M M' : Wm} (h : WI M) (hst : ∀ s d : Nat, plSt (ndAt M' (s : Int)).pl d = plSt (ndAt M (s : Int)).pl d) : RiseW M M' := fun s d hs hd => by
  rw [hst]
  exact stLe_refl (st_ok h hs hd)
theorem RiseW.trans {A B C : Wm} (hw : B.w.length = A.w.length) (h : RiseW A B) (h' : RiseW B C) : RiseW A C := fun s d hs hd => stLe_trans (h s d hs hd) (h' s d (by omega) hd)
theorem rise_set {M : Wm} (h : WI M) {s : Int} (h0 : 0 ≤ s) (h1 : s < M.n.length) {m : Nd} (hb : m.pl.b = (ndAt M s).pl.b) : RiseW M (setN M s m) := .same h fun t d => by
  rw [Ze h0 h1]
  split
  · rename_i e
    rw [e]
    unfold plSt
    rw [hb]
  · rfl
theorem rise_hear {M : Wm} (h : WI M) {s : Int} (h0 : 0 ≤ s) (h1 : s < M.n.length) (f : Fr) : RiseW M (hearW M s f).1 := fun t d ht hd => by
  have hnd : ndAt (hearW M s f).1 (t : Int) = if (t : Int) = s then (hearNd s (ndAt M s) M.ev f).1 else ndAt M (t : Int) := Ze h0 h1 t
  rw [hnd]
  split
  · rename_i e
    rw [e]
    have hni := h.at h0 h1
    have hself : stLe (plSt (ndAt M s).pl d) (plSt (ndAt M s).pl d) := by
      have := st_ok h ht hd
      rw [e] at this
      exact stLe_refl this
    cases hs : (ndAt M s).site with
    | none =>
      unfold hearNd
      rw [hs]
      exact hself
    | some q =>
      obtain ⟨j, ref⟩ := q
      have hany := site_any (id := s) (ref := ref) (hni.jn hs) f
      have e1 : (hearNd s (ndAt M s) M.ev f).1.pl = (siteM s ref (ndAt M s).pl j f).1 := by
        unfold hearNd
        rw [hs]
        simp only
        split <;> rfl
      rw [e1]
      have e2 : plSt (siteM s ref (ndAt M s).pl j f).1 d = stAt (siteM s ref (ndAt M s).pl j f).2.1 d := by
        have : (siteM s ref (ndAt M s).pl j f).2.1.l = openM (siteM s ref (ndAt M s).pl j f).1.b := hany.1.ji.l
        unfold stAt plSt
        rw [this]
        rfl
      rw [e2, ← st_eq hni hs d]
      exact hany.2.2.1 d hd
  · exact stLe_refl (st_ok h ht hd)
theorem rise_try {M : Wm} (h : WI M) {s d p : Int} (h0 : 0 ≤ s) (h1 : s < M.n.length) : RiseW M (tryW M s d p).1 := by
  unfold tryW
  simp only
  split
  · exact .same h fun _ _ => rfl
  have hr := rise_hear h h0 h1 (tryF s d (tryAtt M.w.length s (tryAbove (ndAt M s) d p + 1)))
  have hS := same_hear M s (tryF s d (tryAtt M.w.length s (tryAbove (ndAt M s) d p + 1)))
  have hIR := (h.hear (f := tryF s d (tryAtt M.w.length s (tryAbove (ndAt M s) d p + 1))) h0 h1 (by show s < _; have := h.wn; omega)).1
  split
  · exact hr
  · intro t e ht he
    have := hr t e ht he
    have h1' : s < (hearW M s (tryF s d (tryAtt M.w.length s (tryAbove (ndAt M s) d p + 1)))).1.n.length := by rw [hS.n]; exact h1
    generalize (hearW M s (tryF s d (tryAtt M.w.length s (tryAbove (ndAt M s) d p + 1)))) = R at *
    have hnd := fun m => Ze (M := R.1) (m := m) h0 h1' t
    refine stLe_trans this ?_
    have hok : stOk (plSt (ndAt R.1 (t : Int)).pl e) := st_ok hIR (by rw [hS.w]; exact ht) he
    show stLe _ (plSt (ndAt (setN R.1 s _) (t : Int)).pl e)
    rw [hnd]
    split
    · rename_i e2
      rw [e2] at hok ⊢
      exact stLe_refl hok
    · exact stLe_refl hok
theorem rise_tickD {M : Wm} {q : Wm × Bool} {s : Int} {k d : Nat} (hT : TickOk M q s k) (h0 : 0 ≤ s) (h1 : s < M.n.length) : RiseW q.1 (tickD s q d).1 := by
  have hn := hT.same.n
  unfold tickD
  split
  · exact .same hT.wi fun _ _ => rfl
  split
  · exact .same hT.wi fun _ _ => rfl
  split
  · exact .same hT.wi fun _ _ => rfl
  split
  · exact .same hT.wi fun _ _ => rfl
  · exact rise_try hT.wi h0 (by omega)
theorem rise_ticks {M : Wm} (h : WI M) {s : Int} (h0 : 0 ≤ s) (h1 : s < M.n.length) (hs : (ndAt M s).site ≠ none) : ∀ k, k ≤ 6 → RiseW M ((List.range k).foldl (tickD s) (M, true)).1
  | 0, _ => .same h fun _ _ => rfl
  | k + 1, hk => by
    rw [List.range_succ, List.foldl_append]
    have hT := ticks_ok h h0 h1 hs k (by omega)
    exact (rise_ticks h h0 h1 hs k (by omega)).trans (by rw [hT.same.w]) (rise_tickD hT h0 h1)
theorem rise_tick {M : Wm} (h : WI M) (s : Int) : RiseW M (tickW M s).1 := by
  unfold tickW
  split
  · exact .same h fun _ _ => rfl
  · rename_i hu
    obtain ⟨h0, h1, hs⟩ := up_site hu
    exact rise_ticks h h0 h1 hs 6 (by omega)
theorem RiseW.left {M M1 M' : Wm} (h : RiseW M1 M') (hw : M1.w = M.w) (hst : ∀ s d : Nat, plSt (ndAt M1 (s : Int)).pl d = plSt (ndAt M (s : Int)).pl d) : RiseW M M' := fun s d hs hd => by
  rw [← hst]
  exact h s d (by rw [hw]; exact hs) hd
theorem rise_deliver {M : Wm} (h : WI M) (k : Int) : RiseW M (deliverW M k).1 := by
  have hn := h.wn
  unfold deliverW
  split
  · exact .same h fun _ _ => rfl
  rename_i hk
  obtain ⟨⟨hbad, hto, hfr⟩, hk0, hk1⟩ := frame_at h hk
  unfold badF at hbad
  have hE := h.erase k.toNat
  simp only
  split
  · exact .same h fun _ _ => rfl
  split
  · split
    · exact .same h fun _ _ => rfl
    · exact RiseW.left (M1 := { M with l := M.l.eraseIdx k.toNat }) (rise_set hE (s := (M.l.getD k.toNat zeroF).to) (m := { ndAt { M with l := M.l.eraseIdx k.toNat } (M.l.getD k.toNat zeroF).to with leads := _ }) (by omega) (by simp only; omega) rfl) rfl fun _ _ => rfl
  · exact RiseW.left (M1 := { M with l := M.l.eraseIdx k.toNat }) (rise_hear hE (by omega) (by simp only; omega) _) rfl fun _ _ => rfl
theorem rise_act {M : Wm} (h : WI M) (x : StpS) : RiseW M (actW M x).1 := by
  have hl : ∀ a b c, RiseW M (linkW M a b c).1 := fun a b c => by
    unfold linkW
    split <;> exact .same h fun _ _ => rfl
  have hup : ∀ s, upE M s = none → 0 ≤ s ∧ s < M.n.length := fun s hu => ⟨(up_site hu).1, (up_site hu).2.1⟩
  unfold actW
  split
  · unfold beginW
    split
    · exact .same h fun _ _ => rfl
    rename_i hb
    split
    · exact .same h fun _ _ => rfl
    split
    · exact .same h fun _ _ => rfl
    exact rise_set h (s := x.s) (m := { ndAt M x.s with leads := _ }) (by omega) (by omega) rfl
  split
  · unfold refuseW
    split
    · exact .same h fun _ _ => rfl
    split
    · exact .same h fun _ _ => rfl
    rename_i hu
    obtain ⟨h0, h1⟩ := hup _ hu
    exact rise_set h h0 h1 (by unfold refuseN; split <;> rfl)
  split
  · exact rise_tick h _
  split
  · unfold downW
    split
    · exact .same h fun _ _ => rfl
    rename_i hu
    obtain ⟨h0, h1⟩ := hup _ hu
    exact rise_set h h0 h1 rfl
  split
  · unfold upW
    split
    · exact .same h fun _ _ => rfl
    split
    · exact .same h fun _ _ => rfl
    rename_i hu _
    obtain ⟨h0, h1⟩ := nodeE_none hu
    exact rise_set h (m := { bootN (ndAt M x.s) with done := (noteN x.s (bootN (ndAt M x.s)) M.ev).1 }) h0 h1 rfl
  split
  · unfold dropW; split <;> exact .same h fun _ _ => rfl
  split
  · unfold twiceW; split <;> exact .same h fun _ _ => rfl
  split
  · exact hl _ _ _
  split
  · exact hl _ _ _
  split
  · unfold cutW
    split
    · exact .same h fun _ _ => rfl
    split
    · exact .same h fun _ _ => rfl
    rename_i hu
    obtain ⟨h0, h1⟩ := hup _ hu
    exact rise_set h h0 h1 rfl
  · exact rise_deliver h _
/-- all sites' states of a deal -/
def stsW (M : Wm) (d : Nat) : List St := (List.range M.w.length).map fun (s : Nat) => plSt (ndAt M (s : Int)).pl d
theorem sts_fin {M : Wm} (hI : WI M) (h : SafeW M) {d : Nat} (hd : d < 6) {a b : St} (ha : a ∈ stsW M d) (hb : b ∈ stsW M d) (fa : finP a.ph = true) (fb : finP b.ph = true) : a.ph = b.ph := by
  obtain ⟨g, hg⟩ := h d hd
  unfold stsW at ha hb
  obtain ⟨s, hs, rfl⟩ := List.mem_map.1 ha
  obtain ⟨t, ht, rfl⟩ := List.mem_map.1 hb
  have k1 := (hg.inv.site s (List.mem_range.1 hs)).fi
  have k2 := (hg.inv.site t (List.mem_range.1 ht)).fi
  unfold finP at fa fb
  simp only [decide_eq_true_eq] at fa fb
  exact dec_same hI.w0 hg.inv (k1 fa) (k2 fb)
theorem agD_none {xs : List St} (h : ∀ a ∈ xs, ∀ b ∈ xs, finP a.ph = true → finP b.ph = true → a.ph = b.ph) : ∀ k i, k = xs.length - i → agD xs i = none
  | 0, i, hk => agD_end (by omega)
  | k + 1, i, hk => by
    have hi : i < xs.length := by omega
    rw [agD_miss hi]
    · exact agD_none h k (i + 1) (by omega)
    · rw [List.any_eq_false]
      intro a ha
      unfold cfl
      have := h a (List.mem_of_mem_take ha) xs[i] (List.getElem_mem hi)
      intro hc
      simp only [Bool.and_eq_true, decide_eq_true_eq] at hc
      first | exact hc.2.2 (this hc.2.1 hc.1).symm | exact hc.2.2 (this hc.2.1 hc.1) | exact hc.2 (this hc.1.2 hc.1.1).symm | exact hc.2 (this hc.1.2 hc.1.1) | exact hc.2 (this hc.1.1 hc.1.2)
theorem agF_sts {M : Wm} (hI : WI M) (h : SafeW M) {d : Nat} (hd : d < 6) : agF (stsW M d) = (0, -1) := by
  unfold agF
  rw [agD_none (fun a ha b hb => sts_fin hI h hd ha hb) _ 0 rfl]
/-- who commits, all had voted for it -/
theorem com_sts {M : Wm} (hI : WI M) (h : SafeW M) {d : Nat} (hd : d < 6) {a b : St} (ha : a ∈ stsW M d) (hb : b ∈ stsW M d) (fa : a.ph = 2 ∨ a.ph = 4) : b.ph ≠ 0 := by
  obtain ⟨g, hg⟩ := h d hd
  unfold stsW at ha hb
  obtain ⟨s, hs, rfl⟩ := List.mem_map.1 ha
  obtain ⟨t, ht, rfl⟩ := List.mem_map.1 hb
  have k1 := hg.inv.site s (List.mem_range.1 hs)
  have key : ∃ a, g.prep a = some 4 := by
    rcases fa with fa | fa
    · have fa' : ((vdW M d).st s).ph = 2 := fa
      have := k1.fi (.inl fa')
      rw [fa'] at this
      rcases this with ⟨-, a, h1, -⟩ | ⟨h1, -⟩
      · exact ⟨a, h1⟩
      · cases h1
    · have fa' : ((vdW M d).st s).ph = 4 := fa
      have := k1.pe (.inl fa')
      rw [fa'] at this
      exact ⟨_, this⟩
  obtain ⟨a, h1⟩ := key
  exact (hg.inv.com a h1 t (List.mem_range.1 ht)).1
end Go.HL
end

/-! CdSt -/
section
namespace Go.HL
open Go Go.Proofs Go.ChangeShapes Go.WideShapes Go.ChangeAt Go.RowKit
def StpI (a : StpS) : Prop := a.kd.length ≤ 9223372036854775807 ∧ okI a.s ∧ okI a.d ∧ okI a.n
theorem open_stp {H : Type} {enc : TypeId × Value → H} {W : World} {base : Nat} {spare : Nat → Bool} {held : Bool} (n : Nat) (cs : List Value) (x : DataW H × List MemPlace) (h : DataW.trod enc Tryz.prog W base spare held n 54 cs = some x) : ∃ s : StpS, cs = stpL s ∧ StpI s := by
  have h0 := open_kt 4 54 [9, 3, 3, 3] n cs x (by kernel_rfl) h
  obtain ⟨s, r, rfl, hs, h1⟩ := fitT h0
  obtain ⟨a, r, rfl, ha, h2⟩ := fitI64 h1
  obtain ⟨d, r, rfl, hd, h3⟩ := fitI64 h2
  obtain ⟨m, r, rfl, hm, h4⟩ := fitI64 h3
  obtain rfl := fit0 h4
  exact ⟨⟨s, a, d, m⟩, rfl, hs, ha, hd, hm⟩
end Go.HL
end

/-! PwG -/
section
namespace Go.HL
open Go Go.Proofs
set_option linter.unusedVariables false
set_option linter.unusedSimpArgs false
set_option maxHeartbeats 2000000 attribute [local irreducible] HW HO HQ HD HC QOp Has Upd Puts Gets seqQ blkQ loopQ fnQ actQ nextP unQ MapF
attribute [local irreducible] runW newW
end Go.HL
end

/-! PwH -/
section
namespace Go.HL
open Go Go.Proofs
set_option linter.unusedVariables false
set_option linter.unusedSimpArgs false
/-- all that a State of a world reads -/
theorem wstate_all (T : Nat) (E : Nat → Addr) (G : WdG) (M : Wm) (i d : Nat) (L : Heap) (H : Heap) (hH : ∀ b o, Has (wdH G M ++ L) b o → Has H b o) (hG : Er T E [2, 6] H) (hW : WdOk G M) (hM : WI M) (hi : i < M.w.length) (hd : d < 6) :
    HC Tryz.prog 68 [pt G.wp 0, iv i, iv d] H (fun v L' => v = .tuple ⟨[.agg ⟨sc (plSt (ndAt M (i : Int)).pl d)⟩, .nilIface]⟩ ∧ L' = H) := by
  have hn := hM.wn
  have hI : WdIn H G M := by
    obtain ⟨h1, ⟨a2, c2, e2, r2⟩, ⟨a3, c3, e3, r3⟩, ⟨a4, c4, e4, r4⟩, h5⟩ := wd_in hW L
    exact ⟨hH _ _ h1, ⟨a2, c2, e2, r2.mono hH⟩, ⟨a3, c3, e3, r3.mono hH⟩, ⟨a4, c4, e4, r4.mono hH⟩, h5⟩
  have hB : ∀ {b : Nat} {o : Obj}, (b, o) ∈ ndA (npAt G i) i (ndAt M i) → Has H b o := fun {b o} hb => by
    refine hH _ _ ?_
    have := wd_has hW.ndl (s := (i : Int)) (by omega) (by omega) hb L
    unfold Has wdH at *
    rw [List.append_assoc, List.flatten_append]
    exact List.mem_append_right _ this
  have hni := wi_at hM (s := (i : Int)) (by omega) (by omega)
  have kst := wstate_calls T E G M i d H hG hI hW.ndl (fun _ => hB (by simp [ndA, ndB])) (fun _ => ⟨by rw [hni.b512]; omega, by rw [hni.b512]; omega, fun p hp => hB (by
    unfold ndA plC
    simp only [List.mem_cons, List.not_mem_nil, or_false] at hp
    rcases hp with rfl | rfl
    · simp [plB]
    · simp [plD])⟩)
  have e1 : wstateE M i d = none := by
    unfold wstateE
    rw [nodeE_ok (by omega) (by omega)]
    simp only
    rw [if_neg (by omega)]
  have e2 : wstate M i d = plSt (ndAt M i).pl d := by unfold wstate; rw [e1]
  rw [e1, e2] at kst
  exact kst
theorem sts_succ (M : Wm) (d i : Nat) : ((List.range (i + 1)).map fun (s : Nat) => plSt (ndAt M (s : Int)).pl d) = ((List.range i).map fun (s : Nat) => plSt (ndAt M (s : Int)).pl d) ++ [plSt (ndAt M (i : Int)).pl d] := by
  rw [List.range_succ, List.map_append]
  rfl
section ee
variable {P : Program} {Qv : Value → Heap → Prop} {ρ : Env} {L : Heap} {fn : Func}
theorem ee0s {L' : Heap} (hL : LS L'.flatten L.flatten) (h : Qv (.tuple #[]) L') (hr : fn.results = #[] := by rfl) : fnQ P fn Qv .normal ρ L := fun k w a hs ha => ⟨_, L', by simp [results, hr], hs.sp hL, h⟩
end ee
set_option maxHeartbeats 2000000 attribute [local irreducible] HW HO HQ HD HC QOp Has Upd Puts Gets seqQ blkQ loopQ fnQ actQ nextP unQ MapF
attribute [local irreducible] ndL jcells plC siteM ldL openM tryW tickW beginW deliverW upW
theorem states3_calls (T : Nat) (E : Nat → Addr) (G : WdG) (M : Wm) (d : Nat) (L : Heap) (hG : Er T E [2, 6] L) (hW : WdOk G M) (hM : WI M) (hd : d < 6) :
    HC Tryz.prog 24 [pt G.wp 0, iv M.w.length, iv d] (wdH G M ++ L) (fun v L' => ∃ c, (∃ sv, Vec 43 3 sc sv (stsW M d) c ∧ v = .tuple ⟨[sv, .bool true]⟩) ∧ L' = c :: (wdH G M ++ L)) := by
  have hwl := hM.wl
  have hG' := er_wdH hG G M
  have kst := fun i hi c => wstate_all T E G M i d L (c :: (wdH G M ++ L)) (fun b o h => Zd h) (hG'.cons c) hW hM hi hd
  have hsucc := sts_succ M d
  generalize hH : wdH G M ++ L = H at *
  refine Za (fun _ _ => Tryz.call24 _ _) Tryz.func24 rfl Tryz.ntmps24 (Nat.le_of_ble_eq_true rfl) ?_; simp only [args0, Nat.reduceAdd]
  repeat' (first | refine uN ?_ | (refine uB ?_; intro b) | (refine uP ?_ ?_ <;> (intro h; ((try simp only [zs, ne_eq, and_true, true_and, eq_self, reduceCtorEq] at h); try exact zx))) | fail)
  refine hw_sp (L' := [] :: H) ?_ (LS.refl _)
  refine Zf (σ := Nat × Value × List Blk) (fun r => [(0, pt G.wp 0), (1, iv M.w.length), (2, iv d), (8, r.2.1), (9, iv r.1)]) (fun r => r.2.2 :: H) (fun r => r.1 ≤ M.w.length ∧ Vec 43 3 sc r.2.1 ((List.range r.1).map fun (s : Nat) => plSt (ndAt M (s : Int)).pl d) r.2.2) (fun r => M.w.length - r.1) (0, nilS, []) uS (List.Sublist.refl _) ⟨by simp, vec_nil⟩ ?_
  rintro ⟨i, v, c⟩ ⟨hi, hv⟩
  simp only at hi hv ⊢
  obtain ⟨a5, cap5, he5, -, -⟩ := hv.rd sc_len
  subst he5
  by_cases hlt : i < M.w.length
  · have ks := kst i hlt c
    have hs := hsucc i
    generalize plSt (ndAt M (i : Int)).pl d = st at *
    obtain ⟨ph, pr, att⟩ := st
    repeat' (first | refine uN ?_ | refine uC (ks) ?_ | (refine uB ?_; intro b) | (refine uP ?_ ?_ <;> (intro h; ((try simp only [zs, ne_eq, and_true, true_and, eq_self, reduceCtorEq] at h); try exact zx))) | fail)
    refine fo 2 ?_
    refine wp1 S (⟨ph, pr, att⟩ : St) hv sc_len sc_one ?_ (hby := by simp only [List.length_map, List.length_range]; omega) (hmax := by simp only [List.length_map, List.length_range]; omega)
    intro v' c' hv'
    rw [← hs] at hv'
    repeat' (first | refine uN ?_ | refine uC (ks) ?_ | (refine uB ?_; intro b) | (refine uP ?_ ?_ <;> (intro h; ((try simp only [zs, ne_eq, and_true, true_and, eq_self, reduceCtorEq] at h); try exact zx))) | fail)
    exact Zc (i + 1, v', c') uS uL ⟨by simp only; omega, hv'⟩ (by simp only; omega)
  · obtain rfl : i = M.w.length := by omega
    repeat' (first | refine uN ?_ | refine g_q (qC (kst 0 (by omega) c)) ?_ | (refine uB ?_; intro b) | (refine uP ?_ ?_ <;> (intro h; ((try simp only [zs, ne_eq, and_true, true_and, eq_self, reduceCtorEq] at h); try exact zx))) | fail)
    exact sp2 (LS.refl _) ⟨c, ⟨_, hv, rfl⟩, rfl⟩
theorem act_calls (T : Nat) (E : Nat → Addr) (G : WdG) (M : Wm) (x : StpS) (L : Heap) (hG : Er T E [2, 3, 4, 5, 6, 8] L) (hW : WdOk G M) (hM : WI M) (hl : M.l.length ≤ 99999000) :
    HC Tryz.prog 34 [pt G.wp 0, .agg ⟨stpL x⟩] (wdH G M ++ L) (fun u L' => u = .tuple ⟨[]⟩ ∧ WdP G (actW M x).1 L L') := by
  have hG' := er_wdH hG G M
  have hGc := fun c => hG.cons c
  have k7 := fun k c => wdrop_calls T E G M k (c :: L) (hGc c).sub hW (by omega)
  have k8 := fun k c => wtwice_calls T E G M k (c :: L) (hGc c).sub hW (by omega)
  have k9 := fun s d c => wbegin_calls T E G M s d (c :: L) (hGc c).sub hW hM (by omega)
  have k10 := fun s c => wtick_calls T E G M s (c :: L) (hGc c).sub hW hM (by omega)
  have k11 := fun s d c => wrefuse_calls T E G M s d (c :: L) (hGc c).sub hW hM
  have k12 := fun a b w c => wlink_calls T E G M a b w (c :: L) (hGc c).sub hW
  have k13 := fun s n c => wcut_calls T E G M s n (c :: L) (hGc c).sub hW hM
  have k14 := fun s c => wdown_calls T E G M s (c :: L) (hGc c).sub hW hM
  have k15 := fun s c => wupS_calls T E G M s (c :: L) (hGc c).sub hW hM
  have k0 := fun k c => wdeliver_calls T E G M k (c :: L) (hGc c).sub hW hM (by omega)
  have hin : ∀ c, LS (wdH G M ++ (c :: L)).flatten (c :: (wdH G M ++ L)).flatten := fun c => ls_in
  have hdrop : ∀ c G' M', LS (wdH G' M' ++ L).flatten (wdH G' M' ++ (c :: L)).flatten := fun c G' M' => by
    simp only [List.flatten_append, List.flatten_cons]
    exact LS.boths _ (LS.skips _ (LS.refl _))
  generalize hH : wdH G M ++ L = H at *
  unfold actW
  obtain ⟨kd, s, d, n⟩ := x
  simp only
  refine Za (fun _ _ => Tryz.call34 _ _) Tryz.func34 rfl Tryz.ntmps34 (Nat.le_of_ble_eq_true rfl) ?_; simp only [args0, Nat.reduceAdd]
  repeat' (first | refine uN ?_ | (refine uB ?_; intro b) | (refine uP ?_ ?_ <;> (intro h; ((try simp only [zs, ne_eq, and_true, true_and, eq_self, reduceCtorEq] at h); try exact zx))) | fail)
  all_goals subst hH
  all_goals refine ho_sp (L' := wdH G M ++ ([(b, .cells ⟨stpL ⟨kd, s, d, n⟩⟩ 54)] :: L)) ?_ (hin _)
  all_goals simp only [*, if_true, if_false]
  all_goals first
    | (refine gc (k9 _ _ _) ?_; rintro v L' ⟨rfl, G2, f1, f2, hW2, rfl⟩; (repeat' (first | refine uN ?_ | (refine uB ?_; intro b) | (refine uP ?_ ?_ <;> (intro h; ((try simp only [zs, ne_eq, and_true, true_and, eq_self, reduceCtorEq] at h); try exact zx))) | fail)); exact ee0s (hdrop _ _ _) ⟨rfl, G2, f1, f2, hW2, rfl⟩)
    | (refine gc (k11 _ _ _) ?_; rintro v L' ⟨rfl, G2, f1, f2, hW2, rfl⟩; (repeat' (first | refine uN ?_ | (refine uB ?_; intro b) | (refine uP ?_ ?_ <;> (intro h; ((try simp only [zs, ne_eq, and_true, true_and, eq_self, reduceCtorEq] at h); try exact zx))) | fail)); exact ee0s (hdrop _ _ _) ⟨rfl, G2, f1, f2, hW2, rfl⟩)
    | (refine gc (k10 _ _) ?_; rintro v L' ⟨rfl, G2, f1, f2, hW2, rfl⟩; (repeat' (first | refine uN ?_ | (refine uB ?_; intro b) | (refine uP ?_ ?_ <;> (intro h; ((try simp only [zs, ne_eq, and_true, true_and, eq_self, reduceCtorEq] at h); try exact zx))) | fail)); exact ee0s (hdrop _ _ _) ⟨rfl, G2, f1, f2, hW2, rfl⟩)
    | (refine gc (k14 _ _) ?_; rintro v L' ⟨rfl, G2, f1, f2, hW2, rfl⟩; (repeat' (first | refine uN ?_ | (refine uB ?_; intro b) | (refine uP ?_ ?_ <;> (intro h; ((try simp only [zs, ne_eq, and_true, true_and, eq_self, reduceCtorEq] at h); try exact zx))) | fail)); exact ee0s (hdrop _ _ _) ⟨rfl, G2, f1, f2, hW2, rfl⟩)
    | (refine gc (k15 _ _) ?_; rintro v L' ⟨rfl, G2, f1, f2, hW2, rfl⟩; (repeat' (first | refine uN ?_ | (refine uB ?_; intro b) | (refine uP ?_ ?_ <;> (intro h; ((try simp only [zs, ne_eq, and_true, true_and, eq_self, reduceCtorEq] at h); try exact zx))) | fail)); exact ee0s (hdrop _ _ _) ⟨rfl, G2, f1, f2, hW2, rfl⟩)
    | (refine gc (k7 _ _) ?_; rintro v L' ⟨rfl, G2, f1, f2, hW2, rfl⟩; (repeat' (first | refine uN ?_ | (refine uB ?_; intro b) | (refine uP ?_ ?_ <;> (intro h; ((try simp only [zs, ne_eq, and_true, true_and, eq_self, reduceCtorEq] at h); try exact zx))) | fail)); exact ee0s (hdrop _ _ _) ⟨rfl, G2, f1, f2, hW2, rfl⟩)
    | (refine gc (k8 _ _) ?_; rintro v L' ⟨rfl, G2, f1, f2, hW2, rfl⟩; (repeat' (first | refine uN ?_ | (refine uB ?_; intro b) | (refine uP ?_ ?_ <;> (intro h; ((try simp only [zs, ne_eq, and_true, true_and, eq_self, reduceCtorEq] at h); try exact zx))) | fail)); exact ee0s (hdrop _ _ _) ⟨rfl, G2, f1, f2, hW2, rfl⟩)
    | (refine gc (k12 _ _ _ _) ?_; rintro v L' ⟨rfl, G2, f1, f2, hW2, rfl⟩; (repeat' (first | refine uN ?_ | (refine uB ?_; intro b) | (refine uP ?_ ?_ <;> (intro h; ((try simp only [zs, ne_eq, and_true, true_and, eq_self, reduceCtorEq] at h); try exact zx))) | fail)); exact ee0s (hdrop _ _ _) ⟨rfl, G2, f1, f2, hW2, rfl⟩)
    | (refine gc (k12 _ _ _ _) ?_; rintro v L' ⟨rfl, G2, f1, f2, hW2, rfl⟩; (repeat' (first | refine uN ?_ | (refine uB ?_; intro b) | (refine uP ?_ ?_ <;> (intro h; ((try simp only [zs, ne_eq, and_true, true_and, eq_self, reduceCtorEq] at h); try exact zx))) | fail)); exact ee0s (hdrop _ _ _) ⟨rfl, G2, f1, f2, hW2, rfl⟩)
    | (refine gc (k13 _ _ _) ?_; rintro v L' ⟨rfl, G2, f1, f2, hW2, rfl⟩; (repeat' (first | refine uN ?_ | (refine uB ?_; intro b) | (refine uP ?_ ?_ <;> (intro h; ((try simp only [zs, ne_eq, and_true, true_and, eq_self, reduceCtorEq] at h); try exact zx))) | fail)); exact ee0s (hdrop _ _ _) ⟨rfl, G2, f1, f2, hW2, rfl⟩)
    | (refine gc (k0 _ _) ?_; rintro v L' ⟨rfl, G2, f1, f2, hW2, rfl⟩; (repeat' (first | refine uN ?_ | (refine uB ?_; intro b) | (refine uP ?_ ?_ <;> (intro h; ((try simp only [zs, ne_eq, and_true, true_and, eq_self, reduceCtorEq] at h); try exact zx))) | fail)); exact ee0s (hdrop _ _ _) ⟨rfl, G2, f1, f2, hW2, rfl⟩)
end Go.HL
end

/-! PwI -/
section
namespace Go.HL
open Go Go.Proofs
set_option linter.unusedVariables false
set_option linter.unusedSimpArgs false
def actsW (M : Wm) (l : List StpS) : Wm := l.foldl (fun M x => (actW M x).1) M
theorem actsW_succ (M : Wm) (l : List StpS) (i : Nat) (h : i < l.length) : actsW M (l.take (i + 1)) = (actW (actsW M (l.take i)) l[i]).1 := by
  unfold actsW
  rw [List.take_add_one, List.getElem?_eq_getElem h, Option.toList_some, List.foldl_append]
  rfl
theorem acts_ok {M : Wm} (h : WI M) : ∀ (l : List StpS), (∀ x ∈ l, x.n ≤ 9223372036854775807) → StepOk M (actsW M l) (84 * l.length) := by
  have key : ∀ (l : List StpS) (M1 : Wm) (k : Nat), StepOk M M1 k → (∀ x ∈ l, x.n ≤ 9223372036854775807) → StepOk M (actsW M1 l) (k + 84 * l.length) := by
    intro l
    induction l with
    | nil => exact fun M1 k h _ => h
    | cons x l ih =>
      intro M1 k h hx
      have h2 := act_ok h.wi x (hx x (by simp))
      have h3 := h.len
      have h4 := h2.len
      have := ih (actW M1 x).1 (k + 84) ⟨h2.wi, h.same.trans h2.same, by omega⟩ (fun y hy => hx y (by simp [hy]))
      exact this.mono (by simp only [List.length_cons]; omega)
  intro l hx
  exact (key l M 0 (.refl h 0) hx).mono (by omega)
theorem acts_safe : ∀ (l : List StpS) {M : Wm}, WI M → SafeW M → EvW M → (∀ x ∈ l, x.n ≤ 9223372036854775807) → SafeW (actsW M l) ∧ EvW (actsW M l)
  | [], M, hI, h, he, _ => ⟨h, he⟩
  | x :: l, M, hI, h, he, hx => acts_safe l (act_ok hI x (hx x (by simp))).wi (safe_act hI h x (hx x (by simp))) (ev_act hI he x) fun y hy => hx y (by simp [hy])
/-- what was, and may become what is -/
def WasI (w : Nat) (vals : List Int) (M : Wm) : Prop := vals.length = 6 * w ∧ ∀ d s : Nat, d < 6 → s < w → ∃ x, vals[d * w + s]? = some x ∧ mayS x (plSt (ndAt M (s : Int)).pl d).ph = true
theorem WasI.rise {w : Nat} {vals : List Int} {M M' : Wm} (h : WasI w vals M) (hw : M.w.length = w) (hr : RiseW M M') : WasI w vals M' := ⟨h.1, fun d s hd hs => by
  obtain ⟨x, h1, h2⟩ := h.2 d s hd hs
  exact ⟨x, h1, mayS_trans h2 (hr s d (by omega) hd).2.2⟩⟩
theorem idx_lt {d s w : Nat} (hd : d < 6) (hs : s < w) : d * w + s < 6 * w := by
  have : d * w ≤ 5 * w := Nat.mul_le_mul_right w (by omega)
  omega
theorem idx_inj {d s e t w : Nat} (hs : s < w) (ht : t < w) (h : d * w + s = e * w + t) : d = e ∧ s = t := by
  rcases Nat.lt_trichotomy d e with hlt | hlt | hlt
  · have : (d + 1) * w ≤ e * w := Nat.mul_le_mul_right w hlt
    rw [Nat.add_mul, Nat.one_mul] at this
    omega
  · subst hlt; exact ⟨rfl, by omega⟩
  · have : (e + 1) * w ≤ d * w := Nat.mul_le_mul_right w hlt
    rw [Nat.add_mul, Nat.one_mul] at this
    omega
theorem WasI.set {w : Nat} {vals : List Int} {M : Wm} (h : WasI w vals M) (hM : WI M) (hw : M.w.length = w) {d s : Nat} (hd : d < 6) (hs : s < w) : WasI w (vals.set (d * w + s) (plSt (ndAt M (s : Int)).pl d).ph) M := by
  refine ⟨by rw [List.length_set]; exact h.1, fun e t he ht => ?_⟩
  rw [List.getElem?_set]
  by_cases hh : d * w + s = e * w + t
  · obtain ⟨rfl, rfl⟩ := idx_inj hs ht hh
    rw [if_pos rfl, if_pos (by rw [h.1]; exact idx_lt hd hs)]
    exact ⟨_, rfl, (stLe_refl (st_ok hM (by omega) hd)).2.2⟩
  · rw [if_neg hh]
    exact h.2 e t he ht
theorem WasI.new {w : List Int} (hc : checkW w = none) : WasI w.length (List.replicate (6 * w.length) 0) (newW w) := by
  refine ⟨by simp, fun d s hd hs => ⟨0, ?_, ?_⟩⟩
  · rw [List.getElem?_replicate, if_pos (idx_lt hd hs)]
  · have := st_ok (new_ok hc) (s := s) (d := d) hs hd
    obtain ⟨g1, g2, -⟩ := this
    unfold mayS
    exact decide_eq_true (by omega)
theorem sts_get {M : Wm} {d s : Nat} (h : s < M.w.length) : (stsW M d)[s]? = some (plSt (ndAt M (s : Int)).pl d) := by
  unfold stsW
  rw [List.getElem?_map, List.getElem?_range h]
  rfl
theorem sts_len (M : Wm) (d : Nat) : (stsW M d).length = M.w.length := by
  unfold stsW
  rw [List.length_map, List.length_range]
/-- commits, silent: of the states so far -/
def anyP (M : Wm) (d i : Nat) (p : Int → Bool) : Bool := (List.range i).any fun s => p (plSt (ndAt M (s : Int)).pl d).ph
theorem anyP_succ (M : Wm) (d i : Nat) (p : Int → Bool) : anyP M d (i + 1) p = (anyP M d i p || p (plSt (ndAt M (i : Int)).pl d).ph) := by
  unfold anyP
  rw [List.range_succ, List.any_append]
  simp
def comP (p : Int) : Bool := decide (p = 2) || decide (p = 4)
def silP (p : Int) : Bool := decide (p = 0)
theorem com_sil {M : Wm} (hI : WI M) (h : SafeW M) {d : Nat} (hd : d < 6) : (anyP M d M.w.length comP && anyP M d M.w.length silP) = false := by
  cases h1 : anyP M d M.w.length comP with
  | false => rfl
  | true =>
    cases h2 : anyP M d M.w.length silP with
    | false => rfl
    | true =>
      exfalso
      unfold anyP comP at h1
      unfold anyP silP at h2
      simp only [List.any_eq_true, List.mem_range, Bool.or_eq_true, decide_eq_true_eq] at h1 h2
      obtain ⟨s, hs, e1⟩ := h1
      obtain ⟨t, ht, e2⟩ := h2
      exact com_sts hI h hd (a := plSt (ndAt M (s : Int)).pl d) (b := plSt (ndAt M (t : Int)).pl d) (List.mem_map.2 ⟨s, List.mem_range.2 hs, rfl⟩) (List.mem_map.2 ⟨t, List.mem_range.2 ht, rfl⟩) e1 e2
end Go.HL
end

/-! HLFi -/
section
namespace Go.HL
open Go
set_option linter.unusedVariables false
set_option linter.unusedSimpArgs false
section fi
variable {P : Program} (S : Tab P) {ρ : Env} {L : Heap} {d : Option Tmp} {ty : TypeId} {pos : String} {af : Array Edge} {g : Option (Nat × Bool)}
theorem q_field {s f o ft : Nat} {ti : TyI} {x : Operand} {l : List Value} {v : Value} (hx : ev ρ x = some (.agg ⟨l⟩) := by exact rfl) (hf : lkN S.fl (s * 64 + f) = some (o, ft) := by exact rfl) (hlt : Nat.blt f 64 = true := by exact rfl) (ht : lkN S.ty ft = some ti := by exact rfl)
    (h6 : Nat.beq ti.kind 6 = false := by exact rfl) (h7 : Nat.beq ti.kind 7 = false := by exact rfl) (hv : l[o]? = some v := by exact rfl) : QOp P ⟨d, .field s x f, ty, pos, af, g⟩ ρ L v :=
  q_run fun ρe he k w hs => by
    obtain ⟨-, h⟩ := S.fldI hf hlt
    have h1 := ty_agg_no (S.tyI ht) h6 h7 w
    unfold fldT at h
    split at h
    · rename_i fs hfs
      split at h
      · rename_i fd hfd
        cases h
        simp [execOp, he x (by simp [Op.operands]) _ hx, Instr.field, run_underlying hfs, hfd, asAgg, part, h1, hv]
      · cases h
    · cases h
end fi
end Go.HL
end

/-! PwJ -/
section
namespace Go.HL
open Go Go.Proofs
set_option linter.unusedVariables false
set_option linter.unusedSimpArgs false
set_option maxHeartbeats 2000000 attribute [local irreducible] HW HO HQ HD HC QOp Has Upd Puts Gets seqQ blkQ loopQ fnQ actQ nextP unQ MapF
attribute [local irreducible] newW actsW actW stsW wdC
theorem worldAgrees_calls (T : Nat) (E : Nat → Addr) (a al : Option Addr) (cap capl : Nat) (w : List Int) (l : List StpS) (L : Heap) (hE : Ez T E L) (hR : Rd ic 1 L a w) (hRl : Rd stpL 4 L al l) (hd : ∀ x ∈ l, x.n ≤ 9223372036854775807) :
    HC Tryz.prog 8 [.slice a w.length cap, .slice al l.length capl] L (fun v L' => v = .bool true ∧ L' = L) := by
  have kb := born_calls T E L hE
  by_cases hlc : w.length ≤ 30 ∧ l.length ≤ 400
  · obtain ⟨hw30, hl1⟩ := hlc
    have ko := fun L hR => ownInts_calls a cap w L hR (by omega)
    have kn0 := fun v c L hG hv => wnew_calls T E v w c L hG hv (by omega)
    cases hc : checkW w with
    | some e =>
      simp only [hc] at kn0
      refine Za (fun _ _ => Tryz.call8 _ _) Tryz.func8 rfl Tryz.ntmps8 (Nat.le_of_ble_eq_true rfl) ?_; simp only [args0, Nat.reduceAdd]
      repeat' (first | refine uN ?_ | refine uC (kb) ?_ | (refine uB ?_; intro b) | (refine uP ?_ ?_ <;> (intro h; ((try simp only [zs, ne_eq, and_true, true_and, eq_self, reduceCtorEq] at h); try exact zx))) | fail)
      refine gc (ko _ hR) ?_
      rintro v L' ⟨o1, ho1, rfl⟩
      repeat' (first | refine uN ?_ | refine uC (kb) ?_ | (refine uB ?_; intro b) | (refine uP ?_ ?_ <;> (intro h; ((try simp only [zs, ne_eq, and_true, true_and, eq_self, reduceCtorEq] at h); try exact zx))) | fail)
      refine gc (kn0 _ _ _ (hE.er [2, 3, 4, 6]) ho1) ?_
      rintro v L' ⟨rfl, rfl⟩
      repeat' (first | refine uN ?_ | refine uC (kb) ?_ | (refine uB ?_; intro b) | (refine uP ?_ ?_ <;> (intro h; ((try simp only [zs, ne_eq, and_true, true_and, eq_self, reduceCtorEq] at h); try exact zx))) | fail)
      exact sp1 (LS.c (LS.refl _)) ⟨rfl, rfl⟩
    | none =>
      simp only [hc] at kn0
      obtain ⟨c1, c2, -⟩ := check_none hc
      have hM := new_ok hc
      have hwas := WasI.new hc
      have hnl : (newW w).l.length = 0 := by unfold newW; rfl
      have hnw : (newW w).w = w := by unfold newW; rfl
      have hn0 : actsW (newW w) (l.take 0) = newW w := by unfold actsW; rfl
      have kn := fun v c L hG hv => HC.shutN (V := fun u G => u = .tuple ⟨[pt G.wp 0, .nilIface]⟩) (kn0 v c L hG hv)
      have hok := fun i => acts_ok hM (l.take i) (fun x hx => hd x (List.mem_of_mem_take hx))
      have hsf := fun i => acts_safe (l.take i) hM (safe_new hc) (ev_new w) (fun x hx => hd x (List.mem_of_mem_take hx))
      have hsucc := fun i h => actsW_succ (newW w) l i h
      refine Za (fun _ _ => Tryz.call8 _ _) Tryz.func8 rfl Tryz.ntmps8 (Nat.le_of_ble_eq_true rfl) ?_; simp only [args0, Nat.reduceAdd]
      repeat' (first | refine uN ?_ | refine uC (kb) ?_ | (refine uB ?_; intro b) | (refine uP ?_ ?_ <;> (intro h; ((try simp only [zs, ne_eq, and_true, true_and, eq_self, reduceCtorEq] at h); try exact zx))) | fail)
      refine gc (ko _ hR) ?_
      rintro v L' ⟨o1, ho1, rfl⟩
      repeat' (first | refine uN ?_ | refine uC (kb) ?_ | (refine uB ?_; intro b) | (refine uP ?_ ?_ <;> (intro h; ((try simp only [zs, ne_eq, and_true, true_and, eq_self, reduceCtorEq] at h); try exact zx))) | fail)
      refine gc (kn _ _ _ (hE.er [2, 3, 4, 6]) ho1) ?_
      rintro v L' ⟨Ga, rfl, hWa, rfl⟩
      repeat' (first | refine uN ?_ | refine uC (kb) ?_ | (refine uB ?_; intro b) | (refine uP ?_ ?_ <;> (intro h; ((try simp only [zs, ne_eq, and_true, true_and, eq_self, reduceCtorEq] at h); try exact zx))) | fail)
      have hrep : List.replicate (6 * (w.length : Int)).toNat (Value.int .i64 0) = (List.replicate (6 * w.length) (0 : Int)).map iv := by
        rw [show (6 * (w.length : Int)).toNat = 6 * w.length by omega, List.map_replicate]
      have h6 : (6 * (w.length : Int)).toNat = 6 * w.length := by omega
      rw [hrep, h6]
      apply once_w (ι := WdG) (fun G => WdOk G (actsW (newW w) (l.take l.length)) ∧ G.wp = Ga.wp) (fun G => [(0, .slice a w.length cap), (6, pt Ga.wp 0), (15, iv 0)]) (fun G => wdC G (actsW (newW w) (l.take l.length)) :: o1 :: L)
      · intro key
        refine hw_sp (L' := [(b, .cells ⟨(List.replicate (6 * w.length) (0 : Int)).map iv⟩ 3)] :: wdC Ga (newW w) :: o1 :: L) ?_ (LS.refl _)
        refine Zf (σ := Nat × List Int × WdG) (fun r => [(0, .slice a w.length cap), (1, .slice al l.length capl), (6, pt Ga.wp 0), (8, sl b 0 (6 * w.length) (6 * w.length)), (9, iv r.1)]) (fun r => [(b, .cells ⟨r.2.1.map iv⟩ 3)] :: wdC r.2.2 (actsW (newW w) (l.take r.1)) :: o1 :: L)
          (fun r => r.1 ≤ l.length ∧ WasI w.length r.2.1 (actsW (newW w) (l.take r.1)) ∧ WdOk r.2.2 (actsW (newW w) (l.take r.1)) ∧ r.2.2.wp = Ga.wp) (fun r => l.length - r.1) (0, List.replicate (6 * w.length) 0, Ga) uS (by rw [hn0]; exact List.Sublist.refl _) ⟨by simp, by rw [hn0]; exact hwas, by rw [hn0]; exact hWa, rfl⟩ ?_
        rintro ⟨i, vals, G1⟩ ⟨hi, hwi, hW1, e1⟩
        simp only at hi hwi hW1 e1 ⊢
        have hoki := hok i
        by_cases hit : i < l.length
        · have hs := hsucc i hit
          obtain ⟨bl, il, ll, El, frl, rfl, hbl, hgl⟩ := hRl.at (j := (i : Int)) (by omega) (by omega)
          have ex : l[(i : Int).toNat]'(by omega) = l[i] := rfl
          rw [ex] at hgl
          have hdx := hd l[i] (List.getElem_mem _)
          have hok2 := hok (i + 1)
          have hsf2 := hsf (i + 1)
          rw [hs] at hok2 hsf2
          have hti : (l.take i).length = i := by rw [List.length_take]; omega
          have hlen1 := hoki.len
          rw [hti] at hlen1
          have ka := fun L hG => HC.shut (V := fun u => u = .tuple ⟨[]⟩) (act_calls T E G1 (actsW (newW w) (l.take i)) l[i] L hG hW1 hoki.wi (by omega))
          have hwl1 : (actsW (newW w) (l.take i)).w.length = w.length := by rw [hoki.same.w, hnw]
          have hri := hwi.rise hwl1 (rise_act hoki.wi l[i])
          have hw2 : (actW (actsW (newW w) (l.take i)) l[i]).1.w.length = w.length := by rw [hok2.same.w, hnw]
          have hI2 := hok2.wi
          generalize l[i] = x at *
          generalize (actW (actsW (newW w) (l.take i)) x).1 = M2 at *
          obtain ⟨kd, xs, xd, xn⟩ := x
          rw [← e1]
          repeat' (first | refine uN ?_ | refine uC (kb) ?_ | (refine uB ?_; intro b) | (refine uP ?_ ?_ <;> (intro h; ((try simp only [zs, ne_eq, and_true, true_and, eq_self, reduceCtorEq] at h); try exact zx))) | fail)
          refine fo 1 ?_
          refine gc (ka _ (((hE.er [2, 3, 4, 5, 6, 8]).cons _).cons _)) ?_
          rintro v L' ⟨rfl, G2, e2, hW2, rfl⟩
          rw [← e2]
          repeat' (first | refine uN ?_ | refine uC (kb) ?_ | (refine uB ?_; intro b) | (refine uP ?_ ?_ <;> (intro h; ((try simp only [zs, ne_eq, and_true, true_and, eq_self, reduceCtorEq] at h); try exact zx))) | fail)
          have hii : 0 ≤ (i : Int) ∧ (i : Int) ≤ 400 := by omega
          have hsucc2 : actsW (newW w) (l.take (i + 1)) = M2 := hs
          clear ka hgl hbl
          refine Zf (σ := Nat × List Int) (fun r => [(0, .slice a w.length cap), (1, .slice (some ⟨bl, il, none⟩) l.length capl), (6, pt G2.wp 0), (8, sl b 0 (6 * w.length) (6 * w.length)), (9, iv i), (10, iv r.1)]) (fun r => wdC G2 M2 :: [(b, .cells ⟨r.2.map iv⟩ 3)] :: o1 :: L)
            (fun r => r.1 ≤ 6 ∧ WasI w.length r.2 M2) (fun r => 6 - r.1) (0, vals) uS (List.Sublist.refl _) ⟨by simp, hri⟩ ?_
          rintro ⟨d, va⟩ ⟨hd6, hwa⟩
          simp only at hd6 hwa ⊢
          by_cases hgo : d < 6 ∧ (i : Int) % 5 = 0
          · obtain ⟨hdl, hi5⟩ := hgo
            have hsl : (stsW M2 d).length = w.length := by rw [sts_len, hw2]
            have hag := agF_sts hI2 hsf2.1 hdl
            have kst := fun L hG => HC.shutR (V := fun v c => ∃ sv, Vec 43 3 sc sv (stsW M2 d) c ∧ v = .tuple ⟨[sv, .bool true]⟩) (states3_calls T E G2 M2 d L hG hW2 hI2 hdl)
            simp only [hw2] at kst
            repeat' (first | refine uN ?_ | refine uC (kb) ?_ | (refine uB ?_; intro b) | (refine uP ?_ ?_ <;> (intro h; ((try simp only [zs, ne_eq, and_true, true_and, eq_self, reduceCtorEq] at h); try exact zx))) | fail)
            refine gc (kst _ (((hE.er [2, 6]).cons _).cons _)) ?_
            rintro v L' ⟨cS, ⟨sv, hsv, rfl⟩, rfl⟩
            obtain ⟨as5, cap5, rfl, -, hR5⟩ := hsv.rd sc_len
            have kag := fun H hG hR => agree_calls T E as5 cap5 (stsW M2 d) H hG hR (by omega)
            rw [hag] at kag
            simp only [hsl] at kag ⊢
            repeat' (first | refine uN ?_ | refine uC (kb) ?_ | (refine uB ?_; intro b) | (refine uP ?_ ?_ <;> (intro h; ((try simp only [zs, ne_eq, and_true, true_and, eq_self, reduceCtorEq] at h); try exact zx))) | fail)
            refine gc (kag _ ((((((hE.er [9]).cons _).cons _).cons _).cons _)) (hR5 _)) ?_
            rintro v L' ⟨cf, hfv, rfl⟩
            obtain ⟨rfl, rfl⟩ := hfv.zero
            repeat' (first | refine uN ?_ | refine uC (kb) ?_ | (refine uB ?_; intro b) | (refine uP ?_ ?_ <;> (intro h; ((try simp only [zs, ne_eq, and_true, true_and, eq_self, reduceCtorEq] at h); try exact zx))) | fail)
            refine hw_sp (L' := cS :: wdC G2 M2 :: [(b, .cells ⟨va.map iv⟩ 3)] :: o1 :: L) ?_ (LS.refl _)
            refine Zf (σ := Nat × List Int) (fun r => [(0, .slice a w.length cap), (1, .slice (some ⟨bl, il, none⟩) l.length capl), (6, pt G2.wp 0), (8, sl b 0 (6 * w.length) (6 * w.length)), (9, iv i), (10, iv d), (11, .slice as5 w.length cap5), (13, iv r.1)]) (fun r => cS :: wdC G2 M2 :: [(b, .cells ⟨r.2.map iv⟩ 3)] :: o1 :: L)
              (fun r => r.1 ≤ w.length ∧ WasI w.length r.2 M2) (fun r => w.length - r.1) (0, va) uS (List.Sublist.refl _) ⟨by simp, hwa⟩ ?_
            rintro ⟨q, vb⟩ ⟨hq, hwb⟩
            simp only at hq hwb ⊢
            by_cases hql : q < w.length
            · obtain ⟨x, hx1, hx2⟩ := hwb.2 d q hdl hql
              have hset := hwb.set hI2 hw2 hdl hql
              obtain ⟨b7, i7, l7, E7, fr7, rfl, hb7, hg7⟩ := (hR5 (wdC G2 M2 :: [(b, .cells ⟨vb.map iv⟩ 3)] :: o1 :: L)).at (j := (q : Int)) (by omega) (by omega)
              have hsg := sts_get (M := M2) (d := d) (s := q) (by omega)
              have ex7 : (stsW M2 d)[(q : Int).toNat]'(by rw [hsl]; omega) = plSt (ndAt M2 (q : Int)).pl d := by
                have h9 : q < (stsW M2 d).length := by omega
                rw [List.getElem?_eq_getElem h9] at hsg
                exact Option.some.inj hsg
              rw [ex7] at hg7
              have hidx := idx_lt hdl hql
              have hidn : (((d : Int) * (w.length : Int) + (q : Int)).toNat) = d * w.length + q := by
                have : ((d : Int) * (w.length : Int) + (q : Int)) = ((d * w.length + q : Nat) : Int) := by push_cast; rfl
                rw [this, Int.toNat_natCast]
              have hid1 : (d : Int) * (w.length : Int) + (q : Int) < 6 * (w.length : Int) := by
                have : ((d : Int) * (w.length : Int) + (q : Int)) = ((d * w.length + q : Nat) : Int) := by push_cast; rfl
                rw [this]; omega
              have hid0 : 0 ≤ (d : Int) * (w.length : Int) := by
                have : ((d : Int) * (w.length : Int)) = ((d * w.length : Nat) : Int) := by push_cast; rfl
                rw [this]; omega
              have gV : (vb.map iv)[0 + ((d : Int) * (w.length : Int) + (q : Int)).toNat]? = some (iv x) := by
                rw [hidn, Nat.zero_add, List.getElem?_map, hx1]
                rfl
              have gP : Puts (vb.map iv) (0 + ((d : Int) * (w.length : Int) + (q : Int)).toNat) [iv (plSt (ndAt M2 (q : Int)).pl d).ph] ((vb.set (d * w.length + q) (plSt (ndAt M2 (q : Int)).pl d).ph).map iv) := by
                rw [hidn, Nat.zero_add, List.map_set]
                exact puts_set (by rw [List.length_map, hwb.1]; exact hidx)
              have kmo := mayOf_calls x (plSt (ndAt M2 (q : Int)).pl d).ph
              rw [hx2] at kmo
              generalize plSt (ndAt M2 (q : Int)).pl d = st at *
              obtain ⟨ph, pr, att⟩ := st
              simp only at kmo gP hset
              repeat' (first | refine uN ?_ | refine uC (kb) ?_ | refine uC (kmo _) ?_ | (refine uB ?_; intro b) | (refine uP ?_ ?_ <;> (intro h; ((try simp only [zs, ne_eq, and_true, true_and, eq_self, reduceCtorEq] at h); try exact zx))) | fail)
              refine Zc (q + 1, vb.set (d * w.length + q) ph) uS uL ⟨by simp only; omega, hset⟩ (by simp only; omega)
            · obtain rfl : q = w.length := by omega
              repeat' (first | refine uN ?_ | refine uC (kb) ?_ | (refine uB ?_; intro b) | (refine uP ?_ ?_ <;> (intro h; ((try simp only [zs, ne_eq, and_true, true_and, eq_self, reduceCtorEq] at h); try exact zx))) | fail)
              refine Zc (d + 1, vb) uS uL ⟨by simp only; omega, hwb⟩ (by simp only; omega)
          · repeat' (first | refine uN ?_ | refine uC (kb) ?_ | (refine uB ?_; intro b) | (refine uP ?_ ?_ <;> (intro h; ((try simp only [zs, ne_eq, and_true, true_and, eq_self, reduceCtorEq] at h); try exact zx))) | fail)
            all_goals first | (exfalso; omega) | skip
            all_goals refine Zc (i + 1, va, G2) uS ?_ ⟨by simp only; omega, by simp only [hsucc2]; exact hwa, by simp only [hsucc2]; exact hW2, rfl⟩ (by simp only; omega)
            all_goals simp only [hsucc2]
            all_goals exact uL
        · obtain rfl : i = l.length := by omega
          repeat' (first | refine uN ?_ | refine uC (kb) ?_ | (refine uB ?_; intro b) | (refine uP ?_ ?_ <;> (intro h; ((try simp only [zs, ne_eq, and_true, true_and, eq_self, reduceCtorEq] at h); try exact zx))) | fail)
          exact hw_sp (hw_sub (key G1 ⟨hW1, e1⟩) uS) uL
      · rintro G1 ⟨hW1, e1⟩
        have hMf := hok l.length
        have hsfe := hsf l.length
        have hw2 : (actsW (newW w) (l.take l.length)).w.length = w.length := by rw [hMf.same.w, hnw]
        have hIf := hMf.wi
        have hwell := ev_well hIf hsfe.1 hsfe.2
        rw [hw2] at hwell
        have hef := efM_well (n := w.length) c1 c2 hwell
        have hevl := hIf.evl
        clear hok hsf hsucc hMf
        generalize actsW (newW w) (l.take l.length) = M2 at *
        rw [← e1]
        refine Zf (σ := Nat) (fun d => [(0, .slice a w.length cap), (6, pt G1.wp 0), (15, iv d)]) (fun _ => wdC G1 M2 :: o1 :: L)
          (fun d => d ≤ 6) (fun d => 6 - d) 0 uS (List.Sublist.refl _) (by simp) ?_
        rintro d hd6
        by_cases hdl : d < 6
        · have hsl : (stsW M2 d).length = w.length := by rw [sts_len, hw2]
          have hag := agF_sts hIf hsfe.1 hdl
          have hcs := com_sil hIf hsfe.1 hdl
          rw [hw2] at hcs
          have kst := fun L hG => HC.shutR (V := fun v c => ∃ sv, Vec 43 3 sc sv (stsW M2 d) c ∧ v = .tuple ⟨[sv, .bool true]⟩) (states3_calls T E G1 M2 d L hG hW1 hIf hdl)
          simp only [hw2] at kst
          repeat' (first | refine uN ?_ | refine uC (kb) ?_ | (refine uB ?_; intro b) | (refine uP ?_ ?_ <;> (intro h; ((try simp only [zs, ne_eq, and_true, true_and, eq_self, reduceCtorEq] at h); try exact zx))) | fail)
          refine gc (kst _ ((hE.er [2, 6]).cons _)) ?_
          rintro v L' ⟨cS, ⟨sv, hsv, rfl⟩, rfl⟩
          obtain ⟨as5, cap5, rfl, -, hR5⟩ := hsv.rd sc_len
          have kag := fun H hG hR => agree_calls T E as5 cap5 (stsW M2 d) H hG hR (by omega)
          rw [hag] at kag
          simp only [hsl] at kag ⊢
          repeat' (first | refine uN ?_ | refine uC (kb) ?_ | (refine uB ?_; intro b) | (refine uP ?_ ?_ <;> (intro h; ((try simp only [zs, ne_eq, and_true, true_and, eq_self, reduceCtorEq] at h); try exact zx))) | fail)
          refine gc (kag _ (((((hE.er [9]).cons _).cons _).cons _)) (hR5 _)) ?_
          rintro v L' ⟨cf, hfv, rfl⟩
          obtain ⟨rfl, rfl⟩ := hfv.zero
          repeat' (first | refine uN ?_ | refine uC (kb) ?_ | (refine uB ?_; intro b) | (refine uP ?_ ?_ <;> (intro h; ((try simp only [zs, ne_eq, and_true, true_and, eq_self, reduceCtorEq] at h); try exact zx))) | fail)
          refine hw_sp (L' := cS :: wdC G1 M2 :: o1 :: L) ?_ (LS.refl _)
          refine Zf (σ := Nat) (fun q => [(0, .slice a w.length cap), (6, pt G1.wp 0), (15, iv d), (16, .slice as5 w.length cap5), (18, .bool (anyP M2 d q comP)), (19, .bool (anyP M2 d q silP)), (20, iv q)]) (fun _ => cS :: wdC G1 M2 :: o1 :: L)
            (fun q => q ≤ w.length) (fun q => w.length - q) 0 uS (List.Sublist.refl _) (by simp) ?_
          rintro q hq
          by_cases hql : q < w.length
          · have ha1 : anyP M2 d (q + 1) comP = (anyP M2 d q comP || (decide ((plSt (ndAt M2 (q : Int)).pl d).ph = 2) || decide ((plSt (ndAt M2 (q : Int)).pl d).ph = 4))) := anyP_succ M2 d q comP
            have ha2 : anyP M2 d (q + 1) silP = (anyP M2 d q silP || decide ((plSt (ndAt M2 (q : Int)).pl d).ph = 0)) := anyP_succ M2 d q silP
            obtain ⟨b7, i7, l7, E7, fr7, rfl, hb7, hg7⟩ := (hR5 (wdC G1 M2 :: o1 :: L)).at (j := (q : Int)) (by omega) (by omega)
            have hsg := sts_get (M := M2) (d := d) (s := q) (by omega)
            have ex7 : (stsW M2 d)[(q : Int).toNat]'(by rw [hsl]; omega) = plSt (ndAt M2 (q : Int)).pl d := by
              have h9 : q < (stsW M2 d).length := by omega
              rw [List.getElem?_eq_getElem h9] at hsg
              exact Option.some.inj hsg
            rw [ex7] at hg7
            clear hcs
            generalize plSt (ndAt M2 (q : Int)).pl d = st at *
            obtain ⟨ph, pr, att⟩ := st
            simp only at ha1 ha2
            generalize anyP M2 d q comP = ca at *
            generalize anyP M2 d q silP = cb at *
            rcases (show ph = 2 ∨ ph = 4 ∨ ph = 0 ∨ (ph ≠ 2 ∧ ph ≠ 4 ∧ ph ≠ 0) by omega) with rfl | rfl | rfl | ⟨hp2, hp4, hp0⟩
            · simp only [Int.reduceEq, decide_true, decide_false, Bool.or_true, Bool.or_false, Bool.true_or] at ha1 ha2
              repeat' (first | refine uN ?_ | refine uC (kb) ?_ | (refine uB ?_; intro b) | (refine uP ?_ ?_ <;> (intro h; ((try simp only [zs, ne_eq, and_true, true_and, eq_self, reduceCtorEq] at h); try exact zx))) | fail)
              exact Zc (q + 1) (by rw [ha1, ha2]; exact uS) uL (by omega) (by omega)
            · simp only [Int.reduceEq, decide_true, decide_false, Bool.or_true, Bool.or_false, Bool.true_or] at ha1 ha2
              repeat' (first | refine uN ?_ | refine uC (kb) ?_ | (refine uB ?_; intro b) | (refine uP ?_ ?_ <;> (intro h; ((try simp only [zs, ne_eq, and_true, true_and, eq_self, reduceCtorEq] at h); try exact zx))) | fail)
              exact Zc (q + 1) (by rw [ha1, ha2]; exact uS) uL (by omega) (by omega)
            · simp only [Int.reduceEq, decide_true, decide_false, Bool.or_true, Bool.or_false, Bool.true_or] at ha1 ha2
              repeat' (first | refine uN ?_ | refine uC (kb) ?_ | (refine uB ?_; intro b) | (refine uP ?_ ?_ <;> (intro h; ((try simp only [zs, ne_eq, and_true, true_and, eq_self, reduceCtorEq] at h); try exact zx))) | fail)
              exact Zc (q + 1) (by rw [ha1, ha2]; exact uS) uL (by omega) (by omega)
            · simp only [hp2, hp4, hp0, decide_true, decide_false, Bool.or_true, Bool.or_false, Bool.true_or] at ha1 ha2
              repeat' (first | refine uN ?_ | refine uC (kb) ?_ | (refine uB ?_; intro b) | (refine uP ?_ ?_ <;> (intro h; ((try simp only [zs, ne_eq, and_true, true_and, eq_self, reduceCtorEq] at h); try exact zx))) | fail)
              exact Zc (q + 1) (by rw [ha1, ha2]; exact uS) uL (by omega) (by omega)
          · obtain rfl : q = w.length := by omega
            generalize anyP M2 d w.length comP = ca at *
            generalize anyP M2 d w.length silP = cb at *
            have hcs' : ¬ (ca = true ∧ cb = true) := by revert hcs; cases ca <;> cases cb <;> simp
            repeat' (first | refine uN ?_ | refine uC (kb) ?_ | (refine uB ?_; intro b) | (refine uP ?_ ?_ <;> (intro h; ((try simp only [zs, ne_eq, and_true, true_and, eq_self, reduceCtorEq] at h); try exact zx))) | fail)
            all_goals first | exact absurd ⟨‹ca = true›, ‹cb = true›⟩ hcs' | exact Zc (d + 1) uS uL (by omega) (by omega)
        · obtain rfl : d = 6 := by omega
          have kev := fun G L hW => HC.shutR (V := fun v c => Vec 81 3 ec v M2.ev c) (wevents_calls G M2 L hW (by omega))
          repeat' (first | refine uN ?_ | refine uC (kb) ?_ | (refine uB ?_; intro b) | (refine uP ?_ ?_ <;> (intro h; ((try simp only [zs, ne_eq, and_true, true_and, eq_self, reduceCtorEq] at h); try exact zx))) | fail)
          refine gc (kev G1 _ hW1) ?_
          rintro v L' ⟨c12, hv12, rfl⟩
          obtain ⟨a12, cap12, rfl, hcap12, hR12⟩ := hv12.rd ec_len
          repeat' (first | refine uN ?_ | refine uC (kb) ?_ | (refine uB ?_; intro b) | (refine uP ?_ ?_ <;> (intro h; ((try simp only [zs, ne_eq, and_true, true_and, eq_self, reduceCtorEq] at h); try exact zx))) | fail)
          have kj := jcheck_calls T E a12 cap12 (M2.ev.map toEv) w.length (c12 :: wdC G1 M2 :: o1 :: L) ((((hE.er [2, 8, 9]).cons _).cons _).cons _) (rd_ev (hR12 _)) (by rw [List.length_map]; omega) (by rw [List.length_map]; exact hcap12)
          rw [List.length_map, hef] at kj
          refine gc kj ?_
          rintro v L' ⟨c, hfv, rfl⟩
          obtain ⟨rfl, rfl⟩ := hfv.zero
          repeat' (first | refine uN ?_ | refine uC (kb) ?_ | (refine uB ?_; intro b) | (refine uP ?_ ?_ <;> (intro h; ((try simp only [zs, ne_eq, and_true, true_and, eq_self, reduceCtorEq] at h); try exact zx))) | fail)
          refine fo 2 ?_
          refine gc (kev G1 _ hW1) ?_
          rintro v L' ⟨c13, hv13, rfl⟩
          obtain ⟨a13, cap13, rfl, hcap13, hR13⟩ := hv13.rd ec_len
          repeat' (first | refine uN ?_ | refine uC (kb) ?_ | (refine uB ?_; intro b) | (refine uP ?_ ?_ <;> (intro h; ((try simp only [zs, ne_eq, and_true, true_and, eq_self, reduceCtorEq] at h); try exact zx))) | fail)
          refine gc (backEvents_calls a13 cap13 M2.ev _ (hR13 _) (by omega)) ?_
          rintro v L' ⟨c14, hv14, rfl⟩
          obtain ⟨a14, cap14, rfl, hcap14, hR14⟩ := hv14.rd ec_len
          have kef := fun L => eventsFault_calls a14 cap14 (M2.ev.map toEv) w.length (c14 :: L) (rd_ev (hR14 _)) (by rw [List.length_map]; omega)
          rw [List.length_map, hef] at kef
          simp only at kef
          repeat' (first | refine uN ?_ | refine uC (kb) ?_ | refine uC (kef _) ?_ | (refine uB ?_; intro b) | (refine uP ?_ ?_ <;> (intro h; ((try simp only [zs, ne_eq, and_true, true_and, eq_self, reduceCtorEq] at h); try exact zx))) | fail)
          refine g_q (q_field S) ?_
          repeat' (first | refine uN ?_ | refine uC (kb) ?_ | refine uC (kef _) ?_ | (refine uB ?_; intro b) | (refine uP ?_ ?_ <;> (intro h; ((try simp only [zs, ne_eq, and_true, true_and, eq_self, reduceCtorEq] at h); try exact zx))) | fail)
          refine sp1 (L' := L) ?_ ⟨rfl, rfl⟩
          repeat (first | exact LS.refl _ | refine LS.c ?_)
  · refine Za (fun _ _ => Tryz.call8 _ _) Tryz.func8 rfl Tryz.ntmps8 (Nat.le_of_ble_eq_true rfl) ?_; simp only [args0, Nat.reduceAdd]
    repeat' (first | refine uN ?_ | refine uC (kb) ?_ | (refine uB ?_; intro b) | (refine uP ?_ ?_ <;> (intro h; ((try simp only [zs, ne_eq, and_true, true_and, eq_self, reduceCtorEq] at h); try exact zx))) | fail)
    all_goals exact sp1 (LS.refl _) ⟨rfl, rfl⟩
end Go.HL
end
