/- Texts laid into one, without what the claim does not use. Conditions: none. -/
import Derived.Test.YtkookaogdkdegacGreatDoorMCoD
/-! SfE -/
section
namespace Go.HL
open Go Go.Proofs
set_option linter.unusedVariables false
set_option linter.unusedSimpArgs false
def SafeW (M : Wm) : Prop := ∀ d, d < 6 → ∃ g, SD M d g
theorem hear_dl {x : Ld} {f : Fr} : ∀ y ∈ (hearM x f).2, y.dl = x.deal := by
  have hall : ∀ (m : Ld) (k p : Int), m.deal = x.deal → ∀ y ∈ allM m k p, y.dl = x.deal := fun m k p h y hy => by
    obtain ⟨i, -, rfl, -⟩ := allM_mem hy
    exact h
  have e1 : (m1M x f).deal = x.deal := by unfold m1M; split <;> rfl
  have e2 : (m2M x f).deal = x.deal := by unfold m2M; exact e1
  unfold hearM
  split
  · intro y hy; cases hy
  split
  · unfold noM
    split
    · exact hall _ _ _ e1
    · intro y hy; cases hy
  · unfold countM
    split
    · exact hall _ _ _ e2
    split
    · intro y hy; cases hy
    split
    · exact hall _ _ _ e2
    split
    · exact hall _ _ _ e2
    · exact hall _ _ _ e2
theorem hears_dl {w : List Int} {s d : Nat} (hs : s < w.length) (hw : w.length ≤ 7) (hd : d < 6) : ∀ (l : List Fr) (x : Ld) (acc : List Fr), LdI w s d x → (∀ f ∈ l, okF w.length f) → (∀ f ∈ acc, f.dl = d) → ∀ y ∈ (l.foldl (fun q f => ((hearM q.1 f).1, q.2 ++ (hearM q.1 f).2)) (x, acc)).2, y.dl = d
  | [], x, acc, hx, _, ha => ha
  | f :: l, x, acc, hx, hl, ha => by
    rw [List.foldl_cons]
    refine hears_dl hs hw hd l _ _ (hx.hear hs hw hd (hl f (by simp)).1).1 (fun g hg => hl g (by simp [hg])) fun y hy => ?_
    rcases List.mem_append.1 hy with hy | hy
    · exact ha y hy
    · rw [hear_dl y hy, hx.deal]
/-- a lead hears some frames -/
theorem hears_safe {w : List Int} (hc : checkW w = none) {s d : Nat} (hs : s < w.length) (hd : d < 6) : ∀ (l : List Fr) (x : Ld) (acc : List Fr) (v : Vd) (g : Gh), SInv w v g → v.ld s = some x → LdI w s d x → (∀ f ∈ l, frOk w v g f ∧ okF w.length f) → (∀ y ∈ acc, v.fr y) → (∀ y, v.fr y → 0 ≤ y.fr ∧ y.fr < w.length) →
    ∃ v' g', v'.st = v.st ∧ GLe w v v' g g' ∧ SInv w v' g' ∧ v'.ld = upd v.ld s (some (l.foldl (fun q f => ((hearM q.1 f).1, q.2 ++ (hearM q.1 f).2)) (x, acc)).1) ∧ (∀ y ∈ (l.foldl (fun q f => ((hearM q.1 f).1, q.2 ++ (hearM q.1 f).2)) (x, acc)).2, v'.fr y) ∧ ∀ y, v.fr y → v'.fr y
  | [], x, acc, v, g, h, hx, hi, _, ha, hb => ⟨v, g, rfl, .refl w v g, h, by
      funext t
      unfold upd
      split
      · rename_i e; rw [e]; exact hx
      · rfl, ha, fun y hy => hy⟩
  | f :: l, x, acc, v, g, h, hx, hi, hl, ha, hb => by
    have hwl := (check_none hc).2.1
    obtain ⟨g1, hle, h1⟩ := hear_safe hc h hs hx hi (hl f (by simp)).1 hb
    obtain ⟨k1, k2⟩ := hi.hear hs hwl hd (hl f (by simp)).2.1
    have hb1 : ∀ y, (hearV v s (hearM x f)).fr y → 0 ≤ y.fr ∧ y.fr < w.length := fun y hy => by
      rcases hy with hy | hy
      · exact hb y hy
      · obtain ⟨q1, q2, q3⟩ := k2 y hy
        unfold badF at q1
        omega
    obtain ⟨v', g', e1, e2, e3, e4, e5, e6⟩ := hears_safe hc hs hd l (hearM x f).1 (acc ++ (hearM x f).2) (hearV v s (hearM x f)) g1 h1 (by show upd _ _ _ _ = _; rw [upd_at]) k1
      (fun q hq => ⟨frOk_mono hle (by
        obtain ⟨q1, q2, q3⟩ := (hl q (by simp [hq])).2
        unfold badF at q1
        omega) (hl q (by simp [hq])).1, (hl q (by simp [hq])).2⟩) (fun y hy => by
        rcases List.mem_append.1 hy with hy | hy
        · exact .inl (ha y hy)
        · exact .inr hy) hb1
    rw [List.foldl_cons]
    refine ⟨v', g', e1, ⟨fun a p e => e2.prep a p (hle.prep a p e), fun t a e => e2.acc t a (hle.acc t a e), fun t e => e2.ref t (hle.ref t e), fun t ht => ?_, fun t ht a b => ?_, fun t a ht b c => ?_⟩, e3, ?_, e5, fun y hy => e6 y (.inl hy)⟩
    · have := hle.st t ht
      have h2 := e2.st t ht
      exact ⟨by omega, fun h0 => h2.2 (this.2 h0)⟩
    · exact e2.nref t ht ((hle.st t ht).2 a) (hle.nref t ht a b)
    · exact e2.nacc t a ht (by have := (hle.st t ht).1; omega) (hle.nacc t a ht b c)
    · rw [e4]
      funext t
      unfold upd
      split
      · rfl
      · rename_i e
        show upd v.ld s _ t = v.ld t
        exact upd_ne e
theorem SafeW.of {M M' : Wm} (h : SafeW M) (hI' : WI M') (hw : M'.w = M.w) (hst : ∀ (d s : Nat), plSt (ndAt M' (s : Int)).pl d = plSt (ndAt M (s : Int)).pl d)
    (hld : ∀ d s : Nat, (ndAt M' (s : Int)).leads.getD d none = (ndAt M (s : Int)).leads.getD d none ∨ (ndAt M' (s : Int)).leads.getD d none = none) (hl : ∀ f ∈ M'.l, f ∈ M.l)
    (hev : ∀ e ∈ M'.ev, e ∈ M.ev ∨ (∃ s d : Nat, s < M.w.length ∧ e.deal = d ∧ e.ph = (plSt (ndAt M (s : Int)).pl d).ph ∧ fin e.ph)) : SafeW M' := fun d hd => by
  obtain ⟨g, hg⟩ := h d hd
  exact ⟨g, SD_of hI' hg hw (hst d) (hld d) (fun f hf _ => .inl (hl f hf)) fun e he => (hev e he).imp id fun ⟨s, d2, h1, h2, h3, h4⟩ hed => ⟨s, h1, by
    have : d2 = d := by omega
    rw [← this]; exact h3, h4⟩⟩
theorem safe_erase {M : Wm} (hI : WI M) (h : SafeW M) (k : Nat) : SafeW { M with l := M.l.eraseIdx k } :=
  h.of (hI.erase k) rfl (fun _ _ => rfl) (fun _ _ => .inl rfl) (fun f hf => List.mem_of_mem_eraseIdx hf) fun e he => .inl he
theorem safe_drop {M : Wm} (hI : WI M) (h : SafeW M) (k : Int) : SafeW (dropW M k).1 := by
  unfold dropW
  split
  · exact h
  · exact safe_erase hI h _
theorem safe_twice {M : Wm} (hI : WI M) (h : SafeW M) (k : Int) : SafeW (twiceW M k).1 := by
  have hI' := (twice_ok hI k).wi
  unfold twiceW at hI' ⊢
  split
  · exact h
  rename_i hk
  rw [hk] at hI'
  have hkk : 0 ≤ k ∧ k < M.l.length := by
    unfold wat at hk
    split at hk
    · cases hk
    · omega
  refine h.of hI' rfl (fun _ _ => rfl) (fun _ _ => .inl rfl) (fun f hf => ?_) fun e he => .inl he
  rcases List.mem_append.1 hf with hf | hf
  · exact List.mem_of_mem_take hf
  · rcases List.mem_cons.1 hf with hf | hf
    · rw [hf, List.getD, List.getElem?_eq_getElem (show k.toNat < M.l.length by omega)]
      exact List.getElem_mem _
    · exact List.mem_of_mem_drop hf
theorem safe_link {M : Wm} (hI : WI M) (h : SafeW M) (a b : Int) (c : Bool) : SafeW (linkW M a b c).1 := by
  have hI' := (link_ok hI a b c).wi
  unfold linkW at hI' ⊢
  split
  · exact h
  · rename_i hk
    rw [if_neg hk] at hI'
    exact h.of hI' rfl (fun _ _ => rfl) (fun _ _ => .inl rfl) (fun f hf => hf) fun e he => .inl he
/-- one node is changed, not what its plate holds -/
theorem safe_node {M : Wm} (hI : WI M) (h : SafeW M) {s : Int} (h0 : 0 ≤ s) (h1 : s < M.n.length) {m : Nd} {ev : List Evt} (hI' : WI { setN M s m with ev := ev }) (hb : m.pl.b = (ndAt M s).pl.b) (hld : m.leads = (ndAt M s).leads ∨ m.leads = noLeads)
    (hev : ∀ e ∈ ev, e ∈ M.ev ∨ ∃ d : Nat, e.deal = d ∧ e.ph = (plSt (ndAt M s).pl d).ph ∧ fin e.ph) : SafeW { setN M s m with ev := ev } := by
  have hn := hI.wn
  refine h.of hI' rfl (fun d t => ?_) (fun d t => ?_) (fun f hf => hf) fun e he => (hev e he).imp id fun ⟨d, e1, e2, e3⟩ => ⟨s.toNat, d, by omega, e1, by rw [show ((s.toNat : Nat) : Int) = s by omega]; exact e2, e3⟩
  · show plSt (ndAt (setN M s m) (t : Int)).pl d = _
    rw [Ze h0 h1]
    split
    · rename_i e
      rw [e]
      unfold plSt
      rw [hb]
    · rfl
  · show (ndAt (setN M s m) (t : Int)).leads.getD d none = _ ∨ _
    rw [show ndAt { setN M s m with ev := ev } (t : Int) = ndAt (setN M s m) (t : Int) from rfl, Ze h0 h1]
    split
    · rename_i e
      rw [e]
      rcases hld with e2 | e2
      · rw [e2]; exact .inl rfl
      · rw [e2]; exact .inr (noLeads_getD d)
    · exact .inl rfl
theorem safe_refuse {M : Wm} (hI : WI M) (h : SafeW M) (s d : Int) : SafeW (refuseW M s d).1 := by
  have hI' := (refuse_ok hI s d).wi
  unfold refuseW at hI' ⊢
  split
  · exact h
  rename_i hd
  rw [if_neg hd] at hI'
  split
  · exact h
  rename_i hu
  rw [hu] at hI'
  obtain ⟨h0, h1, -⟩ := up_site hu
  exact safe_node hI h h0 h1 (ev := M.ev) hI' (by unfold refuseN; split <;> rfl) (.inl (by unfold refuseN; split <;> rfl)) fun e he => .inl he
theorem safe_cut {M : Wm} (hI : WI M) (h : SafeW M) (s n : Int) (hn : n ≤ 9223372036854775807) : SafeW (cutW M s n).1 := by
  have hI' := (cut_ok hI s n hn).wi
  unfold cutW at hI' ⊢
  split
  · exact h
  rename_i hd
  rw [if_neg hd] at hI'
  split
  · exact h
  rename_i hu
  rw [hu] at hI'
  obtain ⟨h0, h1, -⟩ := up_site hu
  exact safe_node hI h h0 h1 (ev := M.ev) hI' rfl (.inl rfl) fun e he => .inl he
theorem safe_down {M : Wm} (hI : WI M) (h : SafeW M) (s : Int) : SafeW (downW M s).1 := by
  have hI' := (down_ok hI s).wi
  unfold downW at hI' ⊢
  split
  · exact h
  rename_i hu
  rw [hu] at hI'
  obtain ⟨h0, h1, -⟩ := up_site hu
  exact safe_node hI h h0 h1 (ev := M.ev) hI' rfl (.inr rfl) fun e he => .inl he
theorem safe_up {M : Wm} (hI : WI M) (h : SafeW M) (s : Int) : SafeW (upW M s).1 := by
  have hI' := (up_ok hI s).wi
  unfold upW at hI' ⊢
  split
  · exact h
  rename_i hu
  rw [hu] at hI'
  split
  · exact h
  rename_i hx
  rw [if_neg hx] at hI'
  obtain ⟨h0, h1⟩ := nodeE_none hu
  refine safe_node hI h h0 h1 hI' rfl (.inl rfl) fun e he => ?_
  rcases noteN_mem he with he | ⟨j, ref, d, e1, e2, e3, e4⟩
  · exact .inl he
  · refine .inr ⟨d, by rw [e3], ?_, by rw [e3]; exact e4⟩
    rw [e3]
    simp only [bootN, Option.some.injEq, Prod.mk.injEq] at e1
    rw [← e1.1]
    rfl
theorem startM_dl {m : Ld} : ∀ y ∈ startM m, y.dl = m.deal ∧ (y.kd = 1 ∨ y.kd = 3) := fun y hy => by
  unfold startM at hy
  split at hy
  · obtain ⟨i, -, rfl, -⟩ := allM_mem hy
    exact ⟨rfl, .inl rfl⟩
  · obtain ⟨i, -, rfl, -⟩ := allM_mem hy
    exact ⟨rfl, .inr rfl⟩
theorem getD_set_ne {l : List (Option Ld)} {i k : Nat} {o : Option Ld} (h : i ≠ k) : (l.set k o).getD i none = l.getD i none := by
  simp only [List.getD, List.getElem?_set]
  rw [if_neg (fun e => h e.symm)]
theorem getD_set_eq {l : List (Option Ld)} {k : Nat} {o : Option Ld} (h : k < l.length) : (l.set k o).getD k none = o := by
  simp only [List.getD, List.getElem?_set]
  simp [h]
theorem safe_begin {M : Wm} (hI : WI M) (h : SafeW M) (s d0 : Int) : SafeW (beginW M s d0).1 := by
  have hI' := (begin_ok hI s d0).wi
  have hn := hI.wn
  unfold beginW at hI' ⊢
  split
  · exact h
  rename_i hb
  rw [if_neg hb] at hI'
  split
  · exact h
  rename_i hu
  rw [hu] at hI'
  simp only at hI'
  split
  · exact h
  rename_i hbu
  rw [if_neg hbu] at hI'
  intro d hd
  obtain ⟨g, hg⟩ := h d hd
  have h0 : 0 ≤ s := by omega
  have h1 : s < M.n.length := by omega
  have hnd : ∀ t : Nat, ndAt { setN M s { ndAt M s with leads := (ndAt M s).leads.set d0.toNat (some (newLd s d0 M.w 0 2)) } with l := M.l ++ startM (newLd s d0 M.w 0 2) } (t : Int) = if (t : Int) = s then { ndAt M s with leads := (ndAt M s).leads.set d0.toNat (some (newLd s d0 M.w 0 2)) } else ndAt M (t : Int) := fun t => Ze h0 h1 t
  have hst : ∀ t : Nat, plSt (ndAt { setN M s { ndAt M s with leads := (ndAt M s).leads.set d0.toNat (some (newLd s d0 M.w 0 2)) } with l := M.l ++ startM (newLd s d0 M.w 0 2) } (t : Int)).pl d = plSt (ndAt M (t : Int)).pl d := fun t => by
    rw [hnd]
    split
    · rename_i e; rw [e]
    · rfl
  have hni := hI.at h0 h1
  by_cases hdd : (d : Int) = d0
  · refine ⟨g, ?_, hg.ev⟩
    have hadd := inv_add hg.inv (s := s.toNat) (by omega) (y := newLd s d0 M.w 0 2) ⟨fun _ => ⟨rfl, fun i _ hbt => absurd hbt bit_zero⟩, fun e => by simp [newLd] at e, fun e => by simp [newLd] at e, .inr (.inl rfl)⟩ (fr_bound hI) (l := startM (newLd s d0 M.w 0 2)) (fun f hf => by
      have := hI'.fr f (List.mem_append_right _ hf)
      obtain ⟨q1, q2, q3⟩ := this
      have q3' : f.fr < M.w.length := q3
      unfold badF at q1
      omega) (fun f hf => frOk_ask (startM_dl f hf).2)
    refine inv_of hadd (funext hst) (fun t x ht hx => ?_) (fr_bound hI') (fun f hf => ?_)
    · refine hadd.lead t x ht ?_
      have hx' : (ndAt { setN M s { ndAt M s with leads := (ndAt M s).leads.set d0.toNat (some (newLd s d0 M.w 0 2)) } with l := M.l ++ startM (newLd s d0 M.w 0 2) } (t : Int)).leads.getD d none = some x := hx
      rw [hnd] at hx'
      show upd _ _ _ _ = _
      unfold upd
      split at hx'
      · rename_i e
        rw [if_pos (by omega)]
        rw [show d = d0.toNat by omega, getD_set_eq (by rw [hni.leads]; omega)] at hx'
        exact hx'
      · rename_i e
        rw [if_neg (by omega)]
        exact hx'
    · have hf1 : f ∈ M.l ++ startM (newLd s d0 M.w 0 2) := hf.1
      rcases List.mem_append.1 hf1 with hf1 | hf1
      · exact hadd.fr f (.inl ⟨hf1, hf.2⟩)
      · exact hadd.fr f (.inr hf1)
  · refine ⟨g, SD_of hI' hg rfl hst (fun t => .inl ?_) (fun f hf hfd => ?_) fun e he => .inl he⟩
    · rw [hnd]
      split
      · rename_i e
        rw [e]
        exact getD_set_ne (by omega)
      · rfl
    · have hf1 : f ∈ M.l ++ startM (newLd s d0 M.w 0 2) := hf
      rcases List.mem_append.1 hf1 with hf1 | hf1
      · exact .inl hf1
      · have := (startM_dl f hf1).1
        have e : (newLd s d0 M.w 0 2).deal = d0 := rfl
        omega
end Go.HL
end

/-! SfF -/
section
namespace Go.HL
open Go Go.Proofs
set_option linter.unusedVariables false
set_option linter.unusedSimpArgs false
theorem ok_bound {n : Nat} {f : Fr} (h : okF n f) : 0 ≤ f.fr ∧ f.fr < n := by
  obtain ⟨q1, q2, q3⟩ := h
  unfold badF at q1
  omega
theorem safe_deliver {M : Wm} (hI : WI M) (h : SafeW M) (k : Int) : SafeW (deliverW M k).1 := by
  have hI' := (deliver_ok hI k).wi
  have hn := hI.wn
  have hw := hI.wl
  unfold deliverW at hI' ⊢
  split
  · exact h
  rename_i hk
  rw [hk] at hI'
  obtain ⟨⟨hbad, hto, hfr⟩, hk0, hk1⟩ := frame_at hI hk
  have hmem : M.l.getD k.toNat zeroF ∈ M.l := by
    rw [List.getD, List.getElem?_eq_getElem (show k.toNat < M.l.length by omega)]
    exact List.getElem_mem _
  generalize M.l.getD k.toNat zeroF = f at *
  have hE := hI.erase k.toNat
  have hS := safe_erase hI h k.toNat
  have hb2 := hbad
  unfold badF at hb2
  simp only at hI' ⊢
  split
  · exact hS
  rename_i hup
  rw [if_neg hup] at hI'
  split
  · rename_i hkd
    rw [if_pos hkd] at hI'
    split
    · exact hS
    · rename_i x hx
      rw [hx] at hI'
      have hx' : (ndAt M f.to).leads.getD f.dl.toNat none = some x := hx
      have hni := hI.at (s := f.to) (by omega) (by omega)
      have h6 := hni.leads
      have hLI := hni.ldi f.dl.toNat x (by rw [getD_some (x := none) (by omega), hx'])
      have hnd : ∀ t : Nat, ndAt { setN { M with l := M.l.eraseIdx k.toNat } f.to { ndAt { M with l := M.l.eraseIdx k.toNat } f.to with leads := (ndAt { M with l := M.l.eraseIdx k.toNat } f.to).leads.set f.dl.toNat (some (hearM x f).1) } with l := M.l.eraseIdx k.toNat ++ (hearM x f).2 } (t : Int) = if (t : Int) = f.to then { ndAt M f.to with leads := (ndAt M f.to).leads.set f.dl.toNat (some (hearM x f).1) } else ndAt M (t : Int) := fun t => Ze (M := { M with l := M.l.eraseIdx k.toNat }) (by omega) (by simp only; omega) t
      intro d hd
      obtain ⟨g, hg⟩ := h d hd
      have hst : ∀ t : Nat, plSt (ndAt { setN { M with l := M.l.eraseIdx k.toNat } f.to { ndAt { M with l := M.l.eraseIdx k.toNat } f.to with leads := (ndAt { M with l := M.l.eraseIdx k.toNat } f.to).leads.set f.dl.toNat (some (hearM x f).1) } with l := M.l.eraseIdx k.toNat ++ (hearM x f).2 } (t : Int)).pl d = plSt (ndAt M (t : Int)).pl d := fun t => by
        rw [hnd]
        split
        · rename_i e; rw [e]
        · rfl
      by_cases hdd : f.dl.toNat = d
      · have hxv : (vdW M d).ld f.to.toNat = some x := by
          show (ndAt M ((f.to.toNat : Nat) : Int)).leads.getD d none = some x
          rw [show ((f.to.toNat : Nat) : Int) = f.to by omega, ← hdd]
          exact hx'
        rw [hdd] at hLI
        obtain ⟨g', hle, hinv⟩ := hear_safe hI.w0 hg.inv (s := f.to.toNat) (d := d) (by omega) hxv hLI (hg.inv.fr f ⟨hmem, by omega⟩) (fr_bound hI)
        refine ⟨g', inv_of hinv (funext hst) (fun t y ht hy => hinv.lead t y ht ?_) (fr_bound hI') (fun y hy => ?_), fun e he hed => dec_mono hle (hg.ev e he hed)⟩
        · have hy' : (ndAt { setN { M with l := M.l.eraseIdx k.toNat } f.to { ndAt { M with l := M.l.eraseIdx k.toNat } f.to with leads := (ndAt { M with l := M.l.eraseIdx k.toNat } f.to).leads.set f.dl.toNat (some (hearM x f).1) } with l := M.l.eraseIdx k.toNat ++ (hearM x f).2 } (t : Int)).leads.getD d none = some y := hy
          rw [hnd] at hy'
          show upd _ _ _ _ = _
          unfold upd
          split at hy'
          · rename_i e
            rw [if_pos (by omega)]
            rw [← hdd, getD_set_eq (by rw [h6]; omega)] at hy'
            exact hy'
          · rename_i e
            rw [if_neg (by omega)]
            exact hy'
        · have hy1 : y ∈ M.l.eraseIdx k.toNat ++ (hearM x f).2 := hy.1
          rcases List.mem_append.1 hy1 with hy1 | hy1
          · exact hinv.fr y (.inl ⟨List.mem_of_mem_eraseIdx hy1, hy.2⟩)
          · exact hinv.fr y (.inr hy1)
      · refine ⟨g, SD_of hI' hg rfl hst (fun t => .inl ?_) (fun y hy hyd => ?_) fun e he => .inl he⟩
        · rw [hnd]
          split
          · rename_i e
            rw [e]
            exact getD_set_ne (fun e => hdd e.symm)
          · rfl
        · have hy1 : y ∈ M.l.eraseIdx k.toNat ++ (hearM x f).2 := hy
          rcases List.mem_append.1 hy1 with hy1 | hy1
          · exact .inl (List.mem_of_mem_eraseIdx hy1)
          · have := hear_dl y hy1
            have e := hLI.deal
            omega
  · intro d hd
    obtain ⟨g, hg⟩ := h d hd
    have hg1 : SD { M with l := M.l.eraseIdx k.toNat } d g := SD_of hE hg rfl (fun _ => rfl) (fun _ => .inl rfl) (fun y hy _ => .inl (List.mem_of_mem_eraseIdx hy)) fun e he => .inl he
    obtain ⟨g', -, -, hg'⟩ := hear_SD hE (s := f.to) (f := f) (by omega) (by simp only; omega) hfr hd hg1 (fun hdl => frOk_mono (w := M.w) (v := vdW M d) (v' := vdW { M with l := M.l.eraseIdx k.toNat } d) (gle_st g rfl) (by omega) (hg.inv.fr f ⟨hmem, hdl⟩))
    exact ⟨g', hg'⟩
/-- an answer that is sent was kept -/
theorem site_ok {id : Int} {ref : Int → Bool} {m : Pl} {j : Jn} (h : SI m j) {f : Fr} (he : (siteM id ref m j f).2.2.2 = none) : stAt (siteM id ref m j f).2.1 f.dl.toNat = (turnM ref f (stAt j f.dl.toNat)).1 := by
  unfold siteM at he ⊢
  by_cases hb : badF f
  · simp only [if_pos hb] at he; cases he
  simp only [if_neg hb] at he ⊢
  by_cases hto : f.to = id
  · simp only [ne_eq, hto, not_true_eq_false, if_false] at he ⊢
    have hb2 := hb
    unfold badF at hb2
    obtain ⟨d, hd⟩ := Int.eq_ofNat_of_zero_le (show 0 ≤ f.dl by omega)
    have hd6 : d < 6 := by omega
    rw [hd] at he ⊢
    simp only [Int.toNat_natCast] at he ⊢
    have est : stAt j d = (j.l.getD d zeroE).s := rfl
    rw [est]
    generalize htr : turnM ref f (j.l.getD d zeroE).s = tr at *
    have hp := put_any h.ji d tr.1
    generalize putM m j d tr.1 = r at *
    obtain ⟨m', j', er⟩ := r
    simp only at hp he ⊢
    obtain ⟨hJ, hL, hp⟩ := hp
    rcases hp with ⟨hl, he2⟩ | ⟨hnb, he2, ho, ho', hp⟩
    · have he3 : ∃ x, er = some x := by
        rcases he2 with ⟨he2, -⟩ | ⟨he2, -⟩ | ⟨he2, -⟩ <;> exact ⟨_, he2⟩
      obtain ⟨x, rfl⟩ := he3
      simp only at he
      cases he
    · subst he2
      simp only [Int.toNat_natCast] at hp
      have hlen : j.l.length = 6 := h.ji.jn.len
      rcases hp with ⟨h1, h2, -⟩ | ⟨h1, h2⟩
      · unfold stAt; simp only; rw [h2, h1]
      · unfold stAt; simp only; rw [h2]; simp [List.getD, hlen, hd6]
  · simp only [ne_eq, hto, not_false_eq_true, if_true] at he
    cases he
theorem hearW_turn {M : Wm} (hI : WI M) {s : Int} (h0 : 0 ≤ s) (h1 : s < M.n.length) {f : Fr} (h : (hearW M s f).2.2 = true) : ∃ ref, plSt (ndAt (hearW M s f).1 s).pl f.dl.toNat = (turnM ref f (plSt (ndAt M s).pl f.dl.toNat)).1 := by
  have e : ndAt (hearW M s f).1 s = (hearNd s (ndAt M s) M.ev f).1 := by
    unfold hearW
    exact ndAt_set h0 h1
  have hni := hI.at h0 h1
  unfold hearW at h
  simp only at h
  rw [e]
  unfold hearNd at h ⊢
  cases hs : (ndAt M s).site with
  | none => rw [hs] at h; cases h
  | some q =>
    obtain ⟨j, ref⟩ := q
    rw [hs] at h
    simp only at h ⊢
    have hS := hni.jn hs
    have hany := site_any (id := s) (ref := ref) hS f
    refine ⟨ref, ?_⟩
    split
    · rename_i hoff
      rw [if_pos hoff] at h; cases h
    · rename_i hoff
      rw [if_neg hoff] at h
      simp only [Option.isNone_iff_eq_none] at h
      have := site_ok hS h
      have e2 : ∀ q, stAt j q = plSt (ndAt M s).pl q := fun q => st_eq hni hs q
      rw [e2] at this
      rw [← this]
      have hl : (siteM s ref (ndAt M s).pl j f).2.1.l = openM (siteM s ref (ndAt M s).pl j f).1.b := hany.1.ji.l
      unfold stAt plSt
      simp only
      rw [hl]
      rfl
theorem tryAtt_mod {k s a : Int} (hk : 0 < k) (hs0 : 0 ≤ s) (hs1 : s < k) : tryAtt k s a % k = s := by
  unfold tryAtt
  rw [Int.add_emod, Int.emod_emod_of_dvd _ (Int.dvd_refl k), ← Int.add_emod]
  rw [show a + (s - a) = s by omega]
  exact Int.emod_eq_of_lt hs0 hs1
theorem safe_try {M : Wm} (hI : WI M) (h : SafeW M) {s p : Int} {d0 : Nat} (h0 : 0 ≤ s) (h1 : s < M.n.length) (hs : (ndAt M s).site ≠ none) (hd0 : d0 < 6) (hp : 0 ≤ p ∧ p ≤ 1048576) (hpp : (plSt (ndAt M s).pl d0).pr ≤ p) : SafeW (tryW M s d0 p).1 := by
  have hI' := (try_ok hI h0 h1 hs (d := d0) (p := p) (by omega) hp).wi
  have hn := hI.wn
  have hw := hI.wl
  have hw1 := hI.w1
  have hab := tryAbove_ok (hI.at h0 h1) (d := d0) (p := p) (by omega) hp
  have hge : p ≤ tryAbove (ndAt M s) d0 p := by
    unfold tryAbove
    split
    · exact Int.le_refl _
    · exact Int.le_max_left _ _
  unfold tryW at hI' ⊢
  simp only at hI' ⊢
  have hmod := tryAtt_mod (k := M.w.length) (s := s) (a := tryAbove (ndAt M s) d0 p + 1) (by omega) h0 (by omega)
  generalize ha : tryAtt M.w.length s (tryAbove (ndAt M s) d0 p + 1) = a at *
  have ha1 : tryAbove (ndAt M s) d0 p + 1 ≤ a := by
    unfold tryAtt at ha
    have := Int.emod_nonneg (s - (tryAbove (ndAt M s) d0 p + 1)) (by omega : (M.w.length : Int) ≠ 0)
    omega
  split
  · exact h
  rename_i hle
  rw [if_neg hle] at hI'
  have hfa : (tryF s d0 a).fr < M.w.length := by show s < _; omega
  obtain ⟨hI2, hans⟩ := hI.hear (f := tryF s d0 a) h0 h1 hfa
  have hM2 : ∀ d, d < 6 → ∃ g g', g'.prep = g.prep ∧ SD M d g ∧ SD { (hearW M s (tryF s d0 a)).1 with l := M.l ++ (hearW M s (tryF s d0 a)).2.1 } d g' := fun d hd => by
    obtain ⟨g, hg⟩ := h d hd
    obtain ⟨g', e1, -, hg'⟩ := hear_SD hI (f := tryF s d0 a) h0 h1 hfa hd hg (fun _ => frOk_ask (.inr rfl))
    exact ⟨g, g', e1, hg, hg'⟩
  have hone := hearW_one M s (tryF s d0 a)
  have hturn := hearW_turn hI (f := tryF s d0 a) h0 h1
  have hSm := same_hear M s (tryF s d0 a)
  have hll := hearW_l M s (tryF s d0 a)
  generalize hR : hearW M s (tryF s d0 a) = R at *
  have hI3 : WI { R.1 with l := M.l ++ R.2.1 } := hI2.setL fun x hx => by
    rw [hSm.w]
    rcases List.mem_append.1 hx with hx | hx
    · exact hI.fr x hx
    · exact hans x hx
  split
  · rename_i hr
    intro d hd
    obtain ⟨g, g', -, -, hg'⟩ := hM2 d hd
    exact ⟨g', SD_of hI2 hg' rfl (fun _ => rfl) (fun _ => .inl rfl) (fun f hf _ => .inl (List.mem_append_left _ (by rw [← hll]; exact hf))) fun e he => .inl he⟩
  rename_i hr
  rw [if_neg hr] at hI'
  have hr' : R.2.2 = true := by simpa using hr
  have h1' : s < R.1.n.length := by rw [hSm.n]; exact h1
  have hni := hI2.at h0 h1'
  have hnd : ∀ t : Nat, ndAt { setN R.1 s { ndAt R.1 s with leads := (ndAt R.1 s).leads.set (d0 : Int).toNat (some (hearsM (newLd s d0 M.w a 4) R.2.1).1) } with l := R.1.l ++ startM (newLd s d0 M.w a 4) ++ (hearsM (newLd s d0 M.w a 4) R.2.1).2 } (t : Int) = if (t : Int) = s then { ndAt R.1 s with leads := (ndAt R.1 s).leads.set (d0 : Int).toNat (some (hearsM (newLd s d0 M.w a 4) R.2.1).1) } else ndAt R.1 (t : Int) := fun t => Ze h0 h1' t
  simp only [Int.toNat_natCast] at hnd hI' hturn ⊢
  have hst : ∀ d t : Nat, plSt (ndAt { setN R.1 s { ndAt R.1 s with leads := (ndAt R.1 s).leads.set d0 (some (hearsM (newLd s d0 M.w a 4) R.2.1).1) } with l := R.1.l ++ startM (newLd s d0 M.w a 4) ++ (hearsM (newLd s d0 M.w a 4) R.2.1).2 } (t : Int)).pl d = plSt (ndAt R.1 (t : Int)).pl d := fun d t => by
    rw [hnd]
    split
    · rename_i e; rw [e]
    · rfl
  have hNI : LdI M.w s.toNat d0 (newLd s d0 M.w a 4) := by
    have := newLd_I (w := M.w) (s := s.toNat) (d := d0) (a := a) (k := 4) (by omega) (by omega)
    rw [show ((s.toNat : Nat) : Int) = s by omega] at this
    exact this
  have hdls := hears_dl (w := M.w) (s := s.toNat) (d := d0) (by omega) hw hd0 R.2.1 (newLd s d0 M.w a 4) [] hNI hans (fun f hf => by cases hf)
  change ∀ y ∈ (hearsM (newLd s d0 M.w a 4) R.2.1).2, y.dl = d0 at hdls
  intro d hd
  obtain ⟨g, g', ep, hg, hg'⟩ := hM2 d hd
  by_cases hdd : d = d0
  · subst hdd
    -- the lead that comes
    have hprep : g'.prep a = none := by
      rw [ep]
      cases hpa : g.prep a with
      | none => rfl
      | some q =>
        have := hg.inv.own a q (by omega) hpa
        rw [hmod] at this
        have e : (vdW M d).st s.toNat = plSt (ndAt M s).pl d := by
          show plSt (ndAt M ((s.toNat : Nat) : Int)).pl d = _
          rw [show ((s.toNat : Nat) : Int) = s by omega]
        rw [e] at this
        omega
    obtain ⟨ref, ht⟩ := hturn hr'
    have hpr : a ≤ ((vdW { R.1 with l := M.l ++ R.2.1 } d).st s.toNat).pr := by
      show a ≤ (plSt (ndAt R.1 ((s.toNat : Nat) : Int)).pl d).pr
      rw [show ((s.toNat : Nat) : Int) = s by omega]
      have e2 : (tryF s d a).dl.toNat = d := by show ((d : Int)).toNat = d; simp
      rw [e2] at ht
      rw [ht]
      have e3 : turnM ref (tryF s d a) (plSt (ndAt M s).pl d) = ({ plSt (ndAt M s).pl d with pr := max (plSt (ndAt M s).pl d).pr a }, 4, decide ((plSt (ndAt M s).pl d).pr < a)) := by
        unfold turnM
        rw [if_neg (show ¬ (tryF s d a).kd = 1 by show ¬ (3 : Int) = 1; omega), if_pos (show (tryF s d a).kd = 3 from rfl)]
        rfl
      rw [e3]
      show a ≤ max _ _
      omega
    have hw' : ({ R.1 with l := M.l ++ R.2.1 } : Wm).w = M.w := hSm.w
    have hadd := inv_add (hw' ▸ hg'.inv) (s := s.toNat) (by omega) (y := newLd s d M.w a 4) ⟨fun e => by simp [newLd] at e, fun _ => ⟨by show 1 ≤ a; omega, by show a % _ = _; rw [hmod]; omega, hprep, hpr, fun i _ hbt => absurd hbt bit_zero⟩, fun e => by simp [newLd] at e, .inr (.inr (.inl rfl))⟩
      (by have := fr_bound hI3 (d := d); rw [hw'] at this; exact this) (l := startM (newLd s d M.w a 4)) (fun f hf => by
        have := hI'.fr f (List.mem_append_left _ (List.mem_append_right _ hf))
        have := ok_bound this
        have e : (({ setN R.1 s { ndAt R.1 s with leads := (ndAt R.1 s).leads.set d (some (hearsM (newLd s d M.w a 4) R.2.1).1) } with l := R.1.l ++ startM (newLd s d M.w a 4) ++ (hearsM (newLd s d M.w a 4) R.2.1).2 } : Wm).w) = M.w := hSm.w
        rw [e] at this
        exact this) (fun f hf => frOk_ask (startM_dl f hf).2)
    have hbadd : ∀ y, ((⟨(vdW { R.1 with l := M.l ++ R.2.1 } d).st, upd (vdW { R.1 with l := M.l ++ R.2.1 } d).ld s.toNat (some (newLd s d M.w a 4)), fun f => (vdW { R.1 with l := M.l ++ R.2.1 } d).fr f ∨ f ∈ startM (newLd s d M.w a 4)⟩ : Vd)).fr y → 0 ≤ y.fr ∧ y.fr < M.w.length := fun y hy => by
      rcases hy with hy | hy
      · have := fr_bound hI3 y hy; rw [hw'] at this; exact this
      · have := hI'.fr y (List.mem_append_left _ (List.mem_append_right _ hy))
        have := ok_bound this
        have e : (({ setN R.1 s { ndAt R.1 s with leads := (ndAt R.1 s).leads.set d (some (hearsM (newLd s d M.w a 4) R.2.1).1) } with l := R.1.l ++ startM (newLd s d M.w a 4) ++ (hearsM (newLd s d M.w a 4) R.2.1).2 } : Wm).w) = M.w := hSm.w
        rw [e] at this
        exact this
    have hansd : ∀ f ∈ R.2.1, f.dl = d := fun f hf => by
      have hf2 : f ∈ (hearW M s (tryF s d a)).2.1 := by rw [hR]; exact hf
      unfold hearW hearNd at hf2
      simp only at hf2
      split at hf2
      · cases hf2
      · rename_i j2 r2 hj2
        split at hf2
        · cases hf2
        · simp only at hf2
          have hS2 := (hI.at h0 h1).jn hj2
          rcases site_step (id := s) (ref := r2) hS2 (tryF s d a) with ⟨-, h3⟩ | ⟨-, -, -, -, h3⟩
          · rw [h3] at hf2; cases hf2
          · obtain ⟨-, h4⟩ := h3 f hf2
            rw [h4]
            rfl
    obtain ⟨v', g2, q1, q2, q3, q4, q5, q6⟩ := hears_safe hI.w0 (s := s.toNat) (d := d) (by omega) hd0 R.2.1 (newLd s d M.w a 4) [] _ g' hadd (by show upd _ _ _ _ = _; rw [upd_at]) hNI (fun f hf => ⟨hadd.fr f (.inl ⟨List.mem_append_right _ hf, hansd f hf⟩), hans f hf⟩) (fun y hy => by cases hy) hbadd
    change v'.ld = upd _ s.toNat (some (hearsM (newLd s d M.w a 4) R.2.1).1) at q4
    change ∀ y ∈ (hearsM (newLd s d M.w a 4) R.2.1).2, v'.fr y at q5
    have eW : (({ setN R.1 s { ndAt R.1 s with leads := (ndAt R.1 s).leads.set d (some (hearsM (newLd s d M.w a 4) R.2.1).1) } with l := R.1.l ++ startM (newLd s d M.w a 4) ++ (hearsM (newLd s d M.w a 4) R.2.1).2 } : Wm).w) = M.w := hSm.w
    refine ⟨g2, ?_, fun e he hed => ?_⟩
    · rw [eW]
      refine inv_of q3 (by rw [q1]; exact funext (hst d)) (fun t y ht hy => q3.lead t y ht ?_) (by have := fr_bound hI' (d := d); rw [eW] at this; exact this) (fun y hy => q3.fr y ?_)
      · have hy' : (ndAt { setN R.1 s { ndAt R.1 s with leads := (ndAt R.1 s).leads.set d (some (hearsM (newLd s d M.w a 4) R.2.1).1) } with l := R.1.l ++ startM (newLd s d M.w a 4) ++ (hearsM (newLd s d M.w a 4) R.2.1).2 } (t : Int)).leads.getD d none = some y := hy
        rw [hnd] at hy'
        rw [q4]
        split at hy'
        · rename_i e
          rw [show t = s.toNat by omega, upd_at]
          rw [getD_set_eq (by rw [hni.leads]; exact hd)] at hy'
          exact hy'
        · rename_i e
          rw [upd_ne (by omega)]
          show upd _ _ _ _ = _
          rw [upd_ne (by omega)]
          exact hy'
      · have hy1 : y ∈ R.1.l ++ startM (newLd s d M.w a 4) ++ (hearsM (newLd s d M.w a 4) R.2.1).2 := hy.1
        rcases List.mem_append.1 hy1 with hy1 | hy1
        · rcases List.mem_append.1 hy1 with hy1 | hy1
          · exact q6 y (.inl ⟨List.mem_append_left _ (by rw [← hll]; exact hy1), hy.2⟩)
          · exact q6 y (.inr hy1)
        · exact q5 y hy1
    · rw [eW]
      have := hg'.ev e he hed
      have e2 : ({ R.1 with l := M.l ++ R.2.1 } : Wm).w = M.w := hSm.w
      rw [e2] at this
      exact dec_mono q2 this
  · refine ⟨g', SD_of hI' hg' rfl (hst d) (fun t => .inl ?_) (fun f hf hfd => ?_) fun e he => .inl he⟩
    · rw [hnd]
      split
      · rename_i e
        show ((ndAt R.1 s).leads.set d0 _).getD d none = (ndAt R.1 (t : Int)).leads.getD d none
        rw [e]
        exact getD_set_ne hdd
      · rfl
    · have hf1 : f ∈ R.1.l ++ startM (newLd s d0 M.w a 4) ++ (hearsM (newLd s d0 M.w a 4) R.2.1).2 := hf
      rcases List.mem_append.1 hf1 with hf1 | hf1
      · rcases List.mem_append.1 hf1 with hf1 | hf1
        · exact .inl (List.mem_append_left _ (by rw [← hll]; exact hf1))
        · have := (startM_dl f hf1).1
          have e : (newLd s d0 M.w a 4).deal = d0 := rfl
          omega
      · have := hdls f hf1
        omega
end Go.HL
end

/-! SfG -/
section
namespace Go.HL
open Go Go.Proofs
set_option linter.unusedVariables false
set_option linter.unusedSimpArgs false
theorem safe_tickD {M : Wm} {q : Wm × Bool} {s : Int} {k d : Nat} (hT : TickOk M q s k) (h : SafeW q.1) (h0 : 0 ≤ s) (h1 : s < M.n.length) (hd : d < 6) : SafeW (tickD s q d).1 := by
  have hT' := (tickD_ok hT h0 h1 hd).wi
  obtain ⟨M1, b⟩ := q
  have hn := hT.same.n
  simp only at hn h
  unfold tickD at hT' ⊢
  split
  · exact h
  rename_i hb
  rw [if_neg hb] at hT'
  split
  · exact h
  rename_i _ j ref hs
  rw [hs] at hT'
  simp only at hT'
  have hs' : (ndAt M1 s).site = some (j, ref) := hs
  have hni := hT.wi.at (s := s) h0 (by simp only; omega)
  have ej := st_eq hni hs' d
  have hS := (hni.jn hs').st d hd
  split
  · exact h
  rename_i hz
  rw [if_neg hz] at hT'
  split
  · rename_i hf
    rw [if_pos hf] at hT'
    intro d2 hd2
    obtain ⟨g, hg⟩ := h d2 hd2
    refine ⟨g, SD_of hT' hg rfl (fun _ => rfl) (fun _ => .inl rfl) (fun f hf2 hfd => ?_) fun e he => .inl he⟩
    have hf3 : f ∈ M1.l ++ decideF M1 s d (stAt j d) := hf2
    rcases List.mem_append.1 hf3 with hf3 | hf3
    · exact .inl hf3
    · unfold decideF at hf3
      obtain ⟨i, hi, rfl⟩ := List.mem_map.1 hf3
      have hdd : d = d2 := by simp only at hfd; omega
      subst hdd
      refine .inr (frOk_dec rfl ?_)
      have hsn : s.toNat < M1.w.length := by have := hT.wi.wn; simp only at this; omega
      have := (hg.inv.site s.toNat hsn).fi
      have e2 : (vdW M1 d).st s.toNat = stAt j d := by
        show plSt (ndAt M1 ((s.toNat : Nat) : Int)).pl d = _
        rw [show ((s.toNat : Nat) : Int) = s by omega, ej]
      rw [e2] at this
      exact this hf
  · obtain ⟨g1, g2, g3, g4, g5⟩ := hS
    exact safe_try hT.wi h (s := s) h0 (by simp only; omega) (by rw [hs']; simp) hd (by omega) (by rw [← ej]; exact Int.le_refl _)
theorem safe_ticks {M : Wm} (hI : WI M) (h : SafeW M) {s : Int} (h0 : 0 ≤ s) (h1 : s < M.n.length) (hs : (ndAt M s).site ≠ none) : ∀ k, k ≤ 6 → SafeW ((List.range k).foldl (tickD s) (M, true)).1
  | 0, _ => h
  | k + 1, hk => by
    rw [List.range_succ, List.foldl_append]
    exact safe_tickD (ticks_ok hI h0 h1 hs k (by omega)) (safe_ticks hI h h0 h1 hs k (by omega)) h0 h1 (by omega)
theorem safe_tick {M : Wm} (hI : WI M) (h : SafeW M) (s : Int) : SafeW (tickW M s).1 := by
  unfold tickW
  split
  · exact h
  · rename_i hu
    obtain ⟨h0, h1, hs⟩ := up_site hu
    exact safe_ticks hI h h0 h1 hs 6 (by omega)
theorem safe_one {M : Wm} (hI : WI M) (h : SafeW M) (v : Int) : SafeW (oneW M v).1 := by
  unfold oneW
  split
  · exact h
  split
  · exact safe_drop hI h _
  split
  · exact safe_twice hI h _
  split
  · exact safe_begin hI h _ _
  split
  · exact safe_tick hI h _
  split
  · exact safe_refuse hI h _ _
  split
  · exact safe_link hI h _ _ _
  split
  · exact safe_cut hI h _ _ (by omega)
  split
  · exact safe_down hI h _
  split
  · exact safe_up hI h _
  · exact safe_deliver hI h _
theorem plSt_newNd (d : Int) : plSt newNd.pl d = zeroS := by
  unfold plSt newNd
  simp only
  rw [open_zeros (by omega)]
  rw [List.getD, List.getElem?_replicate]
  split <;> rfl
theorem safe_new {w : List Int} (hc : checkW w = none) : SafeW (newW w) := by
  intro d hd
  have hnd : ∀ t : Nat, t < w.length → ndAt (newW w) (t : Int) = newNd := fun t ht => by
    unfold ndAt newW
    simp only [List.getD, List.getElem?_replicate, Int.toNat_natCast]
    rw [if_pos ht]
    rfl
  have hst : ∀ t : Nat, t < w.length → (vdW (newW w) d).st t = zeroS := fun t ht => by
    show plSt (ndAt (newW w) (t : Int)).pl d = zeroS
    rw [hnd t ht, plSt_newNd]
  refine ⟨⟨fun _ => none, fun _ _ => False, fun _ => False⟩, ⟨fun t ht => ?_, fun t x ht hx => ?_, fun f hf => ?_, fun p e => (by cases e), fun a p e => (by cases e), fun a p _ e => (by cases e), fun a e => (by cases e), fun b q e => (by cases e)⟩, fun e he => by cases he⟩
  · have ht' : t < w.length := ht
    refine ⟨by rw [hst t ht']; unfold stOk zeroS; decide, fun hf => ?_, fun hp => ?_, fun a ha => (by cases ha), fun hr => (by cases hr)⟩
    · rw [hst t ht'] at hf; simp [fin, zeroS] at hf
    · rw [hst t ht'] at hp; simp [zeroS] at hp
  · have hx' : (ndAt (newW w) (t : Int)).leads.getD d none = some x := hx
    rw [hnd t ht] at hx'
    have := noLeads_getD d
    rw [show newNd.leads = noLeads from rfl, this] at hx'
    cases hx'
  · have : f ∈ (newW w).l := hf.1
    cases this
/-- what a world has told -/
structure EvW (M : Wm) : Prop where
  pw : M.ev.Pairwise fun a b => ¬ (a.site = b.site ∧ a.deal = b.deal)
  rg : ∀ e ∈ M.ev, 0 ≤ e.site ∧ e.site < M.w.length ∧ 0 ≤ e.deal ∧ e.deal < 6 ∧ fin e.ph
  dn : ∀ e ∈ M.ev, (ndAt M e.site).done.getD e.deal.toNat false = true
theorem EvW.same {M M' : Wm} (h : EvW M) (hw : M'.w = M.w) (he : M'.ev = M.ev) (hd : ∀ s, (ndAt M' s).done = (ndAt M s).done) : EvW M' :=
  ⟨by rw [he]; exact h.pw, fun e h2 => by rw [he] at h2; rw [hw]; exact h.rg e h2, fun e h2 => by rw [he] at h2; rw [hd]; exact h.dn e h2⟩
theorem noteD_ev2 {s : Int} {ph : Nat → Int} {q : List Bool × List Evt} {k : Nat} (hk : k < q.1.length) (h1 : q.2.Pairwise fun a b => ¬ (a.site = b.site ∧ a.deal = b.deal)) (h2 : ∀ e ∈ q.2, e.site = s → 0 ≤ e.deal ∧ q.1.getD e.deal.toNat false = true) :
    (noteD s ph q k).2.Pairwise (fun a b => ¬ (a.site = b.site ∧ a.deal = b.deal)) ∧ (∀ e ∈ (noteD s ph q k).2, e.site = s → 0 ≤ e.deal ∧ (noteD s ph q k).1.getD e.deal.toNat false = true) ∧ (∀ i, q.1.getD i false = true → (noteD s ph q k).1.getD i false = true) := by
  have hset : ∀ i, (q.1.set k true).getD i false = if i = k then true else q.1.getD i false := fun i => by
    simp only [List.getD, List.getElem?_set]
    by_cases e : k = i
    · subst e; simp [hk]
    · rw [if_neg e, if_neg (fun e2 => e e2.symm)]
  unfold noteD
  split
  · exact ⟨h1, h2, fun i hi => hi⟩
  · rename_i hc
    have hf : q.1.getD k false = false := by
      have e : q.1.getD k true ≠ true := fun e => hc (.inl e)
      simp only [List.getD, List.getElem?_eq_getElem hk, Option.getD_some] at e ⊢
      simpa using e
    simp only
    refine ⟨?_, fun e he hes => ?_, fun i hi => by rw [hset]; split <;> simp_all⟩
    · split
      · rw [List.pairwise_append]
        refine ⟨h1, List.pairwise_singleton _ _, fun a ha b hb => ?_⟩
        simp only [List.mem_singleton] at hb
        subst hb
        rintro ⟨e1, e2⟩
        simp only at e1 e2
        have := (h2 a ha e1).2
        rw [e2] at this
        simp only [Int.toNat_natCast] at this
        rw [hf] at this
        cases this
      · exact h1
    · rw [hset]
      split at he
      · rcases List.mem_append.1 he with he | he
        · exact ⟨(h2 e he hes).1, by split; rfl; exact (h2 e he hes).2⟩
        · simp only [List.mem_singleton] at he
          subst he
          exact ⟨by simp, by simp⟩
      · exact ⟨(h2 e he hes).1, by split; rfl; exact (h2 e he hes).2⟩
theorem noteR_ev2 {s : Int} {ph : Nat → Int} {q : List Bool × List Evt} (hq : q.1.length = 6) (h1 : q.2.Pairwise fun a b => ¬ (a.site = b.site ∧ a.deal = b.deal)) (h2 : ∀ e ∈ q.2, e.site = s → 0 ≤ e.deal ∧ q.1.getD e.deal.toNat false = true) : ∀ k, k ≤ 6 →
    (noteR s ph q k).2.Pairwise (fun a b => ¬ (a.site = b.site ∧ a.deal = b.deal)) ∧ (∀ e ∈ (noteR s ph q k).2, e.site = s → 0 ≤ e.deal ∧ (noteR s ph q k).1.getD e.deal.toNat false = true)
  | 0, _ => ⟨h1, h2⟩
  | k + 1, hk => by
    obtain ⟨a1, a2⟩ := noteR_ev2 (ph := ph) hq h1 h2 k (by omega)
    rw [noteR_succ]
    obtain ⟨b1, b2, -⟩ := noteD_ev2 (ph := ph) (k := k) (by rw [noteR_len, hq]; omega) a1 a2
    exact ⟨b1, b2⟩
/-- one node is changed, and its events are noted -/
theorem EvW.note {M : Wm} (h : EvW M) (hI : WI M) {s : Int} (h0 : 0 ≤ s) (h1 : s < M.n.length) {m m' : Nd} (hm : m.done = (ndAt M s).done) (hm' : m'.done = (noteN s m M.ev).1) : EvW { setN M s m' with ev := (noteN s m M.ev).2 } := by
  have hn := hI.wn
  have hd6 : m.done.length = 6 := by rw [hm]; exact (hI.at h0 h1).done
  have hpre : ∀ e ∈ M.ev, e.site = s → 0 ≤ e.deal ∧ m.done.getD e.deal.toNat false = true := fun e he hes => ⟨(h.rg e he).2.2.1, by rw [hm, ← hes]; exact h.dn e he⟩
  have key : (noteN s m M.ev).2.Pairwise (fun a b => ¬ (a.site = b.site ∧ a.deal = b.deal)) ∧ (∀ e ∈ (noteN s m M.ev).2, e.site = s → 0 ≤ e.deal ∧ (noteN s m M.ev).1.getD e.deal.toNat false = true) := by
    unfold noteN
    split
    · exact ⟨h.pw, hpre⟩
    · exact noteR_ev2 hd6 h.pw hpre 6 (Nat.le_refl _)
  have hmem : ∀ e ∈ (noteN s m M.ev).2, e ∈ M.ev ∨ (e.site = s ∧ 0 ≤ e.deal ∧ e.deal < 6 ∧ fin e.ph) := fun e he => by
    rcases noteN_mem he with he | ⟨j, ref, d, -, e2, rfl, e4⟩
    · exact .inl he
    · exact .inr ⟨rfl, by simp, by simp only; omega, e4⟩
  refine ⟨key.1, fun e he => ?_, fun e he => ?_⟩
  · rcases hmem e he with h2 | ⟨e1, e2, e3, e4⟩
    · exact h.rg e h2
    · exact ⟨by omega, by rw [e1]; show s < (M.w.length : Int); omega, e2, e3, e4⟩
  · show (ndAt (setN M s m') e.site).done.getD _ _ = true
    by_cases hes : e.site = s
    · rw [hes, ndAt_set h0 h1, hm']
      exact (key.2 e he hes).2
    · rcases hmem e he with h2 | ⟨e1, -⟩
      · rw [ndAt_set_ne (by have := (h.rg e h2).1; omega)]
        exact h.dn e h2
      · exact absurd e1 hes
theorem EvW.set {M : Wm} (h : EvW M) {s : Int} {m : Nd} (h0 : 0 ≤ s) (h1 : s < M.n.length) (hm : m.done = (ndAt M s).done) : EvW (setN M s m) := by
  refine ⟨h.pw, h.rg, fun e he => ?_⟩
  by_cases hes : e.site = s
  · rw [hes, ndAt_set h0 h1, hm, ← hes]
    exact h.dn e he
  · rw [ndAt_set_ne (by have := (h.rg e he).1; omega)]
    exact h.dn e he
theorem EvW.setL {M : Wm} (h : EvW M) (l : List Fr) : EvW { M with l := l } := ⟨h.pw, h.rg, h.dn⟩
theorem EvW.lead {M : Wm} (h : EvW M) {s : Int} (h0 : 0 ≤ s) (h1 : s < M.n.length) (ls : List (Option Ld)) (l : List Fr) : EvW { setN M s { ndAt M s with leads := ls } with l := l } := (h.set (m := { ndAt M s with leads := ls }) h0 h1 rfl).setL l
theorem EvW.hear {M : Wm} (h : EvW M) (hI : WI M) {s : Int} (h0 : 0 ≤ s) (h1 : s < M.n.length) (f : Fr) : EvW (hearW M s f).1 := by
  unfold hearW
  simp only
  have e : (hearNd s (ndAt M s) M.ev f).2.1 = M.ev ∧ (hearNd s (ndAt M s) M.ev f).1.done = (ndAt M s).done ∨ ∃ m : Nd, m.done = (ndAt M s).done ∧ (hearNd s (ndAt M s) M.ev f).1.done = (noteN s m M.ev).1 ∧ (hearNd s (ndAt M s) M.ev f).2.1 = (noteN s m M.ev).2 := by
    unfold hearNd
    split
    · exact .inl ⟨rfl, rfl⟩
    · rename_i j ref hs
      split
      · exact .inl ⟨rfl, rfl⟩
      · exact .inr ⟨⟨(siteM s ref (ndAt M s).pl j f).1, some ((siteM s ref (ndAt M s).pl j f).2.1, ref), (ndAt M s).leads, (ndAt M s).done⟩, rfl, rfl, rfl⟩
  rcases e with ⟨e1, e2⟩ | ⟨m, e1, e2, e3⟩
  · rw [e1]
    exact h.set h0 h1 e2
  · rw [e3]
    exact h.note hI h0 h1 e1 e2
theorem ev_try {M : Wm} (h : EvW M) (hI : WI M) {s d p : Int} (h0 : 0 ≤ s) (h1 : s < M.n.length) : EvW (tryW M s d p).1 := by
  unfold tryW
  simp only
  split
  · exact h
  have h2 := h.hear hI h0 h1 (tryF s d (tryAtt M.w.length s (tryAbove (ndAt M s) d p + 1)))
  have hS := same_hear M s (tryF s d (tryAtt M.w.length s (tryAbove (ndAt M s) d p + 1)))
  split
  · exact h2
  · exact h2.lead h0 (by rw [hS.n]; exact h1) _ _
theorem ev_tickD {M : Wm} {q : Wm × Bool} {s : Int} {k d : Nat} (hT : TickOk M q s k) (h : EvW q.1) (h0 : 0 ≤ s) (h1 : s < M.n.length) : EvW (tickD s q d).1 := by
  have hn := hT.same.n
  unfold tickD
  split
  · exact h
  split
  · exact h
  split
  · exact h
  split
  · exact h.setL _
  · exact ev_try h hT.wi h0 (by omega)
theorem ev_ticks {M : Wm} (hI : WI M) (h : EvW M) {s : Int} (h0 : 0 ≤ s) (h1 : s < M.n.length) (hs : (ndAt M s).site ≠ none) : ∀ k, k ≤ 6 → EvW ((List.range k).foldl (tickD s) (M, true)).1
  | 0, _ => h
  | k + 1, hk => by
    rw [List.range_succ, List.foldl_append]
    exact ev_tickD (ticks_ok hI h0 h1 hs k (by omega)) (ev_ticks hI h h0 h1 hs k (by omega)) h0 h1
theorem ev_tick {M : Wm} (hI : WI M) (h : EvW M) (s : Int) : EvW (tickW M s).1 := by
  unfold tickW
  split
  · exact h
  · rename_i hu
    obtain ⟨h0, h1, hs⟩ := up_site hu
    exact ev_ticks hI h h0 h1 hs 6 (by omega)
theorem ev_deliver {M : Wm} (hI : WI M) (h : EvW M) (k : Int) : EvW (deliverW M k).1 := by
  have hn := hI.wn
  unfold deliverW
  split
  · exact h
  rename_i hk
  obtain ⟨⟨hbad, hto, hfr⟩, hk0, hk1⟩ := frame_at hI hk
  unfold badF at hbad
  have hE := h.setL (M.l.eraseIdx k.toNat)
  simp only
  split
  · exact hE
  split
  · split
    · exact hE
    · exact hE.lead (s := (M.l.getD k.toNat zeroF).to) (by omega) (by simp only; omega) _ _
  · exact (hE.hear (hI.erase _) (by omega) (by simp only; omega) _).setL _
theorem ev_one {M : Wm} (hI : WI M) (h : EvW M) (v : Int) : EvW (oneW M v).1 := by
  unfold oneW
  split
  · exact h
  split
  · unfold dropW; split
    · exact h
    · exact h.setL _
  split
  · unfold twiceW; split
    · exact h
    · exact h.setL _
  split
  · unfold beginW
    split
    · exact h
    rename_i hb
    split
    · exact h
    split
    · exact h
    exact h.lead (s := v / 16 % 7) (by omega) (by omega) _ _
  split
  · exact ev_tick hI h _
  split
  · unfold refuseW
    split
    · exact h
    split
    · exact h
    rename_i hu
    obtain ⟨h0, h1, -⟩ := up_site hu
    exact h.set h0 h1 (by unfold refuseN; split <;> rfl)
  split
  · unfold linkW
    split
    · exact h
    · exact ⟨h.pw, h.rg, h.dn⟩
  split
  · unfold cutW
    split
    · exact h
    split
    · exact h
    rename_i hu
    obtain ⟨h0, h1, -⟩ := up_site hu
    exact h.set h0 h1 rfl
  split
  · unfold downW
    split
    · exact h
    rename_i hu
    obtain ⟨h0, h1, -⟩ := up_site hu
    exact h.set h0 h1 rfl
  split
  · unfold upW
    split
    · exact h
    split
    · exact h
    rename_i hu _
    obtain ⟨h0, h1⟩ := nodeE_none hu
    exact h.note hI h0 h1 rfl rfl
  · exact ev_deliver hI h _
theorem ev_new (w : List Int) : EvW (newW w) := ⟨by simp [newW], fun e he => (by cases he), fun e he => (by cases he)⟩
theorem run_safe : ∀ (l : List Int) {q : Wm × List Int}, WI q.1 → SafeW q.1 → EvW q.1 → SafeW (l.foldl runV q).1 ∧ EvW (l.foldl runV q).1
  | [], q, hI, h, he => ⟨h, he⟩
  | v :: l, q, hI, h, he => by
    rw [List.foldl_cons]
    have key : WI (runV q v).1 ∧ SafeW (runV q v).1 ∧ EvW (runV q v).1 := by
      unfold runV
      split
      · exact ⟨(one_ok hI v).wi, safe_one hI h v, ev_one hI he v⟩
      · exact ⟨hI, h, he⟩
    exact run_safe l key.1 key.2.1 key.2.2
/-- no two events of a deal tell otherwise -/
theorem ev_agree {M : Wm} (hI : WI M) (h : SafeW M) (he : EvW M) {a b : Evt} (ha : a ∈ M.ev) (hb : b ∈ M.ev) (hd : a.deal = b.deal) : a.ph = b.ph := by
  obtain ⟨-, -, h0, h6, -⟩ := he.rg a ha
  obtain ⟨g, hg⟩ := h a.deal.toNat (by omega)
  exact dec_same hI.w0 hg.inv (hg.ev a ha (by omega)) (hg.ev b hb (by omega))
end Go.HL
end

/-! FvA -/
section
namespace Go.HL
open Go Go.Proofs
set_option linter.unusedVariables false
def FV (T : Nat) (E : Nat → Addr) (v : Value) (code at_ : Int) (c : List Blk) : Prop := (∃ e, okE e ∧ v = eV T E e ∧ code = cdN e ∧ (e = none ∨ at_ = -1) ∧ c = []) ∨ ∃ (pb k : Nat), List.elem k all9 = true ∧ v = .iface 158 (pt pb 0) ∧ code = k ∧ c = faC pb at_ T E (some k)
theorem FV.nil {T : Nat} {E : Nat → Addr} {at_ : Int} : FV T E .nilIface 0 at_ [] := .inl ⟨none, trivial, rfl, rfl, .inl rfl, rfl⟩
theorem FV.bare {T : Nat} {E : Nat → Addr} {k : Nat} (h : List.elem k all9 = true) : FV T E (eV T E (some k)) k (-1) [] := .inl ⟨some k, h, rfl, rfl, .inr rfl, rfl⟩
theorem FV.at {T : Nat} {E : Nat → Addr} {k : Nat} (h : List.elem k all9 = true) (pb : Nat) (x : Int) : FV T E (.iface 158 (pt pb 0)) k x (faC pb x T E (some k)) := .inr ⟨pb, k, h, rfl, rfl, rfl⟩
theorem FV.zero {T : Nat} {E : Nat → Addr} {v : Value} {at_ : Int} {c : List Blk} (h : FV T E v 0 at_ c) : v = .nilIface ∧ c = [] := by
  rcases h with ⟨e, he, rfl, hc, -, rfl⟩ | ⟨pb, k, hk, -, hc, -⟩
  · cases e with
    | none => exact ⟨rfl, rfl⟩
    | some k =>
      have : k = 0 := by simp only [cdN] at hc; omega
      subst this
      exact absurd (show List.elem 0 all9 = true from he) (by decide)
  · have : k = 0 := by omega
    subst this
    exact absurd hk (by decide)
end Go.HL
end

/-! JgA -/
section
namespace Go.HL
open Go Go.Proofs
set_option linter.unusedVariables false
set_option linter.unusedSimpArgs false
structure Ev where
  s : Int
  d : Int
  p : Int
def evc (e : Ev) : List Value := [iv e.s, iv e.d, iv e.p]
def finP (p : Int) : Bool := decide (p = 2 ∨ p = 3)
def badE (sites : Int) (e : Ev) : Prop := e.s < 0 ∨ sites ≤ e.s ∨ e.d < 0 ∨ 6 ≤ e.d ∨ finP e.p = false
instance (sites : Int) (e : Ev) : Decidable (badE sites e) := by unfold badE; infer_instance
def spl (e : Ev) (a : Ev) : Bool := decide (a.d = e.d ∧ a.p ≠ e.p)
def twi (e : Ev) (a : Ev) : Bool := decide (a.d = e.d ∧ a.s = e.s)
def evM (sites : Int) (e : Ev) (l : List Ev) : Option Nat := if badE sites e then some 2 else if l.any (spl e) then some 9 else if l.any (twi e) then some 8 else none
/-- the first that is not well, from the i-th on -/
def chkM (sites : Int) (xs : List Ev) : Nat → Option (Nat × Nat)
  | i => if h : i < xs.length then (match evM sites xs[i] (xs.take i) with
      | some c => some (i, c)
      | none => chkM sites xs (i + 1)) else none
  termination_by i => xs.length - i
theorem chkM_hit {sites : Int} {xs : List Ev} {i c : Nat} (h : i < xs.length) (hc : evM sites xs[i] (xs.take i) = some c) : chkM sites xs i = some (i, c) := by
  rw [chkM, dif_pos h, hc]
theorem chkM_miss {sites : Int} {xs : List Ev} {i : Nat} (h : i < xs.length) (hc : evM sites xs[i] (xs.take i) = none) : chkM sites xs i = chkM sites xs (i + 1) := by
  rw [chkM, dif_pos h, hc]
theorem chkM_end {sites : Int} {xs : List Ev} {i : Nat} (h : xs.length ≤ i) : chkM sites xs i = none := by
  rw [chkM, dif_neg (by omega)]
theorem evM_nine {sites : Int} {e : Ev} {l : List Ev} {c : Nat} (h : evM sites e l = some c) : List.elem c all9 = true := by
  unfold evM at h
  split at h
  · cases h; rfl
  split at h
  · cases h; rfl
  split at h
  · cases h; rfl
  · cases h
theorem any_snoc {α : Type} {p : α → Bool} {l : List α} {k : Nat} (h : k < l.length) : (l.take (k + 1)).any p = ((l.take k).any p || p l[k]) := by
  rw [List.take_succ_eq_append_getElem h, List.any_append]; simp
theorem any_yes {α : Type} {p : α → Bool} {l : List α} {k : Nat} (h : k < l.length) (hp : p l[k] = true) : l.any p = true := List.any_eq_true.2 ⟨_, List.getElem_mem h, hp⟩
theorem any_all {α : Type} {p : α → Bool} {l : List α} {k : Nat} (h : l.length ≤ k) : (l.take k).any p = l.any p := by rw [List.take_of_length_le h]
set_option maxHeartbeats 2000000 attribute [local irreducible] HW HO HQ HD HC QOp Has Upd Puts Gets seqQ blkQ loopQ fnQ actQ nextP unQ MapF
theorem jfinal_calls (p : Int) (L : Heap) : HC Tryz.prog 103 [iv p] L (fun v L' => v = .bool (finP p) ∧ L' = L) := by
  refine Za (fun _ _ => Tryz.call103 _ _) Tryz.func103 rfl Tryz.ntmps103 (Nat.le_of_ble_eq_true rfl) ?_; simp only [args0, Nat.reduceAdd]
  repeat' (first | refine uN ?_ | (refine uP ?_ ?_ <;> (intro h; ((try simp only [zs, ne_eq, and_true, true_and, eq_self, reduceCtorEq] at h); try exact zx))) | fail)
  all_goals (refine sp1 (LS.refl _) ⟨congrArg Value.bool ?_, rfl⟩; unfold finP; first | (refine Eq.symm (decide_eq_true ?_); omega) | (refine Eq.symm (decide_eq_false ?_); omega) | (refine decide_eq_decide.2 ?_; omega))
theorem rfinal_calls (p : Int) (L : Heap) : HC Tryz.prog 39 [iv p] L (fun v L' => v = .bool (finP p) ∧ L' = L) := by
  refine Za (fun _ _ => Tryz.call39 _ _) Tryz.func39 rfl Tryz.ntmps39 (Nat.le_of_ble_eq_true rfl) ?_; simp only [args0, Nat.reduceAdd]
  repeat' (first | refine uN ?_ | (refine uP ?_ ?_ <;> (intro h; ((try simp only [zs, ne_eq, and_true, true_and, eq_self, reduceCtorEq] at h); try exact zx))) | fail)
  all_goals (refine sp1 (LS.refl _) ⟨congrArg Value.bool ?_, rfl⟩; unfold finP; first | (refine Eq.symm (decide_eq_true ?_); omega) | (refine Eq.symm (decide_eq_false ?_); omega) | (refine decide_eq_decide.2 ?_; omega))
theorem event_calls (T : Nat) (E : Nat → Addr) (e : Ev) (a : Option Addr) (cap : Nat) (l : List Ev) (sites : Int) (L : Heap) (hG : Er T E [2, 8, 9] L) (hR : Rd evc 3 L a l) (hl : l.length ≤ 1000000) :
    HC Tryz.prog 105 [.agg ⟨evc e⟩, .slice a l.length cap, iv sites] L (fun v L' => v = eV T E (evM sites e l) ∧ L' = L) := by
  unfold evM
  refine Za (fun _ _ => Tryz.call105 _ _) Tryz.func105 rfl Tryz.ntmps105 (Nat.le_of_ble_eq_true rfl) ?_; simp only [args0, Nat.reduceAdd]
  by_cases hb : badE sites e
  · rw [if_pos hb]
    repeat' (first | refine uN ?_ | refine uC (jfinal_calls _ _) ?_ | (refine uB ?_; intro b) | (refine uP ?_ ?_ <;> (intro h; ((try simp only [zs, ne_eq, and_true, true_and, eq_self, reduceCtorEq] at h); try exact zx))) | fail)
    all_goals first
      | exact sp1 uZ ⟨rfl, rfl⟩
      | (exfalso; rcases hb with h1 | h1 | h1 | h1 | h1 <;> first | omega | simp_all)
  rw [if_neg hb]
  have hb1 : ¬e.s < 0 := fun h => hb (.inl h)
  have hb2 : ¬sites ≤ e.s := fun h => hb (.inr (.inl h))
  have hb3 : ¬e.d < 0 := fun h => hb (.inr (.inr (.inl h)))
  have hb4 : ¬6 ≤ e.d := fun h => hb (.inr (.inr (.inr (.inl h))))
  have hb5 : finP e.p = true := by
    cases hf : finP e.p with
    | true => rfl
    | false => exact absurd (.inr (.inr (.inr (.inr hf)))) hb
  have kf := fun L => jfinal_calls e.p L
  rw [hb5] at kf
  repeat' (first | refine uN ?_ | refine uC (kf _) ?_ | (refine uB ?_; intro b) | (refine uP ?_ ?_ <;> (intro h; ((try simp only [zs, ne_eq, and_true, true_and, eq_self, reduceCtorEq] at h); try exact zx))) | fail)
  generalize b = be
  have e0 : (Value.nilIface) = eV T E (if (l.take 0).any (twi e) then some 8 else none) := rfl
  rw [e0]
  refine Zf (σ := Nat) (fun k => [(3, pt be 0), (7, eV T E (if (l.take k).any (twi e) then some 8 else none)), (36, .slice a l.length cap), (37, iv l.length), (38, iv k)]) (fun _ => [(be, .cells ⟨evc e⟩ 81)] :: L) (fun k => k ≤ l.length ∧ (l.take k).any (spl e) = false) (fun k => l.length - k) 0 uS (List.Sublist.refl _) ⟨by omega, by simp⟩ ?_
  rintro k ⟨h1, h2⟩
  by_cases hlt : k < l.length
  · obtain ⟨b0, i0, l0, E0, fr0, rfl, hb0, hg0⟩ := hR.at (j := (k : Int)) (by omega) (by omega)
    have ex : l[(k : Int).toNat]'(by omega) = l[k] := rfl
    rw [ex] at hg0
    have h3 := any_snoc (p := spl e) hlt
    have h4 := any_snoc (p := twi e) hlt
    have h5 := any_yes (p := spl e) hlt
    rw [h2, Bool.false_or] at h3
    generalize l[k] = x at *
    by_cases hd : x.d = e.d
    · by_cases hp : x.p = e.p
      · have h6 : spl e x = false := by unfold spl; exact decide_eq_false (fun h => h.2 hp)
        by_cases hs : x.s = e.s
        · have h7 : twi e x = true := by unfold twi; exact decide_eq_true ⟨hd, hs⟩
          rw [h7, Bool.or_true] at h4
          have e1 : Value.iface T (.pointer (some (E 8))) = eV T E (if (l.take (k + 1)).any (twi e) then some 8 else none) := by rw [h4]; rfl
          repeat' (first | refine uN ?_ | (refine uB ?_; intro b) | (refine uP ?_ ?_ <;> (intro h; ((try simp only [zs, ne_eq, and_true, true_and, eq_self, reduceCtorEq] at h); try exact zx))) | fail)
          all_goals first | contradiction | (rw [e1]; exact Zc (k + 1) uS uL ⟨by omega, by rw [h3, h6]⟩ (by omega))
        · have h7 : twi e x = false := by unfold twi; exact decide_eq_false (fun h => hs h.2)
          rw [h7, Bool.or_false] at h4
          rw [← h4]
          repeat' (first | refine uN ?_ | (refine uB ?_; intro b) | (refine uP ?_ ?_ <;> (intro h; ((try simp only [zs, ne_eq, and_true, true_and, eq_self, reduceCtorEq] at h); try exact zx))) | fail)
          all_goals first | contradiction | exact Zc (k + 1) uS uL ⟨by omega, by rw [h3, h6]⟩ (by omega)
      · have h6 : spl e x = true := by unfold spl; exact decide_eq_true ⟨hd, hp⟩
        rw [if_pos (h5 h6)]
        repeat' (first | refine uN ?_ | (refine uB ?_; intro b) | (refine uP ?_ ?_ <;> (intro h; ((try simp only [zs, ne_eq, and_true, true_and, eq_self, reduceCtorEq] at h); try exact zx))) | fail)
        all_goals first | contradiction | exact sp1 uZ ⟨rfl, rfl⟩
    · have h6 : spl e x = false := by unfold spl; exact decide_eq_false (fun h => hd h.1)
      have h7 : twi e x = false := by unfold twi; exact decide_eq_false (fun h => hd h.1)
      rw [h7, Bool.or_false] at h4
      rw [← h4]
      repeat' (first | refine uN ?_ | (refine uB ?_; intro b) | (refine uP ?_ ?_ <;> (intro h; ((try simp only [zs, ne_eq, and_true, true_and, eq_self, reduceCtorEq] at h); try exact zx))) | fail)
      all_goals first | contradiction | exact Zc (k + 1) uS uL ⟨by omega, by rw [h3, h6]⟩ (by omega)
  · rw [any_all (by omega)] at h2 ⊢
    rw [h2]
    repeat' (first | refine uN ?_ | (refine uB ?_; intro b) | (refine uP ?_ ?_ <;> (intro h; ((try simp only [zs, ne_eq, and_true, true_and, eq_self, reduceCtorEq] at h); try exact zx))) | fail)
    exact sp1 uZ ⟨rfl, rfl⟩
/-- the document's verdict: code and place -/
def efM (sites : Int) (xs : List Ev) : Int × Int := if sites < 1 ∨ 7 < sites then (2, -1) else match chkM sites xs 0 with
  | none => (0, -1)
  | some (i, c) => (c, i)
theorem Rd.cut {α : Type} {enc : α → List Value} {sz : Nat} {L : Heap} {a : Option Addr} {l : List α} (h : Rd enc sz L a l) (i : Nat) : Rd enc sz L a (l.take i) := Rd.take h
theorem jcheck_calls (T : Nat) (E : Nat → Addr) (a : Option Addr) (cap : Nat) (xs : List Ev) (sites : Int) (L : Heap) (hG : Er T E [2, 8, 9] L) (hR : Rd evc 3 L a xs) (hl : xs.length ≤ 1000000) (hcap : xs.length ≤ cap) :
    HC Tryz.prog 48 [.slice a xs.length cap, iv sites] L (fun v L' => ∃ c, FV T E v (efM sites xs).1 (efM sites xs).2 c ∧ L' = c :: L) := by
  unfold efM
  refine Za (fun _ _ => Tryz.call48 _ _) Tryz.func48 rfl Tryz.ntmps48 (Nat.le_of_ble_eq_true rfl) ?_; simp only [args0, Nat.reduceAdd]
  by_cases hs : sites < 1 ∨ 7 < sites
  · simp only [if_pos hs]
    repeat' (first | refine uN ?_ | refine g_k S ?_ | (refine uB ?_; intro b) | (refine uP ?_ ?_ <;> (intro h; ((try simp only [zs, ne_eq, and_true, true_and, eq_self, reduceCtorEq] at h); try exact zx))) | fail)
    all_goals first | exact sp1 (L' := [] :: L) (LS.refl _) ⟨[], FV.bare rfl, rfl⟩ | omega
  simp only [if_neg hs]
  repeat' (first | refine uN ?_ | refine g_k S ?_ | (refine uB ?_; intro b) | (refine uP ?_ ?_ <;> (intro h; ((try simp only [zs, ne_eq, and_true, true_and, eq_self, reduceCtorEq] at h); try exact zx))) | fail)
  refine Zf (σ := Nat) (fun k => [(0, .slice a xs.length cap), (1, iv sites), (15, .slice a xs.length cap), (16, iv xs.length), (17, iv k)]) (fun _ => L) (fun k => k ≤ xs.length ∧ chkM sites xs 0 = chkM sites xs k) (fun k => xs.length - k) 0 uS (List.Sublist.refl _) ⟨by omega, rfl⟩ ?_
  rintro k ⟨h1, h2⟩
  rw [h2]
  by_cases hlt : k < xs.length
  · obtain ⟨b0, i0, l0, E0, fr0, rfl, hb0, hg0⟩ := hR.at (j := (k : Int)) (by omega) (by omega)
    have ex : xs[(k : Int).toNat]'(by omega) = xs[k] := rfl
    rw [ex] at hg0
    have ke := fun L hG hR => event_calls T E xs[k] (some ⟨b0, i0, none⟩) cap (xs.take k) sites L hG hR (by simp; omega)
    rw [show (xs.take k).length = k by simp; omega] at ke
    cases hev : evM sites xs[k] (xs.take k) with
    | some c =>
      rw [chkM_hit hlt hev]
      rw [hev] at ke
      generalize xs[k] = x at *
      repeat' (first | refine uN ?_ | refine g_k S ?_ | refine g_q (qC (ke _ (hG.cons _) ((hR.cut _).cons _))) ?_ | refine k_q (qC (ke _ (hG.cons _) ((hR.cut _).cons _))) ?_ | (refine uB ?_; intro b) | (refine uP ?_ ?_ <;> (intro h; ((try simp only [zs, ne_eq, and_true, true_and, eq_self, reduceCtorEq] at h); try exact zx))) | fail)
      exact sp1 (L' := faC b k T E (some c) :: L) uL ⟨_, FV.at (evM_nine hev) b k, rfl⟩
    | none =>
      have h3 := chkM_miss hlt hev
      rw [hev] at ke
      generalize xs[k] = x at *
      repeat' (first | refine uN ?_ | refine g_k S ?_ | refine g_q (qC (ke _ (hG.cons _) ((hR.cut _).cons _))) ?_ | refine k_q (qC (ke _ (hG.cons _) ((hR.cut _).cons _))) ?_ | (refine uB ?_; intro b) | (refine uP ?_ ?_ <;> (intro h; ((try simp only [zs, ne_eq, and_true, true_and, eq_self, reduceCtorEq] at h); try exact zx))) | fail)
      exact Zc (k + 1) uS uL ⟨by omega, by rw [h3]⟩ (by omega)
  · rw [chkM_end (by omega)]
    repeat' (first | refine uN ?_ | refine g_k S ?_ | (refine uB ?_; intro b) | (refine uP ?_ ?_ <;> (intro h; ((try simp only [zs, ne_eq, and_true, true_and, eq_self, reduceCtorEq] at h); try exact zx))) | fail)
    exact sp1 (L' := [] :: L) (LS.refl _) ⟨[], FV.nil, rfl⟩
def outM (xs : List Ev) (d : Int) : Nat → Int
  | i => if h : i < xs.length then (if xs[i].d = d then xs[i].p else outM xs d (i + 1)) else 0
  termination_by i => xs.length - i
theorem outM_hit {xs : List Ev} {d : Int} {i : Nat} (h : i < xs.length) (hd : xs[i].d = d) : outM xs d i = xs[i].p := by rw [outM, dif_pos h, if_pos hd]
theorem outM_miss {xs : List Ev} {d : Int} {i : Nat} (h : i < xs.length) (hd : ¬xs[i].d = d) : outM xs d i = outM xs d (i + 1) := by rw [outM, dif_pos h, if_neg hd]
theorem outM_end {xs : List Ev} {d : Int} {i : Nat} (h : xs.length ≤ i) : outM xs d i = 0 := by rw [outM, dif_neg (by omega)]
theorem outcome_calls (a : Option Addr) (cap : Nat) (xs : List Ev) (d : Int) (L : Heap) (hR : Rd evc 3 L a xs) (hl : xs.length ≤ 1000000) :
    HC Tryz.prog 26 [.slice a xs.length cap, iv d] L (fun v L' => v = iv (outM xs d 0) ∧ L' = L) := by
  refine Za (fun _ _ => Tryz.call26 _ _) Tryz.func26 rfl Tryz.ntmps26 (Nat.le_of_ble_eq_true rfl) ?_; simp only [args0, Nat.reduceAdd]
  repeat' (first | refine uN ?_ | (refine uB ?_; intro b) | (refine uP ?_ ?_ <;> (intro h; ((try simp only [zs, ne_eq, and_true, true_and, eq_self, reduceCtorEq] at h); try exact zx))) | fail)
  refine Zf (σ := Nat) (fun k => [(1, iv d), (7, .slice a xs.length cap), (8, iv xs.length), (9, iv k)]) (fun _ => L) (fun k => k ≤ xs.length ∧ outM xs d 0 = outM xs d k) (fun k => xs.length - k) 0 uS (List.Sublist.refl _) ⟨by omega, rfl⟩ ?_
  rintro k ⟨h1, h2⟩
  rw [h2]
  by_cases hlt : k < xs.length
  · obtain ⟨b0, i0, l0, E0, fr0, rfl, hb0, hg0⟩ := hR.at (j := (k : Int)) (by omega) (by omega)
    have ex : xs[(k : Int).toNat]'(by omega) = xs[k] := rfl
    rw [ex] at hg0
    by_cases hd : xs[k].d = d
    · rw [outM_hit hlt hd]
      generalize xs[k] = x at *
      repeat' (first | refine uN ?_ | (refine uB ?_; intro b) | (refine uP ?_ ?_ <;> (intro h; ((try simp only [zs, ne_eq, and_true, true_and, eq_self, reduceCtorEq] at h); try exact zx))) | fail)
      exact sp1 uZ ⟨rfl, rfl⟩
    · have h3 := outM_miss hlt hd
      generalize xs[k] = x at *
      repeat' (first | refine uN ?_ | (refine uB ?_; intro b) | (refine uP ?_ ?_ <;> (intro h; ((try simp only [zs, ne_eq, and_true, true_and, eq_self, reduceCtorEq] at h); try exact zx))) | fail)
      exact Zc (k + 1) uS uL ⟨by omega, by rw [h3]⟩ (by omega)
  · rw [outM_end (by omega)]
    repeat' (first | refine uN ?_ | (refine uB ?_; intro b) | (refine uP ?_ ?_ <;> (intro h; ((try simp only [zs, ne_eq, and_true, true_and, eq_self, reduceCtorEq] at h); try exact zx))) | fail)
    exact sp1 uZ ⟨rfl, rfl⟩
/-- a final state that is not the i-th's, ahead of it -/
def cfl (x : St) (a : St) : Bool := finP x.ph && (finP a.ph && decide (x.ph ≠ a.ph))
def agD (xs : List St) : Nat → Option Nat
  | i => if h : i < xs.length then (if (xs.take i).any (cfl xs[i]) then some i else agD xs (i + 1)) else none
  termination_by i => xs.length - i
theorem agD_hit {xs : List St} {i : Nat} (h : i < xs.length) (hd : (xs.take i).any (cfl xs[i]) = true) : agD xs i = some i := by rw [agD, dif_pos h, if_pos hd]
theorem agD_miss {xs : List St} {i : Nat} (h : i < xs.length) (hd : (xs.take i).any (cfl xs[i]) = false) : agD xs i = agD xs (i + 1) := by rw [agD, dif_pos h, if_neg (by rw [hd]; decide)]
theorem agD_end {xs : List St} {i : Nat} (h : xs.length ≤ i) : agD xs i = none := by rw [agD, dif_neg (by omega)]
/-- what the judge keeps of the states so far -/
def AgI (l : List St) (ph : Int) : Prop := (ph = 0 ∧ ∀ a ∈ l, finP a.ph = false) ∨ (finP ph = true ∧ (∃ a ∈ l, a.ph = ph) ∧ ∀ a ∈ l, finP a.ph = true → a.ph = ph)
theorem finP_ne {p : Int} (h : finP p = true) : p ≠ 0 := by
  unfold finP at h
  have := of_decide_eq_true h
  omega
theorem AgI.nofin {l : List St} {ph : Int} (h : AgI l ph) {x : St} (hx : finP x.ph = false) : AgI (l ++ [x]) ph ∧ l.any (cfl x) = false := by
  refine ⟨?_, ?_⟩
  · rcases h with ⟨h0, h1⟩ | ⟨h0, ⟨a, ha, e⟩, h2⟩
    · refine .inl ⟨h0, fun a ha => ?_⟩
      rcases List.mem_append.1 ha with ha | ha
      · exact h1 a ha
      · rw [List.mem_singleton.1 ha]; exact hx
    · refine .inr ⟨h0, ⟨a, List.mem_append_left _ ha, e⟩, fun a ha hf => ?_⟩
      rcases List.mem_append.1 ha with ha | ha
      · exact h2 a ha hf
      · rw [List.mem_singleton.1 ha, hx] at hf; cases hf
  · rw [List.any_eq_false]
    intro a _
    simp [cfl, hx]
theorem AgI.first {l : List St} (h : AgI l 0) {x : St} (hx : finP x.ph = true) : AgI (l ++ [x]) x.ph ∧ l.any (cfl x) = false := by
  have h1 : ∀ a ∈ l, finP a.ph = false := by
    rcases h with ⟨_, h⟩ | ⟨h, _⟩
    · exact h
    · exact absurd rfl (finP_ne h)
  refine ⟨.inr ⟨hx, ⟨x, by simp, rfl⟩, fun a ha hf => ?_⟩, ?_⟩
  · rcases List.mem_append.1 ha with ha | ha
    · rw [h1 a ha] at hf; cases hf
    · rw [List.mem_singleton.1 ha]
  · rw [List.any_eq_false]
    intro a ha
    simp [cfl, h1 a ha]
theorem AgI.same {l : List St} {ph : Int} (h : AgI l ph) (h0 : ph ≠ 0) {x : St} (hx : ph = x.ph) : AgI (l ++ [x]) ph ∧ l.any (cfl x) = false := by
  rcases h with ⟨h1, _⟩ | ⟨hf, ⟨a, ha, e⟩, h2⟩
  · exact absurd h1 h0
  refine ⟨.inr ⟨hf, ⟨a, List.mem_append_left _ ha, e⟩, fun b hb hfb => ?_⟩, ?_⟩
  · rcases List.mem_append.1 hb with hb | hb
    · exact h2 b hb hfb
    · rw [List.mem_singleton.1 hb, hx]
  · rw [List.any_eq_false]
    intro b hb
    simp only [cfl, Bool.and_eq_true, decide_eq_true_eq, not_and]
    intro _ hfb hne
    exact hne (by rw [← hx, h2 b hb hfb])
theorem AgI.other {l : List St} {ph : Int} (h : AgI l ph) (h0 : ph ≠ 0) {x : St} (hx : finP x.ph = true) (hne : ph ≠ x.ph) : l.any (cfl x) = true := by
  rcases h with ⟨h1, _⟩ | ⟨hf, ⟨a, ha, e⟩, h2⟩
  · exact absurd h1 h0
  exact List.any_eq_true.2 ⟨a, ha, by simp [cfl, hx, e, hf, Ne.symm hne]⟩
def agF (xs : List St) : Int × Int := match agD xs 0 with
  | none => (0, -1)
  | some i => (9, i)
theorem agree_calls (T : Nat) (E : Nat → Addr) (a : Option Addr) (cap : Nat) (xs : List St) (L : Heap) (hG : Er T E [9] L) (hR : Rd sc 3 L a xs) (hl : xs.length ≤ 1000000) :
    HC Tryz.prog 41 [.slice a xs.length cap] L (fun v L' => ∃ c, FV T E v (agF xs).1 (agF xs).2 c ∧ L' = c :: L) := by
  unfold agF
  refine Za (fun _ _ => Tryz.call41 _ _) Tryz.func41 rfl Tryz.ntmps41 (Nat.le_of_ble_eq_true rfl) ?_; simp only [args0, Nat.reduceAdd]
  repeat' (first | refine uN ?_ | (refine uB ?_; intro b) | (refine uP ?_ ?_ <;> (intro h; ((try simp only [zs, ne_eq, and_true, true_and, eq_self, reduceCtorEq] at h); try exact zx))) | fail)
  refine Zf (σ := Nat × Int) (fun k => [(3, iv k.2), (6, .slice a xs.length cap), (7, iv xs.length), (8, iv k.1)]) (fun _ => L) (fun k => k.1 ≤ xs.length ∧ agD xs 0 = agD xs k.1 ∧ AgI (xs.take k.1) k.2) (fun k => xs.length - k.1) (0, 0) uS (List.Sublist.refl _) ⟨by simp, rfl, .inl ⟨rfl, by simp⟩⟩ ?_
  rintro ⟨k, ph⟩ ⟨h1, h2, h3⟩
  simp only at h1 h2 h3 ⊢
  rw [h2]
  by_cases hlt : k < xs.length
  · obtain ⟨b0, i0, l0, E0, fr0, rfl, hb0, hg0⟩ := hR.at (j := (k : Int)) (by omega) (by omega)
    have ex : xs[(k : Int).toNat]'(by omega) = xs[k] := rfl
    rw [ex] at hg0
    have e1 : xs.take (k + 1) = xs.take k ++ [xs[k]] := List.take_succ_eq_append_getElem hlt
    have m1 := @agD_miss xs k hlt
    have m2 := @agD_hit xs k hlt
    generalize xs[k] = x at *
    have kf := fun L => jfinal_calls x.ph L
    cases hf : finP x.ph with
    | false =>
      rw [hf] at kf
      obtain ⟨h4, h5⟩ := h3.nofin hf
      repeat' (first | refine uN ?_ | refine uC (kf _) ?_ | (refine uB ?_; intro b) | (refine uP ?_ ?_ <;> (intro h; ((try simp only [zs, ne_eq, and_true, true_and, eq_self, reduceCtorEq] at h); try exact zx))) | fail)
      exact Zc (k + 1, ph) uS uL ⟨by simp only; omega, by simp only; rw [m1 h5], by simp only; rw [e1]; exact h4⟩ (by simp only; omega)
    | true =>
      rw [hf] at kf
      by_cases h0 : ph = 0
      · subst h0
        obtain ⟨h4, h5⟩ := h3.first hf
        repeat' (first | refine uN ?_ | refine uC (kf _) ?_ | (refine uB ?_; intro b) | (refine uP ?_ ?_ <;> (intro h; ((try simp only [zs, ne_eq, and_true, true_and, eq_self, reduceCtorEq] at h); try exact zx))) | fail)
        exact Zc (k + 1, x.ph) uS uL ⟨by simp only; omega, by simp only; rw [m1 h5], by simp only; rw [e1]; exact h4⟩ (by simp only; omega)
      by_cases hp : ph = x.ph
      · obtain ⟨h4, h5⟩ := h3.same h0 hp
        repeat' (first | refine uN ?_ | refine uC (kf _) ?_ | (refine uB ?_; intro b) | (refine uP ?_ ?_ <;> (intro h; ((try simp only [zs, ne_eq, and_true, true_and, eq_self, reduceCtorEq] at h); try exact zx))) | fail)
        exact Zc (k + 1, ph) uS uL ⟨by simp only; omega, by simp only; rw [m1 h5], by simp only; rw [e1]; exact h4⟩ (by simp only; omega)
      · rw [m2 (h3.other h0 hf hp)]
        repeat' (first | refine uN ?_ | refine uC (kf _) ?_ | (refine uB ?_; intro b) | (refine uP ?_ ?_ <;> (intro h; ((try simp only [zs, ne_eq, and_true, true_and, eq_self, reduceCtorEq] at h); try exact zx))) | fail)
        exact sp1 (L' := faC b k T E (some 9) :: L) uL ⟨_, FV.at (k := 9) rfl b k, rfl⟩
  · rw [agD_end (by omega)]
    repeat' (first | refine uN ?_ | (refine uB ?_; intro b) | (refine uP ?_ ?_ <;> (intro h; ((try simp only [zs, ne_eq, and_true, true_and, eq_self, reduceCtorEq] at h); try exact zx))) | fail)
    exact sp1 (L' := [] :: L) (LS.refl _) ⟨[], FV.nil, rfl⟩
theorem bare_calls (c : Int) (L : Heap) : HC Tryz.prog 56 [iv c] L (fun v L' => v = .agg ⟨[iv c, iv (-1)]⟩ ∧ L' = L) := by
  refine Za (fun _ _ => Tryz.call56 _ _) Tryz.func56 rfl Tryz.ntmps56 (Nat.le_of_ble_eq_true rfl) ?_; simp only [args0, Nat.reduceAdd]
  repeat' (first | refine uN ?_ | (refine uB ?_; intro b) | fail)
  exact sp1 uZ ⟨rfl, rfl⟩ (hv := rcell S (hg := Zb rfl (Zb rfl gets_nil)))
theorem fine_calls (L : Heap) : HC Tryz.prog 106 [] L (fun v L' => v = .agg ⟨[iv 0, iv (-1)]⟩ ∧ L' = L) := by
  refine Za (fun _ _ => Tryz.call106 _ _) Tryz.func106 rfl Tryz.ntmps106 (Nat.le_of_ble_eq_true rfl) ?_; simp only [args0, Nat.reduceAdd]
  repeat' (first | refine uN ?_ | (refine uB ?_; intro b) | fail)
  exact sp1 uZ ⟨rfl, rfl⟩ (hv := rcell S (hg := Zb rfl (Zb rfl gets_nil)))
theorem eventsFault_calls (a : Option Addr) (cap : Nat) (xs : List Ev) (sites : Int) (L : Heap) (hR : Rd evc 3 L a xs) (hl : xs.length ≤ 1000000) :
    HC Tryz.prog 49 [.slice a xs.length cap, iv sites] L (fun v L' => v = .agg ⟨[iv (efM sites xs).1, iv (efM sites xs).2]⟩ ∧ L' = L) := by
  refine Za (fun _ _ => Tryz.call49 _ _) Tryz.func49 rfl Tryz.ntmps49 (Nat.le_of_ble_eq_true rfl) ?_; simp only [args0, Nat.reduceAdd]
  unfold efM
  by_cases hs : sites < 1 ∨ 7 < sites
  · simp only [if_pos hs]
    repeat' (first | refine uN ?_ | refine g_k S ?_ | refine uC (bare_calls _ _) ?_ | (refine uB ?_; intro b) | (refine uP ?_ ?_ <;> (intro h; ((try simp only [zs, ne_eq, and_true, true_and, eq_self, reduceCtorEq] at h); try exact zx))) | fail)
    all_goals first | exact sp1 uZ ⟨rfl, rfl⟩ (hv := rcell S (hg := Zb rfl (Zb rfl gets_nil))) | omega
  simp only [if_neg hs]
  repeat' (first | refine uN ?_ | refine g_k S ?_ | (refine uB ?_; intro b) | (refine uP ?_ ?_ <;> (intro h; ((try simp only [zs, ne_eq, and_true, true_and, eq_self, reduceCtorEq] at h); try exact zx))) | fail)
  generalize b = br
  refine Zf (σ := Nat) (fun k => [(0, .slice a xs.length cap), (1, iv sites), (4, pt br 0), (5, iv k)]) (fun _ => [(br, .cells ⟨[iv 0, iv 0]⟩ 76)] :: L) (fun k => k ≤ xs.length ∧ chkM sites xs 0 = chkM sites xs k) (fun k => xs.length - k) 0 uS (List.Sublist.refl _) ⟨by omega, rfl⟩ ?_
  rintro k ⟨h1, h2⟩
  rw [h2]
  by_cases hlt : k < xs.length
  · obtain ⟨b0, i0, l0, E0, fr0, rfl, hb0, hg0⟩ := hR.at (j := (k : Int)) (by omega) (by omega)
    have ex : xs[(k : Int).toNat]'(by omega) = xs[k] := rfl
    rw [ex] at hg0
    have m1 := @chkM_miss sites xs k hlt
    have m2 := fun c => @chkM_hit sites xs k c hlt
    generalize xs[k] = e at *
    have kf := fun L => rfinal_calls e.p L
    by_cases hb : badE sites e
    · have hev : evM sites e (xs.take k) = some 2 := by unfold evM; rw [if_pos hb]
      rw [m2 _ hev]
      repeat' (first | refine uN ?_ | refine g_k S ?_ | refine uC (kf _) ?_ | (refine uB ?_; intro b) | (refine uP ?_ ?_ <;> (intro h; ((try simp only [zs, ne_eq, and_true, true_and, eq_self, reduceCtorEq] at h); try exact zx))) | fail)
      all_goals first
        | exact sp1 uZ ⟨rfl, rfl⟩ (hv := rcell S (hg := Zb rfl (Zb rfl gets_nil)))
        | (exfalso; rcases hb with h1 | h1 | h1 | h1 | h1 <;> first | omega | simp_all)
    have hb1 : ¬e.s < 0 := fun h => hb (.inl h)
    have hb2 : ¬sites ≤ e.s := fun h => hb (.inr (.inl h))
    have hb3 : ¬e.d < 0 := fun h => hb (.inr (.inr (.inl h)))
    have hb4 : ¬6 ≤ e.d := fun h => hb (.inr (.inr (.inr (.inl h))))
    have hb5 : finP e.p = true := by
      cases hf : finP e.p with
      | true => rfl
      | false => exact absurd (.inr (.inr (.inr (.inr hf)))) hb
    rw [hb5] at kf
    have hlk : (xs.take k).length = k := by simp; omega
    repeat' (first | refine uN ?_ | refine g_k S ?_ | refine uC (kf _) ?_ | (refine uB ?_; intro b) | (refine uP ?_ ?_ <;> (intro h; ((try simp only [zs, ne_eq, and_true, true_and, eq_self, reduceCtorEq] at h); try exact zx))) | fail)
    generalize b = be
    refine Zf (σ := Nat) (fun j => [(0, .slice (some ⟨b0, i0, none⟩) xs.length cap), (1, iv sites), (4, pt br 0), (5, iv k), (6, pt be 0), (8, iv j)]) (fun _ => [(be, .cells ⟨evc e⟩ 162)] :: [(br, .cells ⟨[iv 0, iv 0]⟩ 76)] :: L) (fun j => j ≤ k ∧ ((xs.take k).take j).any (spl e) = false) (fun j => k - j) 0 uS (List.Sublist.refl _) ⟨by omega, by simp⟩ ?_
    rintro j ⟨j1, j2⟩
    by_cases hj : j < k
    · obtain ⟨b9, i9, l9, E9, fr9, ha9, hb9, hg9⟩ := hR.at (j := (j : Int)) (by omega) (by omega)
      cases ha9
      have ey : xs[(j : Int).toNat]'(by omega) = (xs.take k)[j]'(by omega) := by simp
      rw [ey] at hg9
      have h3 := any_snoc (p := spl e) (l := xs.take k) (k := j) (by omega)
      have h5 := any_yes (p := spl e) (l := xs.take k) (k := j) (by omega)
      rw [j2, Bool.false_or] at h3
      generalize (xs.take k)[j]'(by omega) = x at *
      by_cases hd : x.d = e.d
      · by_cases hp : x.p = e.p
        · have h6 : spl e x = false := by unfold spl; exact decide_eq_false (fun h => h.2 hp)
          repeat' (first | refine uN ?_ | refine g_k S ?_ | (refine uB ?_; intro b) | (refine uP ?_ ?_ <;> (intro h; ((try simp only [zs, ne_eq, and_true, true_and, eq_self, reduceCtorEq] at h); try exact zx))) | fail)
          all_goals first | contradiction | exact Zc (j + 1) uS uL ⟨by omega, by rw [h3, h6]⟩ (by omega)
        · have h6 : spl e x = true := by unfold spl; exact decide_eq_true ⟨hd, hp⟩
          have hev : evM sites e (xs.take k) = some 9 := by unfold evM; rw [if_neg hb, if_pos (h5 h6)]
          rw [m2 _ hev]
          repeat' (first | refine uN ?_ | refine g_k S ?_ | (refine uB ?_; intro b) | (refine uP ?_ ?_ <;> (intro h; ((try simp only [zs, ne_eq, and_true, true_and, eq_self, reduceCtorEq] at h); try exact zx))) | fail)
          all_goals first | contradiction | exact sp1 uZ ⟨rfl, rfl⟩ (hv := rcell S (hg := Zb rfl (Zb rfl gets_nil)))
      · have h6 : spl e x = false := by unfold spl; exact decide_eq_false (fun h => hd h.1)
        repeat' (first | refine uN ?_ | refine g_k S ?_ | (refine uB ?_; intro b) | (refine uP ?_ ?_ <;> (intro h; ((try simp only [zs, ne_eq, and_true, true_and, eq_self, reduceCtorEq] at h); try exact zx))) | fail)
        all_goals first | contradiction | exact Zc (j + 1) uS uL ⟨by omega, by rw [h3, h6]⟩ (by omega)
    rw [any_all (by omega)] at j2
    repeat' (first | refine uN ?_ | refine g_k S ?_ | (refine uB ?_; intro b) | (refine uP ?_ ?_ <;> (intro h; ((try simp only [zs, ne_eq, and_true, true_and, eq_self, reduceCtorEq] at h); try exact zx))) | fail)
    refine Zf (σ := Nat) (fun j => [(0, .slice (some ⟨b0, i0, none⟩) xs.length cap), (1, iv sites), (4, pt br 0), (5, iv k), (6, pt be 0), (9, iv j)]) (fun _ => [(be, .cells ⟨evc e⟩ 162)] :: [(br, .cells ⟨[iv 0, iv 0]⟩ 76)] :: L) (fun j => j ≤ k ∧ ((xs.take k).take j).any (twi e) = false) (fun j => k - j) 0 uS (List.Sublist.refl _) ⟨by omega, by simp⟩ ?_
    rintro j ⟨j1, j3⟩
    by_cases hj : j < k
    · obtain ⟨b9, i9, l9, E9, fr9, ha9, hb9, hg9⟩ := hR.at (j := (j : Int)) (by omega) (by omega)
      cases ha9
      have ey : xs[(j : Int).toNat]'(by omega) = (xs.take k)[j]'(by omega) := by simp
      rw [ey] at hg9
      have h3 := any_snoc (p := twi e) (l := xs.take k) (k := j) (by omega)
      have h5 := any_yes (p := twi e) (l := xs.take k) (k := j) (by omega)
      rw [j3, Bool.false_or] at h3
      generalize (xs.take k)[j]'(by omega) = x at *
      by_cases hd : x.d = e.d
      · by_cases hp : x.s = e.s
        · have h6 : twi e x = true := by unfold twi; exact decide_eq_true ⟨hd, hp⟩
          have hev : evM sites e (xs.take k) = some 8 := by unfold evM; rw [if_neg hb, if_neg (by rw [j2]; decide), if_pos (h5 h6)]
          rw [m2 _ hev]
          repeat' (first | refine uN ?_ | refine g_k S ?_ | (refine uB ?_; intro b) | (refine uP ?_ ?_ <;> (intro h; ((try simp only [zs, ne_eq, and_true, true_and, eq_self, reduceCtorEq] at h); try exact zx))) | fail)
          all_goals first | contradiction | exact sp1 uZ ⟨rfl, rfl⟩ (hv := rcell S (hg := Zb rfl (Zb rfl gets_nil)))
        · have h6 : twi e x = false := by unfold twi; exact decide_eq_false (fun h => hp h.2)
          repeat' (first | refine uN ?_ | refine g_k S ?_ | (refine uB ?_; intro b) | (refine uP ?_ ?_ <;> (intro h; ((try simp only [zs, ne_eq, and_true, true_and, eq_self, reduceCtorEq] at h); try exact zx))) | fail)
          all_goals first | contradiction | exact Zc (j + 1) uS uL ⟨by omega, by rw [h3, h6]⟩ (by omega)
      · have h6 : twi e x = false := by unfold twi; exact decide_eq_false (fun h => hd h.1)
        repeat' (first | refine uN ?_ | refine g_k S ?_ | (refine uB ?_; intro b) | (refine uP ?_ ?_ <;> (intro h; ((try simp only [zs, ne_eq, and_true, true_and, eq_self, reduceCtorEq] at h); try exact zx))) | fail)
        all_goals first | contradiction | exact Zc (j + 1) uS uL ⟨by omega, by rw [h3, h6]⟩ (by omega)
    rw [any_all (by omega)] at j3
    have hev : evM sites e (xs.take k) = none := by unfold evM; rw [if_neg hb, if_neg (by rw [j2]; decide), if_neg (by rw [j3]; decide)]
    have h9 := m1 hev
    repeat' (first | refine uN ?_ | refine g_k S ?_ | (refine uB ?_; intro b) | (refine uP ?_ ?_ <;> (intro h; ((try simp only [zs, ne_eq, and_true, true_and, eq_self, reduceCtorEq] at h); try exact zx))) | fail)
    exact Zc (k + 1) uS uL ⟨by omega, by rw [h9]⟩ (by omega)
  · rw [chkM_end (by omega)]
    repeat' (first | refine uN ?_ | refine g_k S ?_ | refine uC (fine_calls _) ?_ | (refine uB ?_; intro b) | (refine uP ?_ ?_ <;> (intro h; ((try simp only [zs, ne_eq, and_true, true_and, eq_self, reduceCtorEq] at h); try exact zx))) | fail)
    exact sp1 uZ ⟨rfl, rfl⟩ (hv := rcell S (hg := Zb rfl (Zb rfl gets_nil)))
end Go.HL
end

/-! SfH -/
section
namespace Go.HL
open Go Go.Proofs
set_option linter.unusedVariables false
set_option linter.unusedSimpArgs false
def toEv (e : Evt) : Ev := ⟨e.site, e.deal, e.ph⟩
theorem chkM_none {sites : Int} {xs : List Ev} (h : ∀ i (hi : i < xs.length), evM sites xs[i] (xs.take i) = none) : ∀ k i, k = xs.length - i → chkM sites xs i = none
  | 0, i, hk => chkM_end (by omega)
  | k + 1, i, hk => by
    have hi : i < xs.length := by omega
    rw [chkM_miss hi (h i hi)]
    exact chkM_none h k (i + 1) (by omega)
theorem chkM_some {sites : Int} {xs : List Ev} {k c : Nat} (hk : k < xs.length) (hc : evM sites xs[k] (xs.take k) = some c) : ∀ j i, j = k - i → i ≤ k → ∃ p, chkM sites xs i = some p
  | 0, i, hj, hi => by
    obtain rfl : i = k := by omega
    exact ⟨_, chkM_hit hk hc⟩
  | j + 1, i, hj, hi => by
    have hlt : i < xs.length := by omega
    cases h : evM sites xs[i] (xs.take i) with
    | some c2 => exact ⟨_, chkM_hit hlt h⟩
    | none =>
      rw [chkM_miss hlt h]
      exact chkM_some hk hc j (i + 1) (by omega) (by omega)
theorem take_mem {α : Type} {xs : List α} {i : Nat} {x : α} (h : x ∈ xs.take i) : ∃ k, ∃ hk : k < xs.length, k < i ∧ xs[k] = x := by
  obtain ⟨k, hk, e⟩ := List.mem_iff_getElem.1 h
  rw [List.length_take] at hk
  refine ⟨k, by omega, by omega, ?_⟩
  rw [← e, List.getElem_take]
/-- events that are well -/
structure WellE (n : Nat) (xs : List Ev) : Prop where
  rg : ∀ e ∈ xs, 0 ≤ e.s ∧ e.s < n ∧ 0 ≤ e.d ∧ e.d < 6 ∧ finP e.p = true
  pw : xs.Pairwise fun a b => ¬ (a.s = b.s ∧ a.d = b.d)
  ag : ∀ a ∈ xs, ∀ b ∈ xs, a.d = b.d → a.p = b.p
theorem evM_well {n : Nat} {xs : List Ev} (h1 : ∀ e ∈ xs, 0 ≤ e.s ∧ e.s < n ∧ 0 ≤ e.d ∧ e.d < 6 ∧ finP e.p = true) (h2 : xs.Pairwise fun a b => ¬ (a.s = b.s ∧ a.d = b.d)) {i : Nat} (hi : i < xs.length) (h3 : ∀ a ∈ xs.take i, a.d = xs[i].d → a.p = xs[i].p) : evM n xs[i] (xs.take i) = none := by
  have hr := h1 xs[i] (List.getElem_mem hi)
  unfold evM
  rw [if_neg (by unfold badE; rw [hr.2.2.2.2]; simp; omega)]
  rw [if_neg, if_neg]
  · rw [Bool.not_eq_true, List.any_eq_false]
    intro a ha
    obtain ⟨k, hk, hki, rfl⟩ := take_mem ha
    have := List.pairwise_iff_getElem.1 h2 k i hk hi hki
    unfold twi
    simp only [decide_eq_true_eq]
    exact fun e => this ⟨e.2, e.1⟩
  · rw [Bool.not_eq_true, List.any_eq_false]
    intro a ha
    unfold spl
    simp only [decide_eq_true_eq]
    exact fun e => e.2 (h3 a ha e.1)
theorem WellE.chk {n : Nat} {xs : List Ev} (h : WellE n xs) (i : Nat) : chkM n xs i = none :=
  chkM_none (fun i hi => evM_well h.rg h.pw hi fun a ha e => h.ag a (List.mem_of_mem_take ha) xs[i] (List.getElem_mem hi) e) _ i rfl
theorem ev_well {M : Wm} (hI : WI M) (h : SafeW M) (he : EvW M) : WellE M.w.length (M.ev.map toEv) := by
  refine ⟨fun e hm => ?_, ?_, fun a ha b hb e => ?_⟩
  · obtain ⟨x, hx, rfl⟩ := List.mem_map.1 hm
    obtain ⟨h1, h2, h3, h4, h5⟩ := he.rg x hx
    exact ⟨h1, h2, h3, h4, by unfold finP; exact decide_eq_true h5⟩
  · rw [List.pairwise_map]
    exact he.pw
  · obtain ⟨x, hx, rfl⟩ := List.mem_map.1 ha
    obtain ⟨y, hy, rfl⟩ := List.mem_map.1 hb
    exact ev_agree hI h he hx hy e
theorem efM_well {n : Nat} {xs : List Ev} (h1 : 1 ≤ n) (h7 : n ≤ 7) (h : WellE n xs) : efM n xs = (0, -1) := by
  unfold efM
  rw [if_neg (by omega), h.chk 0]
/-- one event told otherwise -/
def flipE (e : Ev) : Ev := { e with p := 5 - e.p }
def pairB (xs : List Ev) (k : Nat) : Bool := (List.range xs.length).any fun i => decide (i ≠ k) && decide ((xs.getD i ⟨0, 0, 0⟩).d = (xs.getD k ⟨0, 0, 0⟩).d)
theorem flip_chk {n : Nat} {xs : List Ev} (h : WellE n xs) {k : Nat} (hk : k < xs.length) : (chkM n (xs.set k (flipE xs[k])) 0 = none) ↔ pairB xs k = false := by
  have hr := h.rg xs[k] (List.getElem_mem hk)
  have hp : xs[k].p = 2 ∨ xs[k].p = 3 := by
    have := hr.2.2.2.2
    unfold finP at this
    exact of_decide_eq_true this
  have hlen : (xs.set k (flipE xs[k])).length = xs.length := by simp
  have hg : ∀ i (hi : i < xs.length), (xs.set k (flipE xs[k]))[i]'(by simpa using hi) = if i = k then flipE xs[k] else xs[i] := fun i hi => by
    rw [List.getElem_set]
    by_cases e : k = i
    · subst e; simp
    · rw [if_neg e, if_neg (fun e2 => e e2.symm)]
  have hgd : ∀ i (hi : i < xs.length), xs.getD i ⟨0, 0, 0⟩ = xs[i] := fun i hi => by rw [List.getD, List.getElem?_eq_getElem hi]; rfl
  have hpw : (xs.set k (flipE xs[k])).Pairwise fun a b => ¬ (a.s = b.s ∧ a.d = b.d) := by
    rw [List.pairwise_iff_getElem]
    intro i j hi hj hij
    rw [hlen] at hi hj
    rw [hg i hi, hg j hj]
    have := List.pairwise_iff_getElem.1 h.pw i j hi hj hij
    split
    · rename_i e
      rw [if_neg (by omega)]
      subst e
      exact this
    · split
      · rename_i e; subst e; exact this
      · exact this
  constructor
  · intro hn
    by_cases hb : pairB xs k = true
    · exfalso
      unfold pairB at hb
      simp only [List.any_eq_true, List.mem_range, Bool.and_eq_true, decide_eq_true_eq] at hb
      obtain ⟨i, hi, hik, hd⟩ := hb
      rw [hgd i hi, hgd k hk] at hd
      have hag := h.ag xs[i] (List.getElem_mem hi) xs[k] (List.getElem_mem hk) hd
      -- the later one of both is not well
      have key : ∀ a b (ha : a < xs.length) (hb2 : b < xs.length), a < b → ((xs.set k (flipE xs[k]))[a]'(by simpa using ha)).d = ((xs.set k (flipE xs[k]))[b]'(by simpa using hb2)).d → ((xs.set k (flipE xs[k]))[a]'(by simpa using ha)).p ≠ ((xs.set k (flipE xs[k]))[b]'(by simpa using hb2)).p → False := by
        intro a b ha hb2 hab e1 e2
        have hb3 : b < (xs.set k (flipE xs[k])).length := by simpa using hb2
        have ha3 : a < (xs.set k (flipE xs[k])).length := by simpa using ha
        cases hev : evM n (xs.set k (flipE xs[k]))[b] ((xs.set k (flipE xs[k])).take b) with
        | some c =>
          obtain ⟨p, hp2⟩ := chkM_some hb3 hev _ 0 rfl (by omega)
          rw [hn] at hp2; cases hp2
        | none =>
          unfold evM at hev
          split at hev
          · cases hev
          split at hev
          · cases hev
          · rename_i hany
            apply hany
            rw [List.any_eq_true]
            refine ⟨(xs.set k (flipE xs[k]))[a], ?_, ?_⟩
            · rw [List.mem_iff_getElem]
              refine ⟨a, by rw [List.length_take]; omega, ?_⟩
              rw [List.getElem_take]
            · unfold spl
              exact decide_eq_true ⟨e1, e2⟩
      rcases Nat.lt_or_gt_of_ne hik with hlt | hlt
      · refine key i k hi hk hlt ?_ ?_
        · rw [hg i hi, hg k hk, if_neg hik, if_pos rfl]; exact hd
        · rw [hg i hi, hg k hk, if_neg hik, if_pos rfl, hag]
          show xs[k].p ≠ 5 - xs[k].p
          omega
      · refine key k i hk hi hlt ?_ ?_
        · rw [hg i hi, hg k hk, if_neg hik, if_pos rfl]; exact hd.symm
        · rw [hg i hi, hg k hk, if_neg hik, if_pos rfl, hag]
          show 5 - xs[k].p ≠ xs[k].p
          omega
    · simpa using hb
  · intro hb
    have hno : ∀ i, i < xs.length → i ≠ k → (xs.getD i ⟨0, 0, 0⟩).d ≠ (xs.getD k ⟨0, 0, 0⟩).d := fun i hi hik he => by
      have : pairB xs k = true := by
        unfold pairB
        simp only [List.any_eq_true, List.mem_range, Bool.and_eq_true, decide_eq_true_eq]
        exact ⟨i, hi, hik, he⟩
      rw [hb] at this; cases this
    refine chkM_none (fun i hi => ?_) _ 0 rfl
    have hi' : i < xs.length := by simpa using hi
    refine evM_well (fun e he => ?_) hpw hi fun a ha e => ?_
    · obtain ⟨q, hq, rfl⟩ := List.mem_iff_getElem.1 he
      rw [hlen] at hq
      rw [hg q hq]
      split
      · refine ⟨hr.1, hr.2.1, hr.2.2.1, hr.2.2.2.1, ?_⟩
        unfold finP flipE
        exact decide_eq_true (by simp only; omega)
      · exact h.rg _ (List.getElem_mem hq)
    · obtain ⟨q, hq, hqi, rfl⟩ := take_mem ha
      have hq' : q < xs.length := by simpa using hq
      rw [hg q hq', hg i hi'] at e ⊢
      by_cases e1 : q = k
      · rw [if_pos e1, if_neg (by omega)] at e
        have := hno i hi' (by omega)
        rw [hgd i hi', hgd k hk] at this
        exact absurd e.symm this
      · by_cases e2 : i = k
        · rw [if_neg e1, if_pos e2] at e
          have := hno q hq' e1
          rw [hgd q hq', hgd k hk] at this
          exact absurd e this
        · rw [if_neg e1, if_neg e2] at e ⊢
          exact h.ag _ (List.getElem_mem hq') _ (List.getElem_mem hi') e
end Go.HL
end

/-! FlD3 -/
section
namespace Go.HL
open Go Go.Proofs
set_option linter.unusedVariables false
set_option linter.unusedSimpArgs false
set_option maxHeartbeats 2000000 attribute [local irreducible] HW HO HQ HD HC QOp Has Upd Puts Gets seqQ blkQ loopQ fnQ actQ nextP unQ MapF
theorem coded3_any (T : Nat) (E : Nat → Addr) (v : Value) (code : Int) (c : List Blk) (L : Heap) (hE : Ez T E L) (h : FV T E v code (-1) c) : HC Tryz.prog 28 [v, iv code] (c :: L) (fun v L' => v = .bool true ∧ L' = c :: L) := by
  rcases h with ⟨e, he, rfl, rfl, hx, rfl⟩ | ⟨pb, k, hk, rfl, rfl, rfl⟩
  · have := coded3_calls T E e (cdN e) ([] :: L) (hE.cons _) he
    simpa using this
  · have hc := codeF_calls T E k pb (-1) (0, 0) _ (faC pb (-1) T E (some k) :: L) (hE.cons _) hk Zh
    refine Za (fun _ _ => Tryz.call28 _ _) Tryz.func28 rfl Tryz.ntmps28 (Nat.le_of_ble_eq_true rfl) ?_; simp only [args0, Nat.reduceAdd]
    repeat' (first | refine uN ?_ | refine uC (hc) ?_ | (refine uP ?_ ?_ <;> (intro h; ((try simp only [zs, ne_eq, and_true, true_and, eq_self, reduceCtorEq] at h); try exact zx))) | fail)
    all_goals first | contradiction | exact sp1 uZ ⟨rfl, rfl⟩ | (refine sp1 uZ ⟨?_, rfl⟩; simp_all)
end Go.HL
end

/-! JgB -/
section
namespace Go.HL
open Go Go.Proofs
set_option linter.unusedVariables false
set_option linter.unusedSimpArgs false
theorem er9 {T : Nat} {E : Nat → Addr} {L : Heap} (h : Ez T E L) : Er T E [2, 8, 9] L := h.er [2, 8, 9]
set_option maxHeartbeats 2000000 attribute [local irreducible] HW HO HQ HD HC QOp Has Upd Puts Gets seqQ blkQ loopQ fnQ actQ nextP unQ MapF
attribute [local irreducible] faC
theorem judged_calls (T : Nat) (E : Nat → Addr) (L : Heap) (hE : Ez T E L) : HC Tryz.prog 52 [] L (fun v L' => v = .bool true ∧ L' = L) := by
  have hT := hE.ty
  have k1 := jcheck_calls T E none 0 [] 1 L (er9 hE) (.inl rfl) (by decide) (by decide)
  have k2 := jcheck_calls T E none 0 [] 0 L (er9 hE) (.inl rfl) (by decide) (by decide)
  have k3 := agree_calls T E none 0 [] L (hE.er [9]) (.inl rfl) (by decide)
  refine Za (fun _ _ => Tryz.call52 _ _) Tryz.func52 rfl Tryz.ntmps52 (Nat.le_of_ble_eq_true rfl) ?_; simp only [args0, Nat.reduceAdd]
  repeat' (first | refine uN ?_ | (refine uP ?_ ?_ <;> (intro h; ((try simp only [zs, ne_eq, and_true, true_and, eq_self, reduceCtorEq] at h); try exact zx))) | fail)
  refine gc k1 ?_
  rintro v L' ⟨c, hv, rfl⟩
  rw [show efM 1 [] = (0, -1) from by simp [efM, chkM_end]] at hv
  obtain ⟨rfl, rfl⟩ := hv.zero
  repeat' (first | refine uN ?_ | (refine uP ?_ ?_ <;> (intro h; ((try simp only [zs, ne_eq, and_true, true_and, eq_self, reduceCtorEq] at h); try exact zx))) | fail)
  refine ho_sp (L' := L) ?_ (LS.refl _)
  refine gc k2 ?_
  rintro v L' ⟨c, hv, rfl⟩
  rw [show efM 0 [] = (2, -1) from rfl] at hv
  repeat' (first | refine uN ?_ | (refine uP ?_ ?_ <;> (intro h; ((try simp only [zs, ne_eq, and_true, true_and, eq_self, reduceCtorEq] at h); try exact zx))) | fail)
  refine gc (coded3_any T E v 2 c L hE hv) ?_
  rintro v L' ⟨rfl, rfl⟩
  repeat' (first | refine uN ?_ | (refine uP ?_ ?_ <;> (intro h; ((try simp only [zs, ne_eq, and_true, true_and, eq_self, reduceCtorEq] at h); try exact zx))) | fail)
  refine ho_sp (L' := L) ?_ uL
  refine gc k3 ?_
  rintro v L' ⟨c3, hv, rfl⟩
  rw [show agF [] = (0, -1) from by simp [agF, agD_end]] at hv
  obtain ⟨rfl, rfl⟩ := hv.zero
  repeat' (first | refine uN ?_ | (refine uP ?_ ?_ <;> (intro h; ((try simp only [zs, ne_eq, and_true, true_and, eq_self, reduceCtorEq] at h); try exact zx))) | fail)
  exact sp1 (L' := L) (LS.refl _) ⟨rfl, rfl⟩
end Go.HL
end

/-! PwF -/
section
namespace Go.HL
open Go Go.Proofs
set_option linter.unusedVariables false
set_option linter.unusedSimpArgs false
theorem rd_ev {L : Heap} {a : Option Addr} {xs : List Evt} (h : Rd ec 3 L a xs) : Rd evc 3 L a (xs.map toEv) := by
  rcases h with h | ⟨b, i, l, E, fr, h1, hb, hg⟩
  · exact .inl (by rw [h]; rfl)
  · refine .inr ⟨b, i, l, E, fr, h1, hb, fun k x hx => ?_⟩
    rw [List.getElem?_map, Option.map_eq_some_iff] at hx
    obtain ⟨y, hy, rfl⟩ := hx
    exact hg k y hy
theorem run_all {w : List Int} (hc : checkW w = none) (l : List Int) : WI (runW (newW w) l).1 ∧ SafeW (runW (newW w) l).1 ∧ EvW (runW (newW w) l).1 ∧ (runW (newW w) l).1.w = w := by
  have hM := new_ok hc
  have h1 := (run_ok hM l).1
  have h2 := run_safe (l.take 3000) (q := (newW w, [])) hM (safe_new hc) (ev_new w)
  exact ⟨h1.wi, h2.1, h2.2, h1.same.w⟩
set_option maxHeartbeats 2000000 attribute [local irreducible] HW HO HQ HD HC QOp Has Upd Puts Gets seqQ blkQ loopQ fnQ actQ nextP unQ MapF
attribute [local irreducible] runW newW
theorem playAgrees_calls (T : Nat) (E : Nat → Addr) (a a2 : Option Addr) (cap cap2 : Nat) (w l : List Int) (L : Heap) (hE : Ez T E L) (hR : Rd ic 1 L a w) (hR2 : Rd ic 1 L a2 l) (hd : ∀ v ∈ l, v ≤ 9223372036854775807) :
    HC Tryz.prog 10 [.slice a w.length cap, .slice a2 l.length cap2] L (fun v L' => v = .bool true ∧ L' = L) := by
  have kb := born_calls T E L hE
  by_cases hlc : w.length ≤ 30 ∧ l.length ≤ 400
  · obtain ⟨hw30, hl1⟩ := hlc
    have ko := fun L hR => ownInts_calls a cap w L hR (by omega)
    have ko2 := fun L hR => ownInts_calls a2 cap2 l L hR (by omega)
    have kn0 := fun v c L hG hv => wnew_calls T E v w c L hG hv (by omega)
    cases hc : checkW w with
    | some e =>
      simp only [hc] at kn0
      refine Za (fun _ _ => Tryz.call10 _ _) Tryz.func10 rfl Tryz.ntmps10 (Nat.le_of_ble_eq_true rfl) ?_; simp only [args0, Nat.reduceAdd]
      repeat' (first | refine uN ?_ | refine uC (kb) ?_ | (refine uP ?_ ?_ <;> (intro h; ((try simp only [zs, ne_eq, and_true, true_and, eq_self, reduceCtorEq] at h); try exact zx))) | fail)
      refine gc (ko _ hR) ?_
      rintro v L' ⟨o1, ho1, rfl⟩
      repeat' (first | refine uN ?_ | refine uC (kb) ?_ | (refine uP ?_ ?_ <;> (intro h; ((try simp only [zs, ne_eq, and_true, true_and, eq_self, reduceCtorEq] at h); try exact zx))) | fail)
      refine gc (kn0 _ _ _ (hE.er [2, 3, 4, 6]) ho1) ?_
      rintro v L' ⟨rfl, rfl⟩
      repeat' (first | refine uN ?_ | refine uC (kb) ?_ | (refine uP ?_ ?_ <;> (intro h; ((try simp only [zs, ne_eq, and_true, true_and, eq_self, reduceCtorEq] at h); try exact zx))) | fail)
      exact sp1 (LS.c (LS.refl _)) ⟨rfl, rfl⟩
    | none =>
      simp only [hc] at kn0
      obtain ⟨c1, c2, -⟩ := check_none hc
      have hM := new_ok hc
      have hnl : (newW w).l.length = 0 := by unfold newW; rfl
      have kn := fun v c L hG hv => HC.shutN (V := fun u G => u = .tuple ⟨[pt G.wp 0, .nilIface]⟩) (kn0 v c L hG hv)
      have kr1 := fun G a cap L hE hW hR hcap => HC.shutC (V := fun v c => Vec 3 1 ic v (runW (newW w) l).2 c) (run_calls T E G (newW w) a cap l L hE hW hM (by omega) hR hcap hd)
      obtain ⟨g1, g2, g3, g4⟩ := run_all hc l
      have hwell := ev_well g1 g2 g3
      rw [g4] at hwell
      have hef := efM_well (n := w.length) c1 c2 hwell
      have hevl := g1.evl
      generalize runW (newW w) l = R1 at *
      obtain ⟨M1, s1⟩ := R1
      simp only at kr1 hef hevl g1
      have kev := fun G L hW => HC.shutR (V := fun v c => Vec 81 3 ec v M1.ev c) (wevents_calls G M1 L hW (by omega))
      refine Za (fun _ _ => Tryz.call10 _ _) Tryz.func10 rfl Tryz.ntmps10 (Nat.le_of_ble_eq_true rfl) ?_; simp only [args0, Nat.reduceAdd]
      repeat' (first | refine uN ?_ | refine uC (kb) ?_ | (refine uP ?_ ?_ <;> (intro h; ((try simp only [zs, ne_eq, and_true, true_and, eq_self, reduceCtorEq] at h); try exact zx))) | fail)
      refine gc (ko _ hR) ?_
      rintro v L' ⟨o1, ho1, rfl⟩
      repeat' (first | refine uN ?_ | refine uC (kb) ?_ | (refine uP ?_ ?_ <;> (intro h; ((try simp only [zs, ne_eq, and_true, true_and, eq_self, reduceCtorEq] at h); try exact zx))) | fail)
      refine gc (kn _ _ _ (hE.er [2, 3, 4, 6]) ho1) ?_
      rintro v L' ⟨Ga, rfl, hWa, rfl⟩
      repeat' (first | refine uN ?_ | refine uC (kb) ?_ | (refine uP ?_ ?_ <;> (intro h; ((try simp only [zs, ne_eq, and_true, true_and, eq_self, reduceCtorEq] at h); try exact zx))) | fail)
      refine gc (ko2 _ ((hR2.cons _).cons _)) ?_
      rintro v L' ⟨o3, ho3, rfl⟩
      obtain ⟨a3, cap3, rfl, hcap3, hR3⟩ := Vec.rd ho3 ic_len
      refine fo 1 ?_
      refine gc (kr1 Ga a3 cap3 _ ((hE.cons _).cons _) hWa (hR3 _) hcap3) ?_
      rintro v L' ⟨f1, hf1, Ga1, e1, hWa1, rfl⟩
      rw [← e1]
      repeat' (first | refine uN ?_ | refine uC (kb) ?_ | (refine uP ?_ ?_ <;> (intro h; ((try simp only [zs, ne_eq, and_true, true_and, eq_self, reduceCtorEq] at h); try exact zx))) | fail)
      refine gc (kev Ga1 _ hWa1) ?_
      rintro v L' ⟨c12, hv12, rfl⟩
      obtain ⟨a12, cap12, rfl, hcap12, hR12⟩ := hv12.rd ec_len
      repeat' (first | refine uN ?_ | refine uC (kb) ?_ | (refine uP ?_ ?_ <;> (intro h; ((try simp only [zs, ne_eq, and_true, true_and, eq_self, reduceCtorEq] at h); try exact zx))) | fail)
      have kj := jcheck_calls T E a12 cap12 (M1.ev.map toEv) w.length (c12 :: wdC Ga1 M1 :: f1 :: o3 :: o1 :: L) ((((((hE.er [2, 8, 9]).cons _).cons _).cons _).cons _).cons _) (rd_ev (hR12 _)) (by rw [List.length_map]; omega) (by rw [List.length_map]; exact hcap12)
      rw [List.length_map, hef] at kj
      refine gc kj ?_
      rintro v L' ⟨c, hfv, rfl⟩
      obtain ⟨rfl, rfl⟩ := hfv.zero
      repeat' (first | refine uN ?_ | refine uC (kb) ?_ | (refine uP ?_ ?_ <;> (intro h; ((try simp only [zs, ne_eq, and_true, true_and, eq_self, reduceCtorEq] at h); try exact zx))) | fail)
      refine sp1 (L' := L) ?_ ⟨rfl, rfl⟩
      repeat (first | exact LS.refl _ | refine LS.c ?_)
  · refine Za (fun _ _ => Tryz.call10 _ _) Tryz.func10 rfl Tryz.ntmps10 (Nat.le_of_ble_eq_true rfl) ?_; simp only [args0, Nat.reduceAdd]
    repeat' (first | refine uN ?_ | refine uC (kb) ?_ | (refine uP ?_ ?_ <;> (intro h; ((try simp only [zs, ne_eq, and_true, true_and, eq_self, reduceCtorEq] at h); try exact zx))) | fail)
    all_goals exact sp1 (LS.refl _) ⟨rfl, rfl⟩
theorem codedZ (T : Nat) (E : Nat → Addr) (v : Value) (code at_ : Int) (c : List Blk) (L : Heap) (hE : Ez T E L) (h : FV T E v code at_ c) : HC Tryz.prog 28 [v, iv 0] (c :: L) (fun v L' => v = .bool (decide (code = 0)) ∧ L' = c :: L) := by
  rcases h with ⟨e, he, rfl, rfl, hx, rfl⟩ | ⟨pb, k, hk, rfl, rfl, rfl⟩
  · exact coded3_calls T E e 0 ([] :: L) (hE.cons _) he
  · have hc := codeF_calls T E k pb at_ (0, 0) _ (faC pb at_ T E (some k) :: L) (hE.cons _) hk Zh
    have hk0 : k ≠ 0 := fun e => by subst e; exact absurd hk (by decide)
    rw [show decide ((k : Int) = 0) = false from decide_eq_false (by omega)]
    refine Za (fun _ _ => Tryz.call28 _ _) Tryz.func28 rfl Tryz.ntmps28 (Nat.le_of_ble_eq_true rfl) ?_; simp only [args0, Nat.reduceAdd]
    repeat' (first | refine uN ?_ | refine uC (hc) ?_ | (refine uP ?_ ?_ <;> (intro h; ((try simp only [zs, ne_eq, and_true, true_and, eq_self, reduceCtorEq] at h); try exact zx))) | fail)
    all_goals first | contradiction | (exfalso; omega) | exact sp1 uZ ⟨rfl, rfl⟩ | (refine sp1 uZ ⟨?_, rfl⟩; simp_all)
theorem flat_set : ∀ (xs : List Evt) (k : Nat) (hk : k < xs.length) (p : Int) (sp : List Value), ((xs.map ec).flatten ++ sp).set (0 + k * 3 + 2) (iv p) = ((xs.set k { xs[k] with ph := p }).map ec).flatten ++ sp
  | [], k, hk, _, _ => by simp at hk
  | x :: xs, 0, hk, p, sp => by simp [ec]
  | x :: xs, k + 1, hk, p, sp => by
    have ih := flat_set xs k (by simpa using hk) p sp
    simp only [List.map_cons, List.flatten_cons, List.set_cons_succ, List.getElem_cons_succ, List.append_assoc]
    rw [← ih, show 0 + (k + 1) * 3 + 2 = (ec x).length + (0 + k * 3 + 2) by rw [ec_len]; omega, List.set_append_right _ _ (by omega)]
    congr 2
    omega
theorem toEv_flip {xs : List Evt} {k : Nat} (hk : k < xs.length) : ((xs.set k { xs[k] with ph := 5 - xs[k].ph }).map toEv) = (xs.map toEv).set k (flipE ((xs.map toEv)[k]'(by simpa using hk))) := by
  rw [List.map_set]
  congr 1
  rw [List.getElem_map]
  rfl
def pairN (xs : List Evt) (k i : Nat) : Bool := (List.range i).any fun j => decide (j ≠ k) && decide ((xs.getD j ⟨0, 0, 0⟩).deal = (xs.getD k ⟨0, 0, 0⟩).deal)
theorem pairN_succ (xs : List Evt) (k i : Nat) : pairN xs k (i + 1) = (pairN xs k i || (decide (i ≠ k) && decide ((xs.getD i ⟨0, 0, 0⟩).deal = (xs.getD k ⟨0, 0, 0⟩).deal))) := by
  unfold pairN
  rw [List.range_succ, List.any_append]
  simp
theorem pairN_all {xs : List Evt} {k : Nat} : pairN xs k xs.length = pairB (xs.map toEv) k := by
  unfold pairN pairB
  rw [List.length_map]
  congr 1
  funext j
  have e : ∀ q, ((xs.map toEv).getD q ⟨0, 0, 0⟩).d = (xs.getD q ⟨0, 0, 0⟩).deal := fun q => by
    simp only [List.getD, List.getElem?_map]
    cases xs[q]? <;> rfl
  rw [e, e]
end Go.HL
end
