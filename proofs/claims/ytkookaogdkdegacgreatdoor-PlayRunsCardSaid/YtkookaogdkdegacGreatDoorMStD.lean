/- Texts laid into one, without what the claim does not use. Conditions: none. -/
import Derived.Test.YtkookaogdkdegacGreatDoorMStC
/-! WoJ -/
section
namespace Go.HL
open Go Go.Proofs
set_option linter.unusedVariables false
set_option linter.unusedSimpArgs false
theorem WI.at {M : Wm} (h : WI M) {s : Int} (h0 : 0 ≤ s) (h1 : s < M.n.length) : NdI M.w s.toNat (Zd M s) := h.nd s.toNat _ (getD_some (by omega))
theorem Zbi {M : Wm} {s : Int} {m : Nd} (h0 : 0 ≤ s) (h1 : s < M.n.length) : Zd (Yp M s m) s = m := by
 unfold Zd Yp
 simp only
 rw [List.getD, List.getElem?_set_self (by omega)]
 rfl
theorem Zcs {M : Wm} {s q : Int} {m : Nd} (h : q.toNat ≠ s.toNat) : Zd (Yp M s m) q = Zd M q := by
 unfold Zd Yp
 simp only [List.getD]
 rw [List.getElem?_set_ne (Ne.symm h)]
structure Same (M M' : Wm) : Prop where
 w : M'.w = M.w
 n : M'.n.length = M.n.length
theorem Same.refl (M : Wm) : Same M M := ⟨rfl, rfl⟩
theorem Same.trans {A B C : Wm} (h : Same A B) (h' : Same B C) : Same A C := ⟨h'.w.trans h.w, h'.n.trans h.n⟩
theorem Zjt (M : Wm) (s : Int) (m : Nd) : Same M (Yp M s m) := ⟨rfl, by simp [Yp]⟩
theorem Zdn (M : Wm) (s : Int) (f : Fr) : Same M (Yo M s f).1 := ⟨rfl, by simp [Yo, Yp]⟩
theorem hearW_l (M : Wm) (s : Int) (f : Fr) : (Yo M s f).1.l = M.l := rfl
theorem Zkv {M : Wm} {s : Int} {f : Fr} (h0 : 0 ≤ s) (h1 : s < M.n.length) (h : (Yo M s f).2.2 = true) : (Zd (Yo M s f).1 s).site ≠ none := by
 have e : Zd (Yo M s f).1 s = (Y7 s (Zd M s) M.ev f).1 := by
  unfold Yo
  exact Zbi h0 h1
 rw [e]
 unfold Yo at h
 simp only at h
 unfold Y7 at h ⊢
 split at h
 ·cases h
 ·split at h
  ·cases h
  ·rename_i hoff
   simp only [if_neg hoff]
   simp
theorem Zgx (M : Wm) (s : Int) (f : Fr) : (Yo M s f).2.1.length ≤ 1 := by
 unfold Yo Y7
 split
 ·simp
 ·rename_i j ref _
  split
  ·simp
  ·simp only
   unfold Zp
   split
   ·simp
   split
   ·simp
   split
   ·simp
   ·simp only
    split <;> simp
theorem Zjp {w : List Int} {s d : Nat} (hs : s < w.length) (hw : w.length ≤ 7) (hd : d < 6) : ∀ (l : List Fr) (x : Ld) (acc : List Fr), LdI w s d x → (∀ f ∈ l, Zif w.length f) → (l.foldl (fun q f => ((Zs q.1 f).1, q.2 ++ (Zs q.1 f).2)) (x, acc)).2.length ≤ acc.length + 7 * l.length
 | [], x, acc, hx, _ => by simp
 | f :: l, x, acc, hx, hl => by
  rw [List.foldl_cons]
  have k1 := (hx.hear hs hw hd (hl f (by simp)).1).1
  have k2 := Zaf x f
  rw [hx.ww] at k2
  have := Zjp hs hw hd l _ (acc ++ (Zs x f).2) k1 (fun g hg => hl g (by simp [hg]))
  simp only [List.length_append, List.length_cons] at this ⊢
  omega
theorem Zmf (m : Ld) : (Xd m).length ≤ m.w.length := by
 unfold Xd
 split <;> exact Uf _ (Zfe m _ _) _
structure TryOk (M M' : Wm) (s : Int) (b : Bool) : Prop where
 wi : WI M'
 same : Same M M'
 len : M'.l.length ≤ M.l.length + 14
 up : b = true → (Zd M' s).site ≠ none
theorem Zpr {w : List Int} {s : Nat} {m : Nd} (hm : NdI w s m) {d p : Int} (hd : 0 ≤ d ∧ d < 6) (hp : 0 ≤ p ∧ p ≤ 1048576) : 0 ≤ Yv m d p ∧ Yv m d p ≤ 1048576 := by
 unfold Yv
 split
 ·exact hp
 ·rename_i x hx
  have := hm.ldi d.toNat x (by
   have h6 := hm.leads
   rw [getD_some (x := none) (l := m.leads) (i := d.toNat) (by omega), hx])
  have h1 := this.seen0
  have h2 := this.seen1
  omega
theorem try_ok {M : Wm} (h : WI M) {s d p : Int} (h0 : 0 ≤ s) (h1 : s < M.n.length) (hs : (Zd M s).site ≠ none) (hd : 0 ≤ d ∧ d < 6) (hp : 0 ≤ p ∧ p ≤ 1048576) : TryOk M (Zar M s d p).1 s (Zar M s d p).2 := by
 have hn := h.wn
 have hw := h.wl
 have hw1 := h.w1
 have hab := Zpr (h.at h0 h1) hd hp
 unfold Zar
 simp only
 generalize ha : Zas M.w.length s (Yv (Zd M s) d p + 1) = a
 have ha1 : 1 ≤ a := by
  unfold Zas at ha
  have := Int.emod_nonneg (s - (Yv (Zd M s) d p + 1)) (by omega : (M.w.length : Int) ≠ 0)
  omega
 split
 ·exact ⟨h, .refl _, by simp, fun _ => hs⟩
 rename_i hle
 obtain ⟨hI, hF⟩ := h.hear (f := W5 s d a) h0 h1 (by show s < _; omega)
 have hS := Zdn M s (W5 s d a)
 have hone := Zgx M s (W5 s d a)
 have hl := hearW_l M s (W5 s d a)
 have hst := Zkv (f := W5 s d a) h0 h1
 generalize Yo M s (W5 s d a) = R at *
 split
 ·rename_i hr
  exact ⟨hI, hS, by rw [hl]; omega, fun e => by cases e⟩
 rename_i hr
 have hr' : R.2.2 = true := by simpa using hr
 have h1' : s < R.1.n.length := by rw [hS.n]; exact h1
 have hx := hI.at h0 h1'
 have hNI : LdI M.w s.toNat d.toNat (Zh s d M.w a 4) := by
  have := Zij (w := M.w) (s := s.toNat) (d := d.toNat) (a := a) (k := 4) (by omega) (by omega)
  rw [show ((s.toNat : Nat) : Int) = s by omega, show ((d.toNat : Nat) : Int) = d by omega] at this
  exact this
 have hho := Zdf (w := M.w) (s := s.toNat) (d := d.toNat) (by omega) hw (by omega) R.2.1 (Zh s d M.w a 4) [] hNI hF (fun f hf => by cases hf)
 have hhl := Zjp (w := M.w) (s := s.toNat) (d := d.toNat) (by omega) hw (by omega) R.2.1 (Zh s d M.w a 4) [] hNI hF
 change LdI M.w s.toNat d.toNat (Z2 (Zh s d M.w a 4) R.2.1).1 ∧ ∀ f ∈ (Z2 (Zh s d M.w a 4) R.2.1).2, Zif M.w.length f at hho
 change (Z2 (Zh s d M.w a 4) R.2.1).2.length ≤ _ at hhl
 have hso := Zml hNI (by omega) hw (by omega)
 have hsl := Zmf (Zh s d M.w a 4)
 rw [show (Zh s d M.w a 4).w = M.w from rfl] at hsl
 have hset := hI.set (m := { Zd R.1 s with leads := (Zd R.1 s).leads.set d.toNat (some (Z2 (Zh s d M.w a 4) R.2.1).1) }) h0 (hx.lead (by rw [hS.w]; exact hho.1))
 refine ⟨hset.setL fun f hf => ?_, hS.trans ⟨rfl, by simp [Yp]⟩, ?_, fun _ => ?_⟩
 ·show Zif R.1.w.length f
  rw [hS.w]
  rw [hl] at hf
  rcases List.mem_append.1 hf with hf | hf
  ·rcases List.mem_append.1 hf with hf | hf
   ·exact h.fr f hf
   ·exact hso f hf
  ·exact hho.2 f hf
 ·simp only [List.length_append, hl]
  simp only [List.length_nil] at hhl
  omega
 ·have e : (Zd (Yp R.1 s { Zd R.1 s with leads := (Zd R.1 s).leads.set d.toNat (some (Z2 (Zh s d M.w a 4) R.2.1).1) }) s).site ≠ none := by
   rw [Zbi h0 h1']
   exact hst hr'
  exact e
theorem Zq8 {M : Wm} (h : WI M) {s : Int} {d : Nat} (h0 : 0 ≤ s) (h1 : s < M.n.length) (hd : d < 6) {st : St} (hst : Zlk st) : ∀ f ∈ Wz M s d st, Zif M.w.length f := by
 intro f hf
 have hn := h.wn
 have hw := h.wl
 unfold Wz at hf
 obtain ⟨i, hi, rfl⟩ := List.mem_map.1 hf
 have := List.mem_range.1 hi
 obtain ⟨g1, g2, g3, g4, g5⟩ := hst
 unfold Zif Xv
 simp only
 omega
theorem Zcv (M : Wm) (s d : Int) (st : St) : (Wz M s d st).length = M.w.length := by simp [Wz]
structure TickOk (M : Wm) (q : Wm × Bool) (s : Int) (k : Nat) : Prop where
 wi : WI q.1
 same : Same M q.1
 len : q.1.l.length ≤ M.l.length + 14 * k
 up : q.2 = true → (Zd q.1 s).site ≠ none
theorem tickD_ok {M : Wm} {q : Wm × Bool} {s : Int} {k d : Nat} (h : TickOk M q s k) (h0 : 0 ≤ s) (h1 : s < M.n.length) (hd : d < 6) : TickOk M (tickD s q d) s (k + 1) := by
 obtain ⟨M1, b⟩ := q
 have hl := h.len
 have hwl := h.wi.wl
 have hn := h.same.n
 simp only at hl hn hwl
 unfold tickD
 split
 ·exact ⟨h.wi, h.same, by simp only; omega, h.up⟩
 split
 ·exact ⟨h.wi, h.same, by simp only; omega, fun e => by cases e⟩
 rename_i hb _ j ref hs
 have hs' : (Zd M1 s).site = some (j, ref) := hs
 have hni := h.wi.at (s := s) h0 (by simp only; omega)
 have hS := (hni.jn hs').st d hd
 split
 ·exact ⟨h.wi, h.same, by simp only; omega, h.up⟩
 split
 ·refine ⟨h.wi.setL fun f hf => ?_, ⟨h.same.w, h.same.n⟩, ?_, fun _ => h.up (by simpa using hb)⟩
  ·rcases List.mem_append.1 hf with hf | hf
   ·exact h.wi.fr f hf
   ·exact Zq8 h.wi h0 (by simp only; omega) hd hS f hf
  ·simp only [List.length_append, Zcv]
   omega
 ·obtain ⟨g1, g2, g3, g4, g5⟩ := hS
  have ht := try_ok h.wi (s := s) (d := d) (p := (Yq j d).pr) h0 (by simp only; omega) (h.up (by simpa using hb)) (by omega) (by omega)
  have h4 : (Zar M1 s d (Yq j d).pr).1.l.length ≤ M1.l.length + 14 := ht.len
  have h5 : (Zar M1 s d (Yq j d).pr).1.l.length ≤ M.l.length + 14 * (k + 1) := by omega
  exact ⟨ht.wi, h.same.trans ht.same, h5, ht.up⟩
theorem Zaa {M : Wm} (h : WI M) {s : Int} (h0 : 0 ≤ s) (h1 : s < M.n.length) (hs : (Zd M s).site ≠ none) : ∀ k, k ≤ 6 → TickOk M ((List.range k).foldl (tickD s) (M, true)) s k
 | 0, _ => ⟨h, .refl _, by simp, fun _ => hs⟩
 | k + 1, hk => by
  rw [List.range_succ, List.foldl_append]
  exact tickD_ok (Zaa h h0 h1 hs k (by omega)) h0 h1 (by omega)
structure StepOk (M M' : Wm) (k : Nat) : Prop where
 wi : WI M'
 same : Same M M'
 len : M'.l.length ≤ M.l.length + k
theorem StepOk.refl {M : Wm} (h : WI M) (k : Nat) : StepOk M M k := ⟨h, .refl _, by omega⟩
theorem StepOk.mono {M M' : Wm} {k k' : Nat} (h : StepOk M M' k) (hk : k ≤ k') : StepOk M M' k' := ⟨h.wi, h.same, by have := h.len; omega⟩
theorem W7 {M : Wm} {s : Int} (h : Zbm M s = none) : 0 ≤ s ∧ s < M.n.length ∧ (Zd M s).site ≠ none := by
 unfold Zbm at h
 split at h
 ·cases h
 ·rename_i hn
  obtain ⟨h0, h1⟩ := Xc hn
  split at h
  ·cases h
  ·rename_i hs
   exact ⟨h0, h1, fun e => hs (by rw [e]; rfl)⟩
theorem Zm4 {M : Wm} (h : WI M) (s : Int) : StepOk M (Wt M s).1 84 := by
 unfold Wt
 split
 ·exact .refl h _
 ·rename_i hu
  obtain ⟨h0, h1, hs⟩ := W7 hu
  have := Zaa h h0 h1 hs 6 (by omega)
  exact ⟨this.wi, this.same, this.len⟩
theorem Zji {M : Wm} (h : WI M) (s d : Int) : StepOk M (Xk M s d).1 7 := by
 have hn := h.wn
 have hw := h.wl
 unfold Xk
 split
 ·exact .refl h _
 rename_i hb
 split
 ·exact .refl h _
 split
 ·exact .refl h _
 have hNI : LdI M.w s.toNat d.toNat (Zh s d M.w 0 2) := by
  have := Zij (w := M.w) (s := s.toNat) (d := d.toNat) (a := 0) (k := 2) (by omega) (by omega)
  rw [show ((s.toNat : Nat) : Int) = s by omega, show ((d.toNat : Nat) : Int) = d by omega] at this
  exact this
 have hso := Zml hNI (by omega) hw (by omega)
 have hsl := Zmf (Zh s d M.w 0 2)
 rw [show (Zh s d M.w 0 2).w = M.w from rfl] at hsl
 have hset := h.set (m := { Zd M s with leads := (Zd M s).leads.set d.toNat (some (Zh s d M.w 0 2)) }) (s := s) (by omega) ((h.at (by omega) (by omega)).lead hNI)
 refine ⟨hset.setL fun f hf => ?_, ⟨rfl, by simp [Yp]⟩, by simp; omega⟩
 rcases List.mem_append.1 hf with hf | hf
 ·exact h.fr f hf
 ·exact hso f hf
theorem Zlx {M : Wm} (h : WI M) (s d : Int) : StepOk M (Wp M s d).1 0 := by
 unfold Wp
 split
 ·exact .refl h _
 split
 ·exact .refl h _
 rename_i hu
 obtain ⟨h0, h1, hs⟩ := W7 hu
 have hx := h.at h0 h1
 refine ⟨h.set h0 ?_, Zjt _ _ _, by simp [Yp]⟩
 unfold Ui
 split
 ·exact hx
 ·rename_i j ref hj
  exact ⟨hx.leads, hx.done, hx.b512, hx.si, fun j2 r2 e => by cases e; exact hx.up j ref hj, fun e => (by cases e), hx.ldi⟩
theorem Zcj {M : Wm} (h : WI M) {k : Int} (hk : Zk1 M k = none) : Zif M.w.length (M.l.getD k.toNat Ys) ∧ 0 ≤ k ∧ k < M.l.length := by
 unfold Zk1 at hk
 split at hk
 ·cases hk
 ·have hlt : k.toNat < M.l.length := by omega
  have e : M.l.getD k.toNat Ys = M.l[k.toNat] := by rw [List.getD, List.getElem?_eq_getElem hlt]; rfl
  rw [e]
  exact ⟨h.fr _ (List.getElem_mem _), by omega, by omega⟩
theorem Ve {M : Wm} (h : WI M) (k : Int) : StepOk M (Zw M k).1 6 := by
 have hn := h.wn
 have hw := h.wl
 unfold Zw
 split
 ·exact .refl h _
 rename_i hk
 obtain ⟨⟨hbad, hto, hfr⟩, hk0, hk1⟩ := Zcj h hk
 generalize M.l.getD k.toNat Ys = f at *
 have hE := h.erase k.toNat
 have hel : (M.l.eraseIdx k.toNat).length = M.l.length - 1 := by rw [List.length_eraseIdx, if_pos (by omega)]
 have hS1 : Same M { M with l := M.l.eraseIdx k.toNat } := ⟨rfl, rfl⟩
 have hb2 := hbad
 unfold Xv at hb2
 simp only
 split
 ·exact ⟨hE, hS1, by simp only [hel]; omega⟩
 split
 ·split
  ·exact ⟨hE, hS1, by simp only [hel]; omega⟩
  ·rename_i x hx
   have hni := hE.at (s := f.to) (by omega) (by simp only; omega)
   have h6 := hni.leads
   have hLI := hni.ldi f.dl.toNat x (by rw [getD_some (x := none) (by omega), hx])
   obtain ⟨k1, k2⟩ := hLI.hear (by simp only; omega) hw (by omega) hbad
   have k3 := Zaf x f
   rw [hLI.ww] at k3
   have hset := hE.set (m := { Zd { M with l := M.l.eraseIdx k.toNat } f.to with leads := (Zd { M with l := M.l.eraseIdx k.toNat } f.to).leads.set f.dl.toNat (some (Zs x f).1) }) (s := f.to) (by omega) (hni.lead k1)
   refine ⟨hset.setL fun g hg => ?_, ⟨rfl, by simp [Yp]⟩, ?_⟩
   ·rcases List.mem_append.1 hg with hg | hg
    ·exact hE.fr g hg
    ·exact k2 g hg
   ·simp only [List.length_append, hel]
    simp only at k3
    omega
 ·obtain ⟨k1, k2⟩ := hE.hear (s := f.to) (f := f) (by omega) (by simp only; omega) hfr
  have k3 := Zgx { M with l := M.l.eraseIdx k.toNat } f.to f
  have k4 := Zdn { M with l := M.l.eraseIdx k.toNat } f.to f
  refine ⟨k1.setL fun g hg => ?_, ⟨k4.w, k4.n⟩, ?_⟩
  ·show Zif (Yo { M with l := M.l.eraseIdx k.toNat } f.to f).1.w.length g
   rw [k4.w]
   rcases List.mem_append.1 hg with hg | hg
   ·exact hE.fr g hg
   ·exact k2 g hg
  ·simp only [List.length_append, hel]
   omega
theorem Zt4 {M : Wm} (h : WI M) (k : Int) : StepOk M (Uy M k).1 0 := by
 unfold Uy
 split
 ·exact .refl h _
 ·exact ⟨h.erase _, ⟨rfl, rfl⟩, by simp only [List.length_eraseIdx]; split <;> omega⟩
theorem Zp2 {M : Wm} (h : WI M) (k : Int) : StepOk M (Vv M k).1 1 := by
 unfold Vv
 split
 ·exact .refl h _
 rename_i hk
 obtain ⟨hf, hk0, hk1⟩ := Zcj h hk
 refine ⟨h.setL fun g hg => ?_, ⟨rfl, rfl⟩, ?_⟩
 ·rcases List.mem_append.1 hg with hg | hg
  ·exact h.fr g (List.mem_of_mem_take hg)
  ·rcases List.mem_cons.1 hg with hg | hg
   ·rw [hg]; exact hf
   ·exact h.fr g (List.mem_of_mem_drop hg)
 ·simp only [List.length_append, List.length_take, List.length_cons, List.length_drop]
  omega
theorem Zni {M : Wm} (h : WI M) (a b : Int) (c : Bool) : StepOk M (Ue M a b c).1 0 := by
 unfold Ue
 split
 ·exact .refl h _
 ·exact ⟨h.setB _, ⟨rfl, rfl⟩, by simp⟩
theorem cut_ok {M : Wm} (h : WI M) (s n : Int) (hn : n ≤ 9223372036854775807) : StepOk M (Zdw M s n).1 0 := by
 unfold Zdw
 split
 ·exact .refl h _
 split
 ·exact .refl h _
 rename_i hn0 _ hu
 obtain ⟨h0, h1, hs⟩ := W7 hu
 have hx := h.at h0 h1
 refine ⟨h.set h0 ⟨hx.leads, hx.done, hx.b512, hx.si.cut (by omega) hn, hx.up, hx.dn, hx.ldi⟩, Zjt _ _ _, by simp [Yp]⟩
theorem SI.down {m : Pl} {b : Bool} (h : SI m ⟨Zo m.b, b⟩) : SI { m with off := true } ⟨Zo m.b, true⟩ := ⟨⟨h.ji.lo, h.ji.hi, h.ji.c0, h.ji.c1, rfl, rfl⟩, h.st⟩
theorem Zt3 {M : Wm} (h : WI M) (s : Int) : StepOk M (Qb M s).1 0 := by
 unfold Qb
 split
 ·exact .refl h _
 rename_i hu
 obtain ⟨h0, h1, hs⟩ := W7 hu
 have hx := h.at h0 h1
 exact ⟨h.set h0 (hx.fall hx.b512 hx.si.down rfl), Zjt _ _ _, by simp [Yp]⟩
theorem NdI.boot {w : List Int} {s : Nat} {m : Nd} (h : NdI w s m) (dn : List Bool) (hd : dn.length = 6) : NdI w s { Vy m with done := dn } :=
 ⟨h.leads, hd, h.b512, h.si.boot, fun j ref e => by cases e; exact ⟨rfl, rfl⟩, fun e => (by cases e), h.ldi⟩
theorem up_ok {M : Wm} (h : WI M) (s : Int) : StepOk M (Zl5 M s).1 0 := by
 unfold Zl5
 split
 ·exact .refl h _
 split
 ·exact .refl h _
 rename_i hu _
 obtain ⟨h0, h1⟩ := Xc hu
 have hx := h.at h0 h1
 exact ⟨(h.set h0 (hx.boot _ (by rw [Zmt]; exact hx.done))).setE (Zp0 _ _ _ h.evl), ⟨rfl, by simp [Yp]⟩, by simp [Yp]⟩
theorem newNd_I (w : List Int) (s : Nat) : NdI w s newNd := by
 have hS := si_new (n := 512) (by omega) (by omega)
 refine ⟨rfl, rfl, (by show (Yj 512).length = 512; unfold Yj; exact List.length_replicate), hS, fun j ref e => by cases e; exact ⟨rfl, rfl⟩, fun e => (by cases e), fun d x hx => ?_⟩
 simp only [newNd, noLeads, List.getElem?_replicate] at hx
 split at hx <;> cases hx
theorem Zj2 {w : List Int} (h : Yw w = none) : WI (Z5 w) := by
 obtain ⟨c1, c2, -⟩ := Wx h
 refine ⟨h, c2, c1, by simp [Z5], fun f hf => (by cases hf), by simp [Z5], fun s m hm => ?_⟩
 simp only [Z5, List.getElem?_replicate] at hm
 split at hm
 ·cases hm
  exact newNd_I _ _
 ·cases hm
end Go.HL
end

/-! SfA -/
section
namespace Go.HL
open Go Go.Proofs
set_option linter.unusedVariables false
set_option linter.unusedSimpArgs false
structure Vd where
 st : Nat → St
 ld : Nat → Option Ld
 fr : Fr → Prop
structure Gh where
 prep : Int → Option Int
 acc : Nat → Int → Prop
 ref : Nat → Prop
def bit (q i : Nat) : Prop := q / 2 ^ i % 2 = 1
instance (q i : Nat) : Decidable (bit q i) := by unfold bit; infer_instance
section inv
variable (w : List Int)
def Zik (g : Gh) (a : Int) : Prop := ∃ q, q < 2 ^ w.length ∧ Zrr w q = true ∧ ∀ i, i < w.length → bit q i → g.acc i a
def dec (g : Gh) (p : Int) : Prop := (p = 2 ∧ ∃ a, g.prep a = some 4 ∧ Zik w g a) ∨ (p = 3 ∧ ((∃ a, g.prep a = some 5 ∧ Zik w g a) ∨ ∃ s, s < w.length ∧ g.ref s))
def Zfp (v : Vd) (g : Gh) (a : Int) : Prop := ∃ q, q < 2 ^ w.length ∧ Zrr w q = true ∧ ∀ i, i < w.length → bit q i → a < (v.st i).pr ∧ ¬ g.acc i a
def Zpt (v : Vd) (g : Gh) (s : Nat) : Prop := (v.st s).ph ≠ 0 ∧ ¬ g.ref s
def fin (p : Int) : Prop := p = 2 ∨ p = 3
structure TellOk (v : Vd) (g : Gh) (s : Nat) (b : Int) (t : St) : Prop where
 pr : b ≤ (v.st s).pr
 fi : fin t.ph → dec w g t.ph
 pe : t.ph = 4 ∨ t.ph = 5 → t.att < b ∧ g.prep t.att = some t.ph ∧ 0 ≤ t.att
 ac : ∀ a, 0 ≤ a → a < b → g.acc s a → fin t.ph ∨ ((t.ph = 4 ∨ t.ph = 5) ∧ a ≤ t.att)
def frOk (v : Vd) (g : Gh) (f : Fr) : Prop :=
 (f.kd = 2 → if f.yes then Zpt v g f.fr.toNat else dec w g 3) ∧
 (f.kd = 4 → f.yes = true → TellOk w v g f.fr.toNat f.att f.s) ∧
 (f.kd = 5 → g.prep f.att = some f.s.ph) ∧
 (f.kd = 6 → f.yes = true → g.acc f.fr.toNat f.att) ∧
 (f.kd = 7 → fin f.s.ph → dec w g f.s.ph)
structure LeadOk (v : Vd) (g : Gh) (s : Nat) (x : Ld) : Prop where
 two : x.wait = 2 → x.att = 0 ∧ ∀ i, i < w.length → bit x.heard i → Zpt v g i
 four : x.wait = 4 → 1 ≤ x.att ∧ x.att % w.length = s ∧ g.prep x.att = none ∧ x.att ≤ (v.st s).pr ∧ ∀ i, i < w.length → bit x.heard i → TellOk w v g i x.att (x.told.getD i Ww)
 six : x.wait = 6 → g.prep x.att = some x.phase ∧ ∀ i, i < w.length → bit x.heard i → g.acc i x.att
 wt : x.wait = 0 ∨ x.wait = 2 ∨ x.wait = 4 ∨ x.wait = 6
structure SiteOk (v : Vd) (g : Gh) (s : Nat) : Prop where
 ok : Zlk (v.st s)
 fi : fin (v.st s).ph → dec w g (v.st s).ph
 pe : (v.st s).ph = 4 ∨ (v.st s).ph = 5 → g.prep (v.st s).att = some (v.st s).ph
 ac : ∀ a, g.acc s a → a ≤ (v.st s).pr ∧ (fin (v.st s).ph ∨ ((v.st s).ph = 4 ∨ (v.st s).ph = 5) ∧ a ≤ (v.st s).att)
 rf : g.ref s → (v.st s).ph = 3
structure SInv (v : Vd) (g : Gh) : Prop where
 site : ∀ s, s < w.length → SiteOk w v g s
 lead : ∀ s x, s < w.length → v.ld s = some x → LeadOk w v g s x
 fr : ∀ f, v.fr f → frOk w v g f
 p0 : ∀ p, g.prep 0 = some p → p = 4
 pp : ∀ a p, g.prep a = some p → (p = 4 ∨ p = 5) ∧ 0 ≤ a
 own : ∀ a p, 1 ≤ a → g.prep a = some p → a ≤ (v.st (a % w.length).toNat).pr
 com : ∀ a, g.prep a = some 4 → ∀ s, s < w.length → Zpt v g s
 safe : ∀ b q, g.prep b = some q → ∀ a, 0 ≤ a → a < b → Zfp w v g a ∨ g.prep a = some q
end inv
structure GLe (w : List Int) (v v' : Vd) (g g' : Gh) : Prop where
 prep : ∀ a p, g.prep a = some p → g'.prep a = some p
 acc : ∀ s a, g.acc s a → g'.acc s a
 ref : ∀ s, g.ref s → g'.ref s
 st : ∀ s, s < w.length → (v.st s).pr ≤ (v'.st s).pr ∧ ((v.st s).ph ≠ 0 → (v'.st s).ph ≠ 0)
 nref : ∀ s, s < w.length → (v.st s).ph ≠ 0 → ¬ g.ref s → ¬ g'.ref s
 nacc : ∀ s a, s < w.length → a < (v.st s).pr → ¬ g.acc s a → ¬ g'.acc s a
theorem GLe.refl (w : List Int) (v : Vd) (g : Gh) : GLe w v v g g := ⟨fun _ _ h => h, fun _ _ h => h, fun _ h => h, fun _ _ => ⟨Int.le_refl _, fun h => h⟩, fun _ _ _ h => h, fun _ _ _ _ h => h⟩
theorem Zfq {w : List Int} {v v' : Vd} {g g' : Gh} (h : GLe w v v' g g') {a : Int} (hq : Zik w g a) : Zik w g' a := by
 obtain ⟨q, h1, h2, h3⟩ := hq
 exact ⟨q, h1, h2, fun i hi hb => h.acc i a (h3 i hi hb)⟩
theorem Ze7 {w : List Int} {v v' : Vd} {g g' : Gh} (h : GLe w v v' g g') {p : Int} (hd : dec w g p) : dec w g' p := by
 rcases hd with ⟨h1, a, h2, h3⟩ | ⟨h1, ⟨a, h2, h3⟩ | ⟨s, h2, h3⟩⟩
 ·exact .inl ⟨h1, a, h.prep _ _ h2, Zfq h h3⟩
 ·exact .inr ⟨h1, .inl ⟨a, h.prep _ _ h2, Zfq h h3⟩⟩
 ·exact .inr ⟨h1, .inr ⟨s, h2, h.ref _ h3⟩⟩
theorem Zm8 {w : List Int} {v v' : Vd} {g g' : Gh} (h : GLe w v v' g g') {a : Int} (hb : Zfp w v g a) : Zfp w v' g' a := by
 obtain ⟨q, h1, h2, h3⟩ := hb
 refine ⟨q, h1, h2, fun i hi hq => ?_⟩
 obtain ⟨h4, h5⟩ := h3 i hi hq
 exact ⟨by have := (h.st i hi).1; omega, h.nacc i a hi h4 h5⟩
theorem Zei {w : List Int} {v v' : Vd} {g g' : Gh} (h : GLe w v v' g g') {s : Nat} (hs : s < w.length) (hv : Zpt v g s) : Zpt v' g' s := ⟨(h.st s hs).2 hv.1, h.nref s hs hv.1 hv.2⟩
theorem Zlm {w : List Int} {v v' : Vd} {g g' : Gh} (h : GLe w v v' g g') {s : Nat} (hs : s < w.length) {b : Int} {t : St} (ht : TellOk w v g s b t) : TellOk w v' g' s b t := by
 have hst := (h.st s hs).1
 refine ⟨by have := ht.pr; omega, fun hf => Ze7 h (ht.fi hf), fun hp => ⟨(ht.pe hp).1, h.prep _ _ (ht.pe hp).2.1, (ht.pe hp).2.2⟩, fun a h0 ha hacc => ?_⟩
 by_cases hg : g.acc s a
 ·exact ht.ac a h0 ha hg
 ·exact absurd hacc (h.nacc s a hs (by have := ht.pr; omega) hg)
theorem Zv7 {w : List Int} {v v' : Vd} {g g' : Gh} (h : GLe w v v' g g') {f : Fr} (hfr : 0 ≤ f.fr ∧ f.fr < w.length) (hf : frOk w v g f) : frOk w v' g' f := by
 obtain ⟨h2, h4, h5, h6, h7⟩ := hf
 have hi : f.fr.toNat < w.length := by omega
 refine ⟨fun hk => ?_, fun hk hy => Zlm h hi (h4 hk hy), fun hk => h.prep _ _ (h5 hk), fun hk hy => h.acc _ _ (h6 hk hy), fun hk hp => Ze7 h (h7 hk hp)⟩
 have := h2 hk
 split at this
 ·rename_i hy
  rw [if_pos hy]
  exact Zei h hi this
 ·rename_i hy
  rw [if_neg hy]
  exact Ze7 h this
theorem Zqg {w : List Int} {v v' : Vd} {g g' : Gh} (h : GLe w v v' g g') {s : Nat} (hs : s < w.length) {x : Ld} (hx : LeadOk w v g s x) (hn : x.wait = 4 → g'.prep x.att = none) : LeadOk w v' g' s x := by
 refine ⟨fun e => ⟨(hx.two e).1, fun i hi hb => Zei h hi ((hx.two e).2 i hi hb)⟩, fun e => ?_, fun e => ⟨h.prep _ _ (hx.six e).1, fun i hi hb => h.acc _ _ ((hx.six e).2 i hi hb)⟩, hx.wt⟩
 obtain ⟨h1, h2, h3, h4, h5⟩ := hx.four e
 exact ⟨h1, h2, hn e, by have := (h.st s hs).1; omega, fun i hi hb => Zlm h hi (h5 i hi hb)⟩
theorem Zvs {w : List Int} {v v' : Vd} {g g' : Gh} (h : GLe w v v' g g') (hp : g'.prep = g.prep) (hi : ∀ b q, g.prep b = some q → ∀ a, 0 ≤ a → a < b → Zfp w v g a ∨ g.prep a = some q) : ∀ b q, g'.prep b = some q → ∀ a, 0 ≤ a → a < b → Zfp w v' g' a ∨ g'.prep a = some q := fun b q hb a h0 ha => by
 rw [hp] at hb ⊢
 rcases hi b q hb a h0 ha with h1 | h1
 ·exact .inl (Zm8 h h1)
 ·exact .inr h1
end Go.HL
end

/-! SfB -/
section
namespace Go.HL
open Go Go.Proofs
set_option linter.unusedVariables false
set_option linter.unusedSimpArgs false
def upd {α : Type} (f : Nat → α) (s : Nat) (x : α) : Nat → α := fun i => if i = s then x else f i
theorem Zqt {w : List Int} {v v' : Vd} {g g' : Gh} (h : GLe w v v' g g') {t : Nat} (hs : v'.st t = v.st t) (ha : ∀ a, g'.acc t a → g.acc t a) (hr : g'.ref t → g.ref t) (hx : SiteOk w v g t) : SiteOk w v' g' t := by
 refine ⟨by rw [hs]; exact hx.ok, fun hf => ?_, fun hp => ?_, fun a hacc => ?_, fun hrf => ?_⟩
 ·rw [hs] at hf ⊢; exact Ze7 h (hx.fi hf)
 ·rw [hs] at hp ⊢; exact h.prep _ _ (hx.pe hp)
 ·rw [hs]; exact hx.ac a (ha a hacc)
 ·rw [hs]; exact hx.rf (hr hrf)
end Go.HL
end

/-! LdF -/
section
namespace Go.HL
open Go Go.Proofs
set_option linter.unusedVariables false
set_option linter.unusedSimpArgs false
section d
variable {w : List Int} {att : Int} {m : Ld} {acks : Nat} {no : Bool} {fin ph : Int} {f : Fr}
end d
end Go.HL
end

/-! TabC -/
section
namespace Go.HL
open Go Go.Proofs
set_option linter.unusedVariables false
set_option linter.unusedSimpArgs false
set_option maxHeartbeats 2000000 attribute [local irreducible] HW HO HQ HD HC QOp Has Upd Zt Gets Yb Z6 Zr Xr Z4 Zm Xx Zy

end Go.HL
end

/-! SfC -/
section
namespace Go.HL
open Go Go.Proofs
set_option linter.unusedVariables false
set_option linter.unusedSimpArgs false
theorem gle_st {w : List Int} {v v' : Vd} (g : Gh) (h : v'.st = v.st) : GLe w v v' g g := ⟨fun _ _ e => e, fun _ _ e => e, fun _ e => e, fun s _ => by rw [h]; exact ⟨Int.le_refl _, fun e => e⟩, fun _ _ _ e => e, fun _ _ _ _ e => e⟩
theorem inv_of {w : List Int} {v v' : Vd} {g : Gh} (h : SInv w v g) (hst : v'.st = v.st) (hl : ∀ t x, t < w.length → v'.ld t = some x → LeadOk w v g t x) (hb : ∀ f, v'.fr f → 0 ≤ f.fr ∧ f.fr < w.length) (hf : ∀ f, v'.fr f → frOk w v g f) : SInv w v' g := by
 have hle := gle_st (w := w) g hst
 refine ⟨fun t ht => Zqt hle (by rw [hst]) (fun _ e => e) (fun e => e) (h.site t ht), fun t x ht hx => Zqg hle ht (hl t x ht hx) (fun e => ((hl t x ht hx).four e).2.2.1), fun f hx => Zv7 hle (hb f hx) (hf f hx), h.p0, h.pp, fun a p h1 ha => by rw [hst]; exact h.own a p h1 ha, fun a ha t ht => Zei hle ht (h.com a ha t ht), Zvs hle rfl h.safe⟩
end Go.HL
end

/-! SfD -/
section
namespace Go.HL
open Go Go.Proofs
set_option linter.unusedVariables false
set_option linter.unusedSimpArgs false
def vdW (M : Wm) (d : Nat) : Vd := ⟨fun s => Xe (Zd M (s : Int)).pl d, fun s => (Zd M (s : Int)).leads.getD d none, fun f => f ∈ M.l ∧ f.dl = d⟩
structure SD (M : Wm) (d : Nat) (g : Gh) : Prop where
 inv : SInv M.w (vdW M d) g
 ev : ∀ e ∈ M.ev, e.deal = d → dec M.w g e.ph
theorem fr_bound {M : Wm} (h : WI M) {d : Nat} : ∀ f, (vdW M d).fr f → 0 ≤ f.fr ∧ f.fr < M.w.length := fun f hf => by
 obtain ⟨h1, h2, h3⟩ := h.fr f hf.1
 unfold Xv at h1
 omega
theorem st_eq {m : Nd} {w : List Int} {s : Nat} (h : NdI w s m) {j : Jn} {ref : Int → Bool} (hs : m.site = some (j, ref)) (d : Nat) : Yq j d = Xe m.pl d := by
 rw [(h.up j ref hs).1]
 rfl
theorem SD_of {M M' : Wm} {d : Nat} {g : Gh} (hI' : WI M') (h : SD M d g) (hw : M'.w = M.w) (hst : ∀ s : Nat, Xe (Zd M' (s : Int)).pl d = Xe (Zd M (s : Int)).pl d)
  (hld : ∀ s : Nat, (Zd M' (s : Int)).leads.getD d none = (Zd M (s : Int)).leads.getD d none ∨ (Zd M' (s : Int)).leads.getD d none = none) (hl : ∀ f ∈ M'.l, f.dl = d → f ∈ M.l ∨ frOk M.w (vdW M d) g f)
  (hev : ∀ e ∈ M'.ev, e ∈ M.ev ∨ (e.deal = d → ∃ s, s < M.w.length ∧ e.ph = (Xe (Zd M (s : Int)).pl d).ph ∧ fin e.ph)) : SD M' d g := by
 have hs : (vdW M' d).st = (vdW M d).st := funext hst
 refine ⟨?_, fun e he hed => ?_⟩
 ·rw [hw]
  refine inv_of h.inv hs (fun t x ht hx => ?_) (fun f hf => by have := fr_bound hI' f hf; rw [hw] at this; exact this) (fun f hf => ?_)
  ·rcases hld t with e | e
   ·exact h.inv.lead t x ht (by rw [← hx]; exact e.symm)
   ·have hx' : (Zd M' (t : Int)).leads.getD d none = some x := hx
    rw [e] at hx'; cases hx'
  ·rcases hl f hf.1 hf.2 with h1 | h1
   ·exact h.inv.fr f ⟨h1, hf.2⟩
   ·exact h1
 ·rw [hw]
  rcases hev e he with h1 | h1
  ·exact h.ev e h1 hed
  ·obtain ⟨s, hs1, hs2, hs3⟩ := h1 hed
   have := (h.inv.site s hs1).fi
   change fin (Xe (Zd M (s : Int)).pl d).ph → dec M.w g (Xe (Zd M (s : Int)).pl d).ph at this
   rw [hs2]
   exact this (by rw [← hs2]; exact hs3)
theorem Ud {M : Wm} {s : Int} {m : Nd} (h0 : 0 ≤ s) (h1 : s < M.n.length) (t : Nat) : Zd (Yp M s m) (t : Int) = if (t : Int) = s then m else Zd M (t : Int) := by
 split
 ·rename_i e
  rw [e]
  exact Zbi h0 h1
 ·rename_i e
  exact Zcs (by simp; omega)
theorem Ul (d : Nat) : noLeads.getD d none = none := by
 unfold noLeads
 rw [List.getD, List.getElem?_replicate]
 split <;> rfl
theorem Zu4 {id : Int} {ref : Int → Bool} {m : Pl} {j : Jn} (h : SI m j) (f : Fr) : ((∀ d, d < 6 → Yq (Zp id ref m j f).2.1 d = Yq j d) ∧ (Zp id ref m j f).2.2.1 = []) ∨
  (¬ Xv f ∧ f.to = id ∧ Yq (Zp id ref m j f).2.1 f.dl.toNat = (Z8 ref f (Yq j f.dl.toNat)).1 ∧ (∀ d, d < 6 → d ≠ f.dl.toNat → Yq (Zp id ref m j f).2.1 d = Yq j d) ∧
   ∀ x ∈ (Zp id ref m j f).2.2.1, (Z8 ref f (Yq j f.dl.toNat)).2.1 ≠ 0 ∧ x = ⟨id, f.fr, f.dl, (Z8 ref f (Yq j f.dl.toNat)).2.1, f.att, (Z8 ref f (Yq j f.dl.toNat)).2.2, (Z8 ref f (Yq j f.dl.toNat)).1⟩) := by
 unfold Zp
 by_cases hb : Xv f
 ·simp only [if_pos hb]
  exact .inl ⟨fun _ _ => by trivial, by trivial⟩
 simp only [if_neg hb]
 by_cases hto : f.to = id
 ·simp only [ne_eq, hto, not_true_eq_false, if_false]
  have hb2 := hb
  unfold Xv at hb2
  obtain ⟨d, hd⟩ := Int.eq_ofNat_of_zero_le (show 0 ≤ f.dl by omega)
  have hd6 : d < 6 := by omega
  rw [hd]
  simp only [Int.toNat_natCast]
  have est : Yq j d = (j.l.getD d Zl).s := rfl
  rw [est]
  generalize htr : Z8 ref f (j.l.getD d Zl).s = tr at *
  have hp := Zfz h.ji d tr.1
  generalize Xo m j d tr.1 = r at *
  obtain ⟨m', j', er⟩ := r
  simp only at hp ⊢
  obtain ⟨hJ, hL, hp⟩ := hp
  rcases hp with ⟨hl, he⟩ | ⟨hnb, he, ho, ho', hp⟩
  ·have he2 : ∃ x, er = some x := by
    rcases he with ⟨he, -⟩ | ⟨he, -⟩ | ⟨he, -⟩ <;> exact ⟨_, he⟩
   obtain ⟨x, rfl⟩ := he2
   exact .inl ⟨fun q _ => by unfold Yq; simp only [hl], rfl⟩
  ·subst he
   simp only [Int.toNat_natCast] at hp
   have hlen : j.l.length = 6 := h.ji.jn.len
   have hst' : Yq j' d = tr.1 ∧ ∀ q, q ≠ d → Yq j' q = Yq j q := by
    rcases hp with ⟨h1, h2, -⟩ | ⟨h1, h2⟩
    ·refine ⟨by unfold Yq; rw [h2, h1], fun q _ => by unfold Yq; rw [h2]⟩
    ·refine ⟨by unfold Yq; rw [h2]; simp [List.getD, hlen, hd6], fun q hq => by unfold Yq; rw [h2]; simp [List.getD, List.getElem?_set, Ne.symm hq]⟩
   refine .inr ⟨hb, by trivial, hst'.1, fun q _ hq => hst'.2 q hq, fun x hx => ?_⟩
   simp only at hx
   split at hx
   ·cases hx
   ·rename_i hk
    simp only [List.mem_singleton] at hx
    exact ⟨hk, hx⟩
 ·simp only [ne_eq, hto, not_false_eq_true, if_true]
  exact .inl ⟨fun _ _ => by trivial, by trivial⟩
theorem Zuh {s : Int} {ph : Nat → Int} {q : List Bool × List Evt} {k : Nat} {e : Evt} (h : e ∈ (Wg s ph q k).2) : e ∈ q.2 ∨ (e = ⟨s, k, ph k⟩ ∧ fin (ph k)) := by
 unfold Wg at h
 split at h
 ·exact .inl h
 ·rename_i hc
  simp only at h
  split at h
  ·rcases List.mem_append.1 h with h | h
   ·exact .inl h
   ·simp only [List.mem_singleton] at h
    refine .inr ⟨h, ?_⟩
    unfold fin
    by_cases h2 : ph k = 2
    ·exact .inl h2
    ·by_cases h3 : ph k = 3
     ·exact .inr h3
     ·exact absurd (.inr ⟨h2, h3⟩) hc
  ·exact .inl h
theorem Zlq {s : Int} {ph : Nat → Int} {q : List Bool × List Evt} {e : Evt} : ∀ k, e ∈ (Ub s ph q k).2 → e ∈ q.2 ∨ ∃ d, d < k ∧ e = ⟨s, d, ph d⟩ ∧ fin (ph d)
 | 0, h => .inl h
 | k + 1, h => by
  rw [U7] at h
  rcases Zuh h with h | ⟨h1, h2⟩
  ·rcases Zlq k h with h | ⟨d, h1, h2, h3⟩
   ·exact .inl h
   ·exact .inr ⟨d, by omega, h2, h3⟩
  ·exact .inr ⟨k, by omega, h1, h2⟩
theorem Zv2 {s : Int} {m : Nd} {ev : List Evt} {e : Evt} (h : e ∈ (Xb s m ev).2) : e ∈ ev ∨ ∃ j ref d, m.site = some (j, ref) ∧ d < 6 ∧ e = ⟨s, (d : Nat), (Yq j d).ph⟩ ∧ fin (Yq j d).ph := by
 unfold Xb at h
 split at h
 ·exact .inl h
 ·rename_i j ref hs
  rcases Zlq 6 h with h | ⟨d, h1, h2, h3⟩
  ·exact .inl h
  ·exact .inr ⟨j, ref, d, hs, h1, h2, h3⟩
end Go.HL
end

/-! WoN -/
section
namespace Go.HL
open Go Go.Proofs
set_option linter.unusedVariables false
set_option linter.unusedSimpArgs false
def Zl4 (g : NdG) (i : Int) : Option (Jn × (Int → Bool)) → List Zq
 | none => []
 | some _ => Zhy g.sp g.bj g.mb i
def Zme (g : NdG) : Option (Jn × (Int → Bool)) → List Zq
 | none => []
 | some _ => Zii g.mb g.es g.ck
def Zmj (g : NdG) : Option (Jn × (Int → Bool)) → List Zq
 | none => []
 | some (j, _) => jC g.bj g.bp j
theorem siB_cut (g : NdG) (i : Int) (s : Option (Jn × (Int → Bool))) : siB g i s = Zl4 g i s ++ (Zme g s ++ Zmj g s) := by
 rcases s with _ | ⟨j, r⟩
 ·rfl
 ·simp [siB, Zl4, Zme, Zmj]
def X7 (G : WdG) (s : Int) (g : NdG) (m : Nd) (X : List Zq) (L : Zb) : Zb :=
 [(G.wp, Zaj G)] :: G.ec :: Zcg g m :: Zl4 g s m.site :: Zme g m.site :: Xl g.bp g.ba m.pl :: Zmj g m.site :: Zb3 g m :: G.lc :: G.wc :: G.nc :: [(G.mb, .map ⟨G.es⟩ G.ck)] :: X :: L
theorem Zps (G : WdG) (s : Int) (g : NdG) (m : Nd) (X : List Zq) (L : Zb) : (Zex G ++ [Zjo g s m ++ X] ++ L).flatten = ([(G.wp, Zaj G)] :: G.wc :: G.nc :: [(G.mb, .map ⟨G.es⟩ G.ck)] :: G.lc :: G.ec :: Zcg g m :: Xl g.bp g.ba m.pl :: Zl4 g s m.site :: Zme g m.site :: Zmj g m.site :: Zb3 g m :: X :: L).flatten := by
 simp only [Zex, Zjo, siB_cut, List.flatten_cons, List.flatten_append, List.cons_append, List.nil_append, List.append_assoc, List.flatten_nil, List.append_nil]
theorem wdOp_ls (G : WdG) (s : Int) (g : NdG) (m : Nd) (X : List Zq) (L : Zb) : LS (X7 G s g m X L).flatten (Zex G ++ [Zjo g s m ++ X] ++ L).flatten := by
 rw [Zps, X7]
 exact uL
theorem Zt2 (G : WdG) (s : Int) (g : NdG) (m : Nd) (X : List Zq) (L : Zb) : LS (Zex G ++ [Zjo g s m ++ X] ++ L).flatten (X7 G s g m X L).flatten := by
 rw [Zps, X7]
 exact uL
theorem Vf {s : Int} (h : 0 ≤ s) : ((0 + s.toNat : Nat) : Int) = s := by omega
theorem Zph {gs : List NdG} {ms : List Nd} {s : Int} {g : NdG} {m : Nd} (h0 : 0 ≤ s) (hg : gs[s.toNat]? = some g) (hm : ms[s.toNat]? = some m) (T : Zb) (L : Zb) : List.Perm (T ++ [U6 gs ms 0] ++ L).flatten (T ++ [Zjo g s m ++ Vb gs ms 0 s.toNat] ++ L).flatten := by
 have := Zjb (i := 0) hg hm
 rw [Vf h0] at this
 simp only [List.flatten_append, List.flatten_cons, List.flatten_nil, List.append_nil]
 exact (this.append_left _).append_right _
theorem Zh6 {G : WdG} {M : Wm} {s : Int} (hl : G.nd.length = M.n.length) (h0 : 0 ≤ s) (h1 : s < M.n.length) (L : Zb) : LS (X7 G s (Zj G s) (Zd M s) (Vb G.nd M.n 0 s.toNat) L).flatten (Y6 G M ++ L).flatten := by
 have hg : G.nd[s.toNat]? = some (Zj G s) := getD_some (by omega)
 have hm : M.n[s.toNat]? = some (Zd M s) := getD_some (by omega)
 refine LS.trans (wdOp_ls _ _ _ _ _ _) (LS.of_perm ?_)
 exact (Zph h0 hg hm (Zex G) L).symm
theorem Zkg {G : WdG} {gs : List NdG} {ms : List Nd} {s : Int} {g : NdG} {m : Nd} (h0 : 0 ≤ s) (h1 : s.toNat < gs.length) (h2 : s.toNat < ms.length) (L : Zb) : LS (Zex G ++ [U6 (gs.set s.toNat g) (ms.set s.toNat m) 0] ++ L).flatten (X7 G s g m (Vb gs ms 0 s.toNat) L).flatten := by
 have hg : (gs.set s.toNat g)[s.toNat]? = some g := by simp [h1]
 have hm : (ms.set s.toNat m)[s.toNat]? = some m := by simp [h2]
 refine LS.trans (LS.of_perm (Zph h0 hg hm (Zex G) L)) ?_
 rw [Zs7]
 exact Zt2 _ _ _ _ _ _
theorem Zgr {G : WdG} {M : Wm} {s : Int} (hl : G.nd.length = M.n.length) (h0 : 0 ≤ s) (h1 : s < M.n.length) {b : Nat} {o : Obj} (hb : (b, o) ∈ Zjo (Zj G s) s (Zd M s)) (L : Zb) : Has (U6 G.nd M.n 0 :: L) b o := by
 have hg : G.nd[s.toNat]? = some (Zj G s) := getD_some (by omega)
 have hm : M.n[s.toNat]? = some (Zd M s) := getD_some (by omega)
 have := Zjb (i := 0) hg hm
 rw [Vf h0] at this
 unfold Has
 rw [List.flatten_cons]
 exact List.mem_append_left _ (this.mem_iff.2 (List.mem_append_left _ hb))
theorem Ztv {G : WdG} {M : Wm} {s : Int} (hl : G.nd.length = M.n.length) (h0 : 0 ≤ s) (h1 : s < M.n.length) (L : Zb) : Has (U6 G.nd M.n 0 :: L) (Zj G s).np (Zbn (Zj G s) (Zd M s)) :=
 Zgr hl h0 h1 (by simp [Zjo, Zcg]) L
theorem V0 {G : WdG} {M : Wm} (h : WdOk G M) {s : Int} (h0 : 0 ≤ s) (h1 : s < M.n.length) : NdOk (Zj G s) (Zd M s) := by
 have hl := h.ndl
 exact h.nd s.toNat _ _ (getD_some (by omega)) (getD_some (by omega))
theorem Ws {M : Wm} (h : WI M) {s : Int} (h0 : 0 ≤ s) (h1 : s < M.n.length) : NdI M.w s.toNat (Zd M s) := h.nd s.toNat _ (getD_some (by omega))
theorem WdOk.setL {G : WdG} {M : Wm} (h : WdOk G M) {lv : Value} {lc : List Zq} {l : List Fr} (hv : Zx lv l lc) : WdOk { G with lv := lv, lc := lc } { M with l := l } := ⟨h.w, h.nodes, h.ndl, h.br, hv, h.ev, h.nd⟩
theorem WdOk.setE {G : WdG} {M : Wm} (h : WdOk G M) {ev : Value} {c : List Zq} {l : List Evt} (hv : Vec 81 3 ec ev l c) : WdOk { G with ev := ev, ec := c } { M with ev := l } := ⟨h.w, h.nodes, h.ndl, h.br, h.l, hv, h.nd⟩
theorem WdOk.setB {G : WdG} {M : Wm} (h : WdOk G M) {es : List MapEntry} {ck : Nat} {f : Int × Int → Bool} (hv : Zy pk es f) : WdOk { G with es := es, ck := ck } { M with br := f } := ⟨h.w, h.nodes, h.ndl, hv, h.l, h.ev, h.nd⟩
theorem WdOk.put {G : WdG} {M : Wm} (h : WdOk G M) {s : Int} {g : NdG} {m : Nd} (h0 : 0 ≤ s) (h1 : s < M.n.length) (hn : NdOk g m) (hp : g.np = (Zj G s).np) : WdOk { G with nd := G.nd.set s.toNat g } (Yp M s m) := by
 have hl := h.ndl
 have e : (G.nd.set s.toNat g).map (·.np) = G.nd.map (·.np) := by
  rw [List.map_set, hp]
  have hg : G.nd[s.toNat]? = some (Zj G s) := getD_some (by omega)
  refine List.ext_getElem? fun i => ?_
  rw [List.getElem?_set]
  split
  ·rename_i hi
   subst hi
   rw [if_pos (by simp; omega), List.getElem?_map, hg]
   rfl
  ·rfl
 refine ⟨h.w, by simp only [e]; exact h.nodes, by simp [Yp, hl], h.br, h.l, h.ev, fun q g1 m1 Yx hq2 => ?_⟩
 simp only [Yp, List.getElem?_set] at Yx hq2
 by_cases hq : s.toNat = q
 ·rw [if_pos hq] at Yx hq2
  split at Yx
  ·split at hq2
   ·cases Yx; cases hq2; exact hn
   ·cases hq2
  ·cases Yx
 ·rw [if_neg hq] at Yx hq2
  exact h.nd q g1 m1 Yx hq2
theorem Znf {G : WdG} {s : Int} {g : NdG} (h0 : 0 ≤ s) (h1 : s < G.nd.length) (hp : g.np = (Zj G s).np) : (G.nd.set s.toNat g).map (·.np) = G.nd.map (·.np) := by
 rw [List.map_set, hp]
 have hg : G.nd[s.toNat]? = some (Zj G s) := getD_some (by omega)
 refine List.ext_getElem? fun i => ?_
 rw [List.getElem?_set]
 split
 ·rename_i hi
  subst hi
  rw [if_pos (by simp; omega), List.getElem?_map, hg]
  rfl
 ·rfl
def Zey (G : WdG) (M' : Wm) (L L' : Zb) : Prop := ∃ G', G'.wp = G.wp ∧ G'.nd.map (·.np) = G.nd.map (·.np) ∧ WdOk G' M' ∧ L' = Y6 G' M' ++ L
theorem W1 {G : WdG} {M : Wm} (h : WdOk G M) (L : Zb) : Zey G M L (Y6 G M ++ L) := ⟨G, rfl, rfl, h, rfl⟩
theorem Zub {G G' : WdG} (h : G'.nd.map (·.np) = G.nd.map (·.np)) {s : Int} (h0 : 0 ≤ s) (h1 : s < G.nd.length) : (Zj G' s).np = (Zj G s).np := by
 have hl : G'.nd.length = G.nd.length := by simpa using congrArg List.length h
 have e1 : G'.nd[s.toNat]? = some (Zj G' s) := getD_some (by omega)
 have e2 : G.nd[s.toNat]? = some (Zj G s) := getD_some (by omega)
 have := congrArg (fun l => l[s.toNat]?) h
 simp only [List.getElem?_map, e1, e2, Option.map_some, Option.some.injEq] at this
 exact this
theorem HC.node {F : Nat} {args : List Value} {G : WdG} {M M' : Wm} {s : Int} {L : Zb} {V : Value → Prop} (h : WdOk G M) (h0 : 0 ≤ s) (h1 : s < M.n.length)
  (k : HC Tryz.prog F args (X7 G s (Zj G s) (Zd M s) (Vb G.nd M.n 0 s.toNat) L) (fun v L' => V v ∧ ∃ G' M1 g' m', WdOk G' M1 ∧ G'.nd = G.nd ∧ M1.n = M.n ∧ G'.wp = G.wp ∧ NdOk g' m' ∧ g'.np = (Zj G s).np ∧ M' = Yp M1 s m' ∧ L' = X7 G' s g' m' (Vb G.nd M.n 0 s.toNat) L)) :
  HC Tryz.prog F args (Y6 G M ++ L) (fun v L' => V v ∧ Zey G M' L L') := by
 have hl := h.ndl
 refine HC.post (HC.sp k (Zh6 hl h0 h1 L)) ?_
 rintro v L' ⟨hv, G', M1, g', m', hW, e1, e2, e3, hN, e4, rfl, rfl⟩
 have hnp : g'.np = (Zj G' s).np := by rw [e4]; unfold Zj; rw [e1]
 refine ⟨Y6 { G' with nd := G'.nd.set s.toNat g' } (Yp M1 s m') ++ L, ?_, hv, { G' with nd := G'.nd.set s.toNat g' }, e3, ?_, hW.put h0 (by rw [e2]; exact h1) hN hnp, rfl⟩
 ·simp only [Y6, Yp, e1, e2]
  exact Zkg (G := G') h0 (by omega) (by omega) L
 ·simp only
  rw [← e1]
  exact Znf h0 (by rw [e1]; omega) hnp
theorem HC.nodeC {F : Nat} {args : List Value} {G : WdG} {M M' : Wm} {s : Int} {L : Zb} {V : Value → List Zq → Prop} (h : WdOk G M) (h0 : 0 ≤ s) (h1 : s < M.n.length)
  (k : HC Tryz.prog F args (X7 G s (Zj G s) (Zd M s) (Vb G.nd M.n 0 s.toNat) L) (fun v L' => ∃ c, V v c ∧ ∃ G' M1 g' m', WdOk G' M1 ∧ G'.nd = G.nd ∧ M1.n = M.n ∧ G'.wp = G.wp ∧ NdOk g' m' ∧ g'.np = (Zj G s).np ∧ M' = Yp M1 s m' ∧ L' = X7 G' s g' m' (Vb G.nd M.n 0 s.toNat) (c :: L))) :
  HC Tryz.prog F args (Y6 G M ++ L) (fun v L' => ∃ c, V v c ∧ Zey G M' (c :: L) L') := by
 have hl := h.ndl
 refine HC.post (HC.sp k (Zh6 hl h0 h1 L)) ?_
 rintro v L' ⟨c, hv, G', M1, g', m', hW, e1, e2, e3, hN, e4, rfl, rfl⟩
 have hnp : g'.np = (Zj G' s).np := by rw [e4]; unfold Zj; rw [e1]
 refine ⟨Y6 { G' with nd := G'.nd.set s.toNat g' } (Yp M1 s m') ++ (c :: L), ?_, c, hv, { G' with nd := G'.nd.set s.toNat g' }, e3, ?_, hW.put h0 (by rw [e2]; exact h1) hN hnp, rfl⟩
 ·simp only [Y6, Yp, e1, e2]
  exact Zkg (G := G') h0 (by omega) (by omega) _
 ·simp only
  rw [← e1]
  exact Znf h0 (by rw [e1]; omega) hnp
theorem NdOk.fall {g : NdG} {m : Nd} (h : NdOk g m) (pl : Pl) (dn : List Bool) : NdOk g ⟨pl, none, noLeads, dn⟩ := by
 refine ⟨h.ld, fun d x hx => ?_, fun j ref hs => by cases hs⟩
 simp only [noLeads, List.getElem?_replicate] at hx
 split at hx <;> cases hx
theorem NdOk.same {g : NdG} {m : Nd} (h : NdOk g m) {j : Jn} {ref : Int → Bool} (hs : m.site = some (j, ref)) (pl : Pl) (j' : Jn) (dn : List Bool) : NdOk g ⟨pl, some (j', ref), m.leads, dn⟩ :=
 ⟨h.ld, h.lok, fun j2 r2 e => by cases e; exact h.map j ref hs⟩
theorem Zez {G : WdG} {M : Wm} (h : WdOk G M) {s : Int} (h0 : 0 ≤ s) (h1 : s < M.n.length) {H : Zb} (hH : ∀ b o, (b, o) ∈ G.nc → Has H b o) : NpIn H G.nv M.n.length s (Zj G s).np := by
 have hl := h.ndl
 obtain ⟨a, cap, hnv, -, hR⟩ := h.nodes.rd Wq
 have hR2 := (hR []).mono (L' := H) fun b o hb => hH b o (by simpa [Has] using hb)
 obtain ⟨b, i, l, F, fr, rfl, hb, hg⟩ := hR2.at1 (j := s) h0 (by simp; omega)
 refine ⟨⟨b, i, l, F, fr, cap, by rw [hnv, List.length_map, hl], hb, ?_⟩, h0, h1⟩
 have e : (G.nd.map (·.np))[s.toNat]'(by simp; omega) = (Zj G s).np := by
  rw [List.getElem_map]
  unfold Zj
  rw [List.getD, List.getElem?_eq_getElem (by omega)]
  rfl
 rw [e] at hg
 exact hg 0 _ rfl
set_option maxHeartbeats 2000000 attribute [local irreducible] HW HO HQ HD HC QOp Has Upd Zt Gets Yb Z6 Zr Xr Z4 Zm Xx Zy
attribute [local irreducible] W6 Yr Xl Zp
theorem Zft (T : Nat) (E : Nat → Addr) (G : WdG) (M : Wm) (s : Int) (f : Fr) (L : Zb) (hG : Er T E [2, 3, 5, 6] L) (h : WdOk G M) (hI : WI M) (h0 : 0 ≤ s) (h1 : s < M.n.length) (hs : (Zd M s).site ≠ none) :
  HC Tryz.prog 75 [pt G.wp 0, iv s, .agg ⟨fc f⟩] (Y6 G M ++ L) (fun v L' => ∃ c, (∃ fv, Zx fv (Yo M s f).2.1 c ∧ v = .tuple ⟨[fv, .bool (Yo M s f).2.2]⟩) ∧ Zey G (Yo M s f).1 (c :: L) L') := by
 refine HC.nodeC h h0 h1 ?_
 have hN := V0 h h0 h1
 have hi := Ws hI h0 h1
 have hn := hI.wn
 have hnp := Zez h h0 h1 (H := Zb3 (Zj G s) (Zd M s) :: G.lc :: G.wc :: G.nc :: [(G.mb, .map ⟨G.es⟩ G.ck)] :: Vb G.nd M.n 0 s.toNat :: L) fun b o hb => Zf (Zf (Zf (Yu hb)))
 unfold Yo Y7
 generalize hm : Zd M s = m at *
 cases hsi : m.site with
 | none => exact absurd hsi hs
 | some q =>
  obtain ⟨j, ref⟩ := q
  have hsj := Zcy (id := s) (ref := ref) (hi.jn hsi) f
  have hj6 : (Zp s ref m.pl j f).2.1.l.length = 6 := hsj.1.ji.jn.len
  have kh := Zo5 T E G s (Zj G s) m f M.ev M.n.length j ref (Zb3 (Zj G s) m :: G.lc :: G.wc :: G.nc :: [(G.mb, .map ⟨G.es⟩ G.ck)] :: Vb G.nd M.n 0 s.toNat :: L) ((((((hG.cons _).cons _).cons _).cons _).cons _).cons _) hnp h.ev hI.evl hN M.w s.toNat hi hsi hj6
  have ew : X7 G s (Zj G s) m (Vb G.nd M.n 0 s.toNat) L = [(G.wp, Zaj G)] :: G.ec :: Zcg (Zj G s) m :: Zhy (Zj G s).sp (Zj G s).bj (Zj G s).mb s :: Zii (Zj G s).mb (Zj G s).es (Zj G s).ck :: Xl (Zj G s).bp (Zj G s).ba m.pl :: jC (Zj G s).bj (Zj G s).bp j :: (Zb3 (Zj G s) m :: G.lc :: G.wc :: G.nc :: [(G.mb, .map ⟨G.es⟩ G.ck)] :: Vb G.nd M.n 0 s.toNat :: L) := by
   unfold X7; rw [hsi]; rfl
  rw [ew]
  refine HC.post kh ?_
  intro v L' hq
  unfold HearQ at hq
  simp only
  split at hq
  ·rename_i hoff
   obtain ⟨rfl, rfl⟩ := hq
   refine ⟨X7 G s (Zj G s) ⟨(Zp s ref m.pl j f).1, none, noLeads, m.done⟩ (Vb G.nd M.n 0 s.toNat) ([] :: L), ?_, [], ?_, G, M, Zj G s, _, h, rfl, rfl, rfl, hN.fall _ _, rfl, ?_, rfl⟩
   ·simp only [X7, Zl4, Zme, Zmj]
    have : Zb3 (Zj G s) ⟨(Zp s ref m.pl j f).1, none, noLeads, m.done⟩ = [] := by
     unfold Zb3 noLeads
     have := hN.ld
     obtain ⟨a, b, c, d, e, f, hh⟩ : ∃ a b c d e f, (Zj G s).ld = [a, b, c, d, e, f] := by
      match (Zj G s).ld, this with
      | [a, b, c, d, e, f], _ => exact ⟨_, _, _, _, _, _, rfl⟩
     rw [hh]; rfl
    rw [this]
    exact uL
   ·rw [if_pos hoff]
    exact ⟨_, Zu, rfl⟩
   ·rw [if_pos hoff]; rfl
  ·rename_i hoff
   obtain ⟨fv, c, evv, c2, hfv, hev, rfl, rfl⟩ := hq
   refine ⟨X7 { G with ev := evv, ec := c2 } s (Zj G s) ⟨(Zp s ref m.pl j f).1, some ((Zp s ref m.pl j f).2.1, ref), m.leads, (Xb s ⟨(Zp s ref m.pl j f).1, some ((Zp s ref m.pl j f).2.1, ref), m.leads, m.done⟩ M.ev).1⟩ (Vb G.nd M.n 0 s.toNat) (c :: L), ?_, c, ?_, { G with ev := evv, ec := c2 }, _, Zj G s, _, h.setE hev, rfl, rfl, rfl, hN.same hsi _ _ _, rfl, ?_, rfl⟩
   ·simp only [X7, Zl4, Zme, Zmj]
    exact uL
   ·rw [if_neg hoff]
    exact ⟨_, hfv, rfl⟩
   ·rw [if_neg hoff]; rfl
end Go.HL
end

/-! WoO -/
section
namespace Go.HL
open Go Go.Proofs
set_option linter.unusedVariables false
set_option linter.unusedSimpArgs false
theorem LS.mem {a b : List Zq} (h : LS a b) {x : Zq} (hx : x ∈ a) : x ∈ b := by
 obtain ⟨l, h1, h2⟩ := h
 exact h2.subset (h1.mem_iff.2 hx)
theorem Zac {G : WdG} {M : Wm} (h : WdOk G M) (L : Zb) : WdIn (Y6 G M ++ L) G M := wdIn h fun b o hb => by
 unfold Has Y6 at *
 rw [List.append_assoc, List.flatten_append]
 exact List.mem_append_left _ hb
theorem Zns {G : WdG} {M : Wm} (h : WdOk G M) (s : Int) (g : NdG) (m : Nd) (X : List Zq) (L : Zb) : WdIn (X7 G s g m X L) G M := wdIn h fun b o hb => by
 unfold Has at *
 refine (Zt2 G s g m X L).mem ?_
 rw [List.append_assoc, List.flatten_append]
 exact List.mem_append_left _ hb
theorem Zb7 {G : WdG} {M : Wm} {s : Int} (hl : G.nd.length = M.n.length) (h0 : 0 ≤ s) (h1 : s < M.n.length) (L : Zb) : Has (Y6 G M ++ L) (Zj G s).np (Zbn (Zj G s) (Zd M s)) := by
 have := Ztv hl h0 h1 L
 unfold Has Y6 at *
 rw [List.append_assoc, List.flatten_append]
 exact List.mem_append_right _ this
theorem wdOp_has {G : WdG} {s : Int} {g : NdG} {m : Nd} {X : List Zq} {L : Zb} : Has (X7 G s g m X L) g.np (Zbn g m) := by
 unfold X7 Zcg
 exact Zf (Zf Zv)
def upV (G : WdG) (M : Wm) (s : Int) : Value := match X0 M s with
 | some _ => .pointer none
 | none => pt (Zj G s).np 0
theorem Zte {M : Wm} {s : Int} (h : Zbm M s = none) : X0 M s = none ∧ 0 ≤ s ∧ s < M.n.length ∧ ∃ j ref, (Zd M s).site = some (j, ref) := by
 unfold Zbm at h
 rcases Vm (M := M) s with he | ⟨he, h0, h1⟩
 ·rw [he] at h; cases h
 ·rw [he] at h
  refine ⟨he, h0, h1, ?_⟩
  cases hs : (Zd M s).site with
  | none => rw [hs] at h; cases h
  | some q => exact ⟨q.1, q.2, rfl⟩
theorem Zqy {G : WdG} {M : Wm} {s : Int} (h : X0 M s = none) : upV G M s = pt (Zj G s).np 0 := by unfold upV; rw [h]
theorem Zdd {g : NdG} {m : Nd} {d : Nat} {o : Option Ld} {q : Nat × Value × List Zq} (h1 : m.leads[d]? = some o) (h2 : g.ld[d]? = some q) : (Xi g m)[d]? = some (Zed o q) := by
 unfold Xi
 rw [List.getElem?_zipWith, h1, h2]
theorem Zpm {g : NdG} {m : Nd} {d : Nat} {x : Ld} {q : Nat × Value × List Zq} (h1 : m.leads[d]? = some (some x)) (h2 : g.ld[d]? = some q) {y : Zq} (hy : y ∈ Ql q.1 q.2.1 q.2.2 x) : y ∈ Zb3 g m := by
 unfold Zb3
 refine List.mem_flatten.2 ⟨Ql q.1 q.2.1 q.2.2 x, ?_, hy⟩
 refine List.mem_iff_getElem?.2 ⟨d, ?_⟩
 rw [List.getElem?_zipWith, h1, h2]
 rfl
set_option maxHeartbeats 2000000 attribute [local irreducible] HW HO HQ HD HC QOp Has Upd Zt Gets Yb Z6 Zr Xr Z4 Zm Xx Zy
attribute [local irreducible] W6 Yr Xl Zp Xw
theorem lstateH (lp : Nat) (wv : Value) (m : Ld) (L : Zb) (h : Has L lp (.cells ⟨Xw wv m⟩ 193)) : HC Tryz.prog 77 [pt lp 0] L (fun v L' => v = bs m.state ∧ L' = L) := hcHas (fun L => Znu lp wv [] m L) h
theorem lseenH (lp : Nat) (wv : Value) (m : Ld) (L : Zb) (ht : m.told.length = 7) (h : Has L lp (.cells ⟨Xw wv m⟩ 193)) : HC Tryz.prog 191 [pt lp 0] L (fun v L' => v = iv m.seen ∧ L' = L) := hcHas (fun L => Zp3 lp wv [] m L ht) h
theorem Zkj (T : Nat) (E : Nat → Addr) (G : WdG) (M : Wm) (s : Int) (L : Zb) (hG : Er T E [2, 6] L) (hI : WdIn L G M) (hl : G.nd.length = M.n.length) (hN : X0 M s = none → Has L (Zj G s).np (Zbn (Zj G s) (Zd M s))) :
  HC Tryz.prog 66 [pt G.wp 0, iv s] L (fun v L' => v = .tuple ⟨[upV G M s, eV T E (Zbm M s)]⟩ ∧ L' = L) := by
 have k := Zvd T E G M s L hG hI hl hN
 unfold upV
 rcases Vm (M := M) s with he | ⟨he, h0, h1⟩
 ·have : Zbm M s = some 2 := by unfold Zbm; rw [he]
  simp only [he, this] at k ⊢
  exact k
 ·simp only [he] at k ⊢
  exact k
theorem Zv8 (T : Nat) (E : Nat → Addr) (G : WdG) (M : Wm) (s : Int) (L : Zb) (hG : Er T E [2] L) (hI : WdIn L G M) (hl : G.nd.length = M.n.length) (hN : X0 M s = none → Has L (Zj G s).np (Zbn (Zj G s) (Zd M s))) :
  HC Tryz.prog 94 [pt G.wp 0, iv s] L (fun v L' => v = .tuple ⟨[.bool (isW M s).1, eV T E (isW M s).2]⟩ ∧ L' = L) := by
 have kn := Vk T E G M s L hG.sub hI hl
 unfold isW
 rcases Vm (M := M) s with he | ⟨he, h0, h1⟩
 ·simp only [he] at kn ⊢
  refine Za (fun _ _ => Tryz.call94 _ _) Tryz.func94 rfl Tryz.ntmps94 (Nat.le_of_ble_eq_true rfl) ?_; simp only [Zc, Nat.reduceAdd]
  repeat' (first | refine uN ?_ | refine uC (kn) ?_ | (refine uP ?_ ?_ <;> (intro h; ((try simp only [zs, ne_eq, and_true, true_and, eq_self, reduceCtorEq] at h); try exact zx))) | fail)
  exact Znj rfl ⟨rfl, rfl⟩
 ·have hN' := hN he
  simp only [he] at kn ⊢
  unfold Zbn at hN'
  cases hs : (Zd M s).site with
  | none =>
   rw [hs] at hN'
   have g0 : (W6 (.pointer none) (Zj G s).bp (Xi (Zj G s) (Zd M s)) (Zd M s).done)[0 + 0]? = some (.pointer none) := X4 rfl
   refine Za (fun _ _ => Tryz.call94 _ _) Tryz.func94 rfl Tryz.ntmps94 (Nat.le_of_ble_eq_true rfl) ?_; simp only [Zc, Nat.reduceAdd]
   repeat' (first | refine uN ?_ | refine uC (kn) ?_ | (refine uP ?_ ?_ <;> (intro h; ((try simp only [zs, ne_eq, and_true, true_and, eq_self, reduceCtorEq] at h); try exact zx))) | fail)
   exact Znj rfl ⟨rfl, rfl⟩
  | some q =>
   rw [hs] at hN'
   obtain ⟨q1, q2⟩ := q
   have g0 : (W6 (pt (Zj G s).sp 0) (Zj G s).bp (Xi (Zj G s) (Zd M s)) (Zd M s).done)[0 + 0]? = some (pt (Zj G s).sp 0) := X4 rfl
   refine Za (fun _ _ => Tryz.call94 _ _) Tryz.func94 rfl Tryz.ntmps94 (Nat.le_of_ble_eq_true rfl) ?_; simp only [Zc, Nat.reduceAdd]
   repeat' (first | refine uN ?_ | refine uC (kn) ?_ | (refine uP ?_ ?_ <;> (intro h; ((try simp only [zs, ne_eq, and_true, true_and, eq_self, reduceCtorEq] at h); try exact zx))) | fail)
   exact Znj rfl ⟨rfl, rfl⟩
theorem Zhf (T : Nat) (E : Nat → Addr) (G : WdG) (M : Wm) (s d : Int) (L : Zb) (hG : Er T E [2] L) (hW : WdOk G M) (hM : WI M) :
  HC Tryz.prog 25 [pt G.wp 0, iv s, iv d] (Y6 G M ++ L) (fun v L' => v = .tuple ⟨[bs (Zae M s d).1, eV T E (Zae M s d).2]⟩ ∧ L' = Y6 G M ++ L) := by
 have hl := hW.ndl
 have hI := Zac hW L
 have hG' : Er T E [2] (Y6 G M ++ L) := by
  unfold Y6 Zex
  exact ((((((hG.cons _).cons _).cons _).cons _).cons _).cons _).cons _
 have kn := Vk T E G M s _ hG' hI hl
 have hAt : ∀ (h0 : 0 ≤ s) (h1 : s < M.n.length), Has (Y6 G M ++ L) (Zj G s).np (Zbn (Zj G s) (Zd M s)) := fun h0 h1 => Zb7 hl h0 h1 L
 have hB : ∀ (h0 : 0 ≤ s) (h1 : s < M.n.length) {b : Nat} {o : Obj}, (b, o) ∈ Zjo (Zj G s) s (Zd M s) → Has (Y6 G M ++ L) b o := fun h0 h1 {b o} hb => by
  have := Zgr hl h0 h1 hb L
  unfold Has Y6 at *
  rw [List.append_assoc, List.flatten_append]
  exact List.mem_append_right _ this
 generalize Y6 G M ++ L = H at *
 unfold Zae
 rcases Vm (M := M) s with he | ⟨he, h0, h1⟩
 ·have h2 : s < 0 ∨ ↑M.n.length ≤ s ∨ d < 0 ∨ 6 ≤ d := by
   unfold X0 at he
   split at he
   ·omega
   ·cases he
  simp only [if_pos h2, he] at kn ⊢
  refine Za (fun _ _ => Tryz.call25 _ _) Tryz.func25 rfl Tryz.ntmps25 (Nat.le_of_ble_eq_true rfl) ?_; simp only [Zc, Nat.reduceAdd]
  repeat' (first | refine uN ?_ | refine Z7 S ?_ | refine uC (kn) ?_ | (refine uP ?_ ?_ <;> (intro h; ((try simp only [zs, ne_eq, and_true, true_and, eq_self, reduceCtorEq] at h); try exact zx))) | fail)
  exact Znj rfl ⟨rfl, rfl⟩
 ·simp only [he] at kn
  by_cases hd : d < 0 ∨ 6 ≤ d
  ·have h2 : s < 0 ∨ ↑M.n.length ≤ s ∨ d < 0 ∨ 6 ≤ d := .inr (.inr hd)
   simp only [if_pos h2]
   refine Za (fun _ _ => Tryz.call25 _ _) Tryz.func25 rfl Tryz.ntmps25 (Nat.le_of_ble_eq_true rfl) ?_; simp only [Zc, Nat.reduceAdd]
   repeat' (first | refine uN ?_ | refine Z7 S ?_ | refine uC (kn) ?_ | (refine uP ?_ ?_ <;> (intro h; ((try simp only [zs, ne_eq, and_true, true_and, eq_self, reduceCtorEq] at h); try exact zx))) | fail)
   all_goals exact Znj rfl ⟨rfl, rfl⟩
  ·have h2 : ¬ (s < 0 ∨ ↑M.n.length ≤ s ∨ d < 0 ∨ 6 ≤ d) := by omega
   simp only [if_neg h2]
   have hN := hAt h0 h1
   have hok := V0 hW h0 h1
   have hni := Ws hM h0 h1
   have hBB := fun {b o} => hB h0 h1 (b := b) (o := o)
   generalize Zd M s = m at *
   generalize hg : Zj G s = g at *
   obtain ⟨dn, rfl⟩ := Int.eq_ofNat_of_zero_le (show 0 ≤ d by omega)
   have hd6 : dn < 6 := by omega
   simp only [Int.toNat_natCast]
   have hm1 : m.leads[dn]? = some (m.leads.getD dn none) := getD_some (by rw [hni.leads]; exact hd6)
   obtain ⟨q, hq⟩ : ∃ q, g.ld[dn]? = some q := ⟨_, List.getElem?_eq_getElem (by rw [hok.ld]; exact hd6)⟩
   have hv := Zdd hm1 hq
   unfold Zbn at hN
   have gL := Zc3 (sv := Zhd g m.site) (bp := g.bp) (dn := m.done) hv
   cases hx : m.leads.getD dn none with
   | none =>
    rw [hx] at gL
    simp only [Zed] at gL
    refine Za (fun _ _ => Tryz.call25 _ _) Tryz.func25 rfl Tryz.ntmps25 (Nat.le_of_ble_eq_true rfl) ?_; simp only [Zc, Nat.reduceAdd]
    repeat' (first | refine uN ?_ | refine Z7 S ?_ | refine uC (kn) ?_ | (refine uP ?_ ?_ <;> (intro h; ((try simp only [zs, ne_eq, and_true, true_and, eq_self, reduceCtorEq] at h); try exact zx))) | fail)
    exact Znj rfl ⟨rfl, rfl⟩
   | some x =>
    rw [hx] at gL hm1
    simp only [Zed] at gL
    have hLd : Has H q.1 (.cells ⟨Xw q.2.1 x⟩ 193) := hBB (by
     unfold Zjo
     exact List.mem_append_right _ (Zpm hm1 hq (by simp [Ql])))
    refine Za (fun _ _ => Tryz.call25 _ _) Tryz.func25 rfl Tryz.ntmps25 (Nat.le_of_ble_eq_true rfl) ?_; simp only [Zc, Nat.reduceAdd]
    repeat' (first | refine uN ?_ | refine Z7 S ?_ | refine uC (kn) ?_ | refine uC (lstateH q.1 q.2.1 x _ hLd) ?_ | (refine uP ?_ ?_ <;> (intro h; ((try simp only [zs, ne_eq, and_true, true_and, eq_self, reduceCtorEq] at h); try exact zx))) | fail)
    exact Znj rfl ⟨rfl, rfl⟩
end Go.HL
end

/-! WoP -/
section
namespace Go.HL
open Go Go.Proofs
set_option linter.unusedVariables false
set_option linter.unusedSimpArgs false
theorem Zoa {T : Nat} {E : Nat → Addr} {ns : List Nat} {L : Zb} (h : Er T E ns L) (G : WdG) (s : Int) (g : NdG) (m : Nd) (X : List Zq) : Er T E ns (X7 G s g m X L) :=
 ((((((((((((h.cons _).cons _).cons _).cons _).cons _).cons _).cons _).cons _).cons _).cons _).cons _).cons _).cons _
theorem Wo {T : Nat} {E : Nat → Addr} {ns : List Nat} {L : Zb} (h : Er T E ns L) (G : WdG) (M : Wm) : Er T E ns (Y6 G M ++ L) :=
 ((((((h.cons _).cons _).cons _).cons _).cons _).cons _).cons _
theorem Zax {M : Wm} {s : Int} : (∃ e, Zbm M s = some e) ∨ (Zbm M s = none ∧ X0 M s = none ∧ 0 ≤ s ∧ s < M.n.length ∧ ∃ j ref, (Zd M s).site = some (j, ref)) := by
 cases h : Zbm M s with
 | some e => exact .inl ⟨e, rfl⟩
 | none => exact .inr ⟨rfl, Zte h⟩
set_option maxHeartbeats 2000000 attribute [local irreducible] HW HO HQ HD HC QOp Has Upd Zt Gets Yb Z6 Zr Xr Z4 Zm Xx Zy
attribute [local irreducible] W6 Yr Xl Zp Xw
theorem Zjd {T : Nat} {E : Nat → Addr} {G : WdG} {M : Wm} (s : Int) {L : Zb} (hG : Er T E [2, 6] L) (hW : WdOk G M) : HC Tryz.prog 66 [pt G.wp 0, iv s] (Y6 G M ++ L) (fun v L' => v = .tuple ⟨[upV G M s, eV T E (Zbm M s)]⟩ ∧ L' = Y6 G M ++ L) :=
 Zkj T E G M s _ (Wo hG G M) (Zac hW L) hW.ndl (fun hn => by
  obtain ⟨h0, h1⟩ := Xc hn
  exact Zb7 hW.ndl h0 h1 L)
theorem Zrp {T : Nat} {E : Nat → Addr} {G : WdG} {M : Wm} {s : Int} {L : Zb} (hG : Er T E [2, 6] L) (hW : WdOk G M) (hu : Zbm M s = none) (X : List Zq) : HC Tryz.prog 66 [pt G.wp 0, iv s] (X7 G s (Zj G s) (Zd M s) X L) (fun v L' => v = .tuple ⟨[pt (Zj G s).np 0, .nilIface]⟩ ∧ L' = X7 G s (Zj G s) (Zd M s) X L) := by
 have := Zkj T E G M s _ (Zoa hG G s (Zj G s) (Zd M s) X) (Zns hW s _ _ X L) hW.ndl (fun hn => wdOp_has)
 rw [hu, Zqy (Zte hu).1] at this
 exact this
theorem Zeb (T : Nat) (E : Nat → Addr) (G : WdG) (M : Wm) (s d : Int) (L : Zb) (hG : Er T E [2, 6] L) (hW : WdOk G M) (hM : WI M) :
  HC Tryz.prog 20 [pt G.wp 0, iv s, iv d] (Y6 G M ++ L) (fun v L' => v = eV T E (Wp M s d).2 ∧ Zey G (Wp M s d).1 L L') := by
 unfold Wp
 have hself := W1 hW L
 by_cases hd : d < 0 ∨ 6 ≤ d
 ·simp only [if_pos hd]
  have hG' := Wo hG G M
  generalize Y6 G M ++ L = H at *
  refine Za (fun _ _ => Tryz.call20 _ _) Tryz.func20 rfl Tryz.ntmps20 (Nat.le_of_ble_eq_true rfl) ?_; simp only [Zc, Nat.reduceAdd]
  repeat' (first | refine uN ?_ | (refine uP ?_ ?_ <;> (intro h; ((try simp only [zs, ne_eq, and_true, true_and, eq_self, reduceCtorEq] at h); try exact zx))) | fail)
  all_goals exact Vx rfl ⟨rfl, hself⟩
 simp only [if_neg hd]
 rcases Zax (M := M) (s := s) with ⟨e, he⟩ | ⟨he, hn, h0, h1, j, ref, hs⟩
 ·have ku := Zjd s hG hW
  have hG' := Wo hG G M
  generalize Y6 G M ++ L = H at *
  simp only [he] at ku ⊢
  refine Za (fun _ _ => Tryz.call20 _ _) Tryz.func20 rfl Tryz.ntmps20 (Nat.le_of_ble_eq_true rfl) ?_; simp only [Zc, Nat.reduceAdd]
  repeat' (first | refine uN ?_ | refine uC (ku) ?_ | (refine uP ?_ ?_ <;> (intro h; ((try simp only [zs, ne_eq, and_true, true_and, eq_self, reduceCtorEq] at h); try exact zx))) | fail)
  exact Vx rfl ⟨rfl, hself⟩
 ·simp only [he]
  refine HC.node hW h0 h1 ?_
  have ku := Zrp (X := Vb G.nd M.n 0 s.toNat) hG hW he
  have hok := V0 hW h0 h1
  have hni := Ws hM h0 h1
  generalize Vb G.nd M.n 0 s.toNat = X at *
  generalize Zd M s = m at *
  generalize Zj G s = g at *
  obtain ⟨pl, site, leads, done⟩ := m
  simp only at hs
  subst hs
  have hF := hok.map j ref rfl
  have hj := (hni.jn rfl).ji.jn
  have g0 : (W6 (pt g.sp 0) g.bp (Xi g ⟨pl, some (j, ref), leads, done⟩) done)[0 + 0]? = some (pt g.sp 0) := X4 rfl
  have kr := fun L hG => Zn5 T E g.sp g.bj g.mb g.bp s g.es g.ck ref j d L hG hj.len hF
  simp only [if_neg hd] at kr
  simp only [X7, Zcg, Zbn, Zhd, Zl4, Zme, Zmj] at ku ⊢
  refine Za (fun _ _ => Tryz.call20 _ _) Tryz.func20 rfl Tryz.ntmps20 (Nat.le_of_ble_eq_true rfl) ?_; simp only [Zc, Nat.reduceAdd]
  repeat' (first | refine uN ?_ | refine uC (ku) ?_ | (refine uP ?_ ?_ <;> (intro h; ((try simp only [zs, ne_eq, and_true, true_and, eq_self, reduceCtorEq] at h); try exact zx))) | fail)
  refine fo 6 ?_
  refine fo 5 ?_
  refine fo 5 ?_
  refine gc (kr _ ?_) ?_
  ·exact (((((((((hG.sub.cons _).cons _).cons _).cons _).cons _).cons _).cons _).cons _).cons _).cons _
  rintro v L' ⟨es', ck', hF', rfl, rfl⟩
  repeat' (first | refine uN ?_ | refine uC (ku) ?_ | (refine uP ?_ ?_ <;> (intro h; ((try simp only [zs, ne_eq, and_true, true_and, eq_self, reduceCtorEq] at h); try exact zx))) | fail)
  refine Yi (L' := X7 G s { g with es := es', ck := ck' } (Ui ⟨pl, some (j, ref), leads, done⟩ d) X L) ?_ ⟨rfl, G, M, { g with es := es', ck := ck' }, Ui ⟨pl, some (j, ref), leads, done⟩ d, hW, rfl, rfl, rfl, ⟨hok.ld, hok.lok, fun j2 r2 e => by cases e; exact hF'⟩, rfl, rfl, rfl⟩
  simp only [X7, Zcg, Zbn, Zhd, Zl4, Zme, Zmj, Ui]
  exact uL
theorem Zj6 (T : Nat) (E : Nat → Addr) (G : WdG) (M : Wm) (s n : Int) (L : Zb) (hG : Er T E [2, 6] L) (hW : WdOk G M) (hM : WI M) :
  HC Tryz.prog 91 [pt G.wp 0, iv s, iv n] (Y6 G M ++ L) (fun v L' => v = eV T E (Zdw M s n).2 ∧ Zey G (Zdw M s n).1 L L') := by
 unfold Zdw
 have hself := W1 hW L
 by_cases hd : n < 0
 ·simp only [if_pos hd]
  have hG' := Wo hG G M
  generalize Y6 G M ++ L = H at *
  refine Za (fun _ _ => Tryz.call91 _ _) Tryz.func91 rfl Tryz.ntmps91 (Nat.le_of_ble_eq_true rfl) ?_; simp only [Zc, Nat.reduceAdd]
  repeat' (first | refine uN ?_ | (refine uP ?_ ?_ <;> (intro h; ((try simp only [zs, ne_eq, and_true, true_and, eq_self, reduceCtorEq] at h); try exact zx))) | fail)
  all_goals exact Vx rfl ⟨rfl, hself⟩
 simp only [if_neg hd]
 rcases Zax (M := M) (s := s) with ⟨e, he⟩ | ⟨he, hn, h0, h1, j, ref, hs⟩
 ·have ku := Zjd s hG hW
  have hG' := Wo hG G M
  generalize Y6 G M ++ L = H at *
  simp only [he] at ku ⊢
  refine Za (fun _ _ => Tryz.call91 _ _) Tryz.func91 rfl Tryz.ntmps91 (Nat.le_of_ble_eq_true rfl) ?_; simp only [Zc, Nat.reduceAdd]
  repeat' (first | refine uN ?_ | refine uC (ku) ?_ | (refine uP ?_ ?_ <;> (intro h; ((try simp only [zs, ne_eq, and_true, true_and, eq_self, reduceCtorEq] at h); try exact zx))) | fail)
  exact Vx rfl ⟨rfl, hself⟩
 ·simp only [he]
  refine HC.node hW h0 h1 ?_
  have ku := Zrp (X := Vb G.nd M.n 0 s.toNat) hG hW he
  have hok := V0 hW h0 h1
  have hni := Ws hM h0 h1
  generalize Vb G.nd M.n 0 s.toNat = X at *
  generalize hmm : Zd M s = m at *
  generalize Zj G s = g at *
  obtain ⟨pl, site, leads, done⟩ := m
  simp only at hs
  subst hs
  have hoff : pl.off = false := (hni.up j ref rfl).2
  have g1 : (W6 (pt g.sp 0) g.bp (Xi g ⟨pl, some (j, ref), leads, done⟩) done)[0 + 1]? = some (pt g.bp 0) := X4 rfl
  have kr := fun L hG => Zul T E g.bp g.ba pl n L hG
  simp only [if_neg hd, hoff, Bool.false_eq_true, if_false] at kr
  simp only [X7, Zcg, Zbn, Zhd, Zl4, Zme, Zmj] at ku ⊢
  refine Za (fun _ _ => Tryz.call91 _ _) Tryz.func91 rfl Tryz.ntmps91 (Nat.le_of_ble_eq_true rfl) ?_; simp only [Zc, Nat.reduceAdd]
  repeat' (first | refine uN ?_ | refine uC (ku) ?_ | (refine uP ?_ ?_ <;> (intro h; ((try simp only [zs, ne_eq, and_true, true_and, eq_self, reduceCtorEq] at h); try exact zx))) | fail)
  refine fo 5 ?_
  refine gc (kr _ ?_) ?_
  ·exact ((((((((((((hG.sub.cons _).cons _).cons _).cons _).cons _).cons _).cons _).cons _).cons _).cons _).cons _).cons _)
  rintro v L' ⟨rfl, rfl⟩
  repeat' (first | refine uN ?_ | refine uC (ku) ?_ | (refine uP ?_ ?_ <;> (intro h; ((try simp only [zs, ne_eq, and_true, true_and, eq_self, reduceCtorEq] at h); try exact zx))) | fail)
  refine Yi (L' := X7 G s g ⟨{ pl with cut := n }, some (j, ref), leads, done⟩ X L) ?_ ⟨rfl, G, M, g, ⟨{ pl with cut := n }, some (j, ref), leads, done⟩, hW, rfl, rfl, rfl, hok.same rfl _ _ _, rfl, rfl, rfl⟩
  have e1 : Zb3 g ⟨{ pl with cut := n }, some (j, ref), leads, done⟩ = Zb3 g ⟨pl, some (j, ref), leads, done⟩ := rfl
  have e2 : Xi g ⟨{ pl with cut := n }, some (j, ref), leads, done⟩ = Xi g ⟨pl, some (j, ref), leads, done⟩ := rfl
  simp only [X7, Zcg, Zbn, Zhd, Zl4, Zme, Zmj]
  rw [e1, e2]
  simp only [hoff]
  exact uL
theorem Zho (T : Nat) (E : Nat → Addr) (G : WdG) (M : Wm) (s : Int) (L : Zb) (hG : Er T E [2, 6] L) (hW : WdOk G M) (hM : WI M) :
  HC Tryz.prog 37 [pt G.wp 0, iv s] (Y6 G M ++ L) (fun v L' => v = eV T E (Qb M s).2 ∧ Zey G (Qb M s).1 L L') := by
 unfold Qb
 have hself := W1 hW L
 rcases Zax (M := M) (s := s) with ⟨e, he⟩ | ⟨he, hn, h0, h1, j, ref, hs⟩
 ·have ku := Zjd s hG hW
  have hG' := Wo hG G M
  generalize Y6 G M ++ L = H at *
  simp only [he] at ku ⊢
  refine Za (fun _ _ => Tryz.call37 _ _) Tryz.func37 rfl Tryz.ntmps37 (Nat.le_of_ble_eq_true rfl) ?_; simp only [Zc, Nat.reduceAdd]
  repeat' (first | refine uN ?_ | refine uC (ku) ?_ | (refine uP ?_ ?_ <;> (intro h; ((try simp only [zs, ne_eq, and_true, true_and, eq_self, reduceCtorEq] at h); try exact zx))) | fail)
  exact Vx rfl ⟨rfl, hself⟩
 ·simp only [he]
  refine HC.node hW h0 h1 ?_
  have ku := Zrp (X := Vb G.nd M.n 0 s.toNat) hG hW he
  have hok := V0 hW h0 h1
  have hni := Ws hM h0 h1
  generalize Vb G.nd M.n 0 s.toNat = X at *
  generalize hmm : Zd M s = m at *
  generalize Zj G s = g at *
  obtain ⟨pl, site, leads, done⟩ := m
  simp only at hs
  subst hs
  have g1 : (W6 (pt g.sp 0) g.bp (Xi g ⟨pl, some (j, ref), leads, done⟩) done)[0 + 1]? = some (pt g.bp 0) := X4 rfl
  have kr := fun L => Zvi g.bp g.ba pl L
  have hlv : (Xi g ⟨pl, some (j, ref), leads, done⟩).length = 6 := by simp [Xi, hni.leads, hok.ld]
  have kf := fun L => Zhu g ⟨pl, some (j, ref), leads, done⟩ L hlv hok.ld
  simp only [X7, Zcg, Zbn, Zhd, Zl4, Zme, Zmj] at ku kf ⊢
  refine Za (fun _ _ => Tryz.call37 _ _) Tryz.func37 rfl Tryz.ntmps37 (Nat.le_of_ble_eq_true rfl) ?_; simp only [Zc, Nat.reduceAdd]
  repeat' (first | refine uN ?_ | refine uC (ku) ?_ | (refine uP ?_ ?_ <;> (intro h; ((try simp only [zs, ne_eq, and_true, true_and, eq_self, reduceCtorEq] at h); try exact zx))) | fail)
  refine fo 5 ?_
  refine gc (kr _) ?_
  rintro v L' ⟨rfl, rfl⟩
  repeat' (first | refine uN ?_ | refine uC (ku) ?_ | (refine uP ?_ ?_ <;> (intro h; ((try simp only [zs, ne_eq, and_true, true_and, eq_self, reduceCtorEq] at h); try exact zx))) | fail)
  refine fo 3 ?_
  refine gc (kf _) ?_
  rintro v L' ⟨rfl, rfl⟩
  repeat' (first | refine uN ?_ | refine uC (ku) ?_ | (refine uP ?_ ?_ <;> (intro h; ((try simp only [zs, ne_eq, and_true, true_and, eq_self, reduceCtorEq] at h); try exact zx))) | fail)
  refine Yi (L' := X7 G s g (Zit ⟨pl, some (j, ref), leads, done⟩) X L) ?_ ⟨rfl, G, M, g, Zit ⟨pl, some (j, ref), leads, done⟩, hW, rfl, rfl, rfl, hok.fall _ _, rfl, rfl, rfl⟩
  simp only [X7, Zcg, Zbn, Zhd, Zl4, Zme, Zmj, Zit]
  have : Zb3 g ⟨{ pl with off := true }, none, noLeads, done⟩ = [] := by
   unfold Zb3 noLeads
   have := hok.ld
   obtain ⟨a, b, c, d, e, f, hh⟩ : ∃ a b c d e f, g.ld = [a, b, c, d, e, f] := by
    match g.ld, this with
    | [a, b, c, d, e, f], _ => exact ⟨_, _, _, _, _, _, rfl⟩
   rw [hh]; rfl
  rw [this]
  exact uL
end Go.HL
end

/-! WoQ -/
section
namespace Go.HL
open Go Go.Proofs
set_option linter.unusedVariables false
set_option linter.unusedSimpArgs false
set_option maxHeartbeats 2000000 attribute [local irreducible] HW HO HQ HD HC QOp Has Upd Zt Gets Yb Z6 Zr Xr Z4 Zm Xx Zy
attribute [local irreducible] W6 Yr Xl Zp Xw Zo
theorem Zi3 (T : Nat) (E : Nat → Addr) (G : WdG) (M : Wm) (s : Int) (L : Zb) (hG : Er T E [2, 3, 6, 8] L) (hW : WdOk G M) (hM : WI M) :
  HC Tryz.prog 38 [pt G.wp 0, iv s] (Y6 G M ++ L) (fun v L' => v = eV T E (Zl5 M s).2 ∧ Zey G (Zl5 M s).1 L L') := by
 unfold Zl5
 have hself := W1 hW L
 have hnl := hM.wn
 have hwl := hM.wl
 rcases Vm (M := M) s with he | ⟨he, h0, h1⟩
 ·have kn := Vk T E G M s _ (Wo hG.sub G M) (Zac hW L) hW.ndl
  generalize Y6 G M ++ L = H at *
  simp only [he] at kn ⊢
  refine Za (fun _ _ => Tryz.call38 _ _) Tryz.func38 rfl Tryz.ntmps38 (Nat.le_of_ble_eq_true rfl) ?_; simp only [Zc, Nat.reduceAdd]
  repeat' (first | refine uN ?_ | refine uC (kn) ?_ | (refine uP ?_ ?_ <;> (intro h; ((try simp only [zs, ne_eq, and_true, true_and, eq_self, reduceCtorEq] at h); try exact zx))) | fail)
  exact Vx rfl ⟨rfl, hself⟩
 ·simp only [he]
  cases hs : (Zd M s).site with
  | some q =>
   have kn := Vk T E G M s _ (Wo hG.sub G M) (Zac hW L) hW.ndl
   have hN := Zb7 hW.ndl h0 h1 L
   have hG' := Wo hG G M
   generalize Y6 G M ++ L = H at *
   simp only [he, Option.isSome_some, if_true] at kn ⊢
   unfold Zbn at hN
   rw [hs] at hN
   obtain ⟨q1, q2⟩ := q
   have g0 : (W6 (pt (Zj G s).sp 0) (Zj G s).bp (Xi (Zj G s) (Zd M s)) (Zd M s).done)[0 + 0]? = some (pt (Zj G s).sp 0) := X4 rfl
   refine Za (fun _ _ => Tryz.call38 _ _) Tryz.func38 rfl Tryz.ntmps38 (Nat.le_of_ble_eq_true rfl) ?_; simp only [Zc, Nat.reduceAdd]
   repeat' (first | refine uN ?_ | refine uC (kn) ?_ | (refine uP ?_ ?_ <;> (intro h; ((try simp only [zs, ne_eq, and_true, true_and, eq_self, reduceCtorEq] at h); try exact zx))) | fail)
   exact Vx rfl ⟨rfl, hself⟩
  | none =>
   simp only [Option.isSome_none, Bool.false_eq_true, if_false]
   refine HC.node hW h0 h1 ?_
   have kn := Vk T E G M s _ (Zoa hG.sub G s (Zj G s) (Zd M s) (Vb G.nd M.n 0 s.toNat)) (Zns hW s _ _ _ L) hW.ndl
   have hok := V0 hW h0 h1
   have hni := Ws hM h0 h1
   have hnp := fun H hH => Zez hW h0 h1 (H := H) hH
   simp only [he] at kn
   generalize Vb G.nd M.n 0 s.toNat = X at *
   generalize hmm : Zd M s = m at *
   generalize Zj G s = g at *
   obtain ⟨pl, site, leads, done⟩ := m
   simp only at hs
   subst hs
   have hpl : pl.b.length = 512 := hni.b512
   have g0 : ∀ v, (W6 v g.bp (Xi g ⟨pl, none, leads, done⟩) done)[0 + 0]? = some v := fun v => X4 rfl
   have g1 : ∀ v, (W6 v g.bp (Xi g ⟨pl, none, leads, done⟩) done)[0 + 1]? = some (pt g.bp 0) := fun v => X4 rfl
   have g0n := g0 (.pointer none)
   have g1n := g1 (.pointer none)
   have p0 := fun v => Zqd (sv := .pointer none) (sv' := v) (bp := g.bp) (lv := Xi g ⟨pl, none, leads, done⟩) (dn := done)
   have kon := fun L => on_calls g.bp g.ba pl L
   have kne := fun L hG => Zim T E s g.bp g.ba { pl with off := false, cut := -1 } L hG (by simp only; omega)
   have hse : Zmm s { pl with off := false, cut := -1 } = none := by
    unfold Zmm
    rw [if_neg (by omega)]
    simp only
    rw [if_neg (by omega)]
    simp
   simp only [hse] at kne
   have hlv : (Xi g ⟨pl, none, leads, done⟩).length = 6 := by simp [Xi, hni.leads, hok.ld]
   simp only [X7, Zcg, Zbn, Zhd, Zl4, Zme, Zmj] at kn ⊢
   refine Za (fun _ _ => Tryz.call38 _ _) Tryz.func38 rfl Tryz.ntmps38 (Nat.le_of_ble_eq_true rfl) ?_; simp only [Zc, Nat.reduceAdd]
   repeat' (first | refine uN ?_ | refine uC (kn) ?_ | (refine uP ?_ ?_ <;> (intro h; ((try simp only [zs, ne_eq, and_true, true_and, eq_self, reduceCtorEq] at h); try exact zx))) | fail)
   refine fo 5 ?_
   refine gc (kon _) ?_
   rintro v L' ⟨rfl, rfl⟩
   repeat' (first | refine uN ?_ | refine uC (kn) ?_ | (refine uP ?_ ?_ <;> (intro h; ((try simp only [zs, ne_eq, and_true, true_and, eq_self, reduceCtorEq] at h); try exact zx))) | fail)
   refine gc (kne _ ?_) ?_
   ·exact ((((((((((((hG.sub.cons _).cons _).cons _).cons _).cons _).cons _).cons _).cons _).cons _).cons _).cons _).cons _)
   rintro v L' ⟨sp, bj, mb, rfl, rfl⟩
   have p0n := p0 (pt sp 0)
   repeat' (first | refine uN ?_ | refine uC (kn) ?_ | (refine uP ?_ ?_ <;> (intro h; ((try simp only [zs, ne_eq, and_true, true_and, eq_self, reduceCtorEq] at h); try exact zx))) | fail)
   have kw := fun L hp hs => Zhc G s { g with sp := sp, bj := bj, mb := mb, es := [], ck := 0 } (Vy ⟨pl, none, leads, done⟩) M.ev M.n.length L hW.ev hM.evl hp hni.done hlv hs
   have g0s := g0 (pt sp 0)
   refine fo 6 ?_
   refine fo 6 ?_
   refine fo 6 ?_
   refine gc (kw _ ?_ ?_) ?_
   ·exact hnp _ (fun b o hb => Zf (Zf (Zf (Zf (Zf (Zf (Zf (Zf (Zf (Zf (Yu hb)))))))))))
   ·intro j r hjr
    cases hjr
    refine ⟨⟨Zv, ?_⟩, Zgc _⟩
    exact Zf (Zf (Zf Zv))
   rintro v L' ⟨evv, c, hev, rfl, rfl⟩
   repeat' (first | refine uN ?_ | refine uC (kn) ?_ | (refine uP ?_ ?_ <;> (intro h; ((try simp only [zs, ne_eq, and_true, true_and, eq_self, reduceCtorEq] at h); try exact zx))) | fail)
   refine Yi (L' := X7 { G with ev := evv, ec := c } s { g with sp := sp, bj := bj, mb := mb, es := [], ck := 0 } { Vy ⟨pl, none, leads, done⟩ with done := (Xb s (Vy ⟨pl, none, leads, done⟩) M.ev).1 } X L) ?_ ⟨rfl, { G with ev := evv, ec := c }, { M with ev := (Xb s (Vy ⟨pl, none, leads, done⟩) M.ev).2 }, { g with sp := sp, bj := bj, mb := mb, es := [], ck := 0 }, { Vy ⟨pl, none, leads, done⟩ with done := (Xb s (Vy ⟨pl, none, leads, done⟩) M.ev).1 }, hW.setE hev, rfl, rfl, rfl, ⟨hok.ld, hok.lok, fun j2 r2 e => by cases e; exact Zkp⟩, rfl, rfl, rfl⟩
   simp only [X7, Vy, Zl4, Zme, Zmj]
   exact uL
end Go.HL
end

/-! WoR -/
section
namespace Go.HL
open Go Go.Proofs
set_option linter.unusedVariables false
set_option linter.unusedSimpArgs false
section nd
variable {P : Program} {n : Nat} {ops : List Oper} {Q : Exit → Z3 → Zb → Prop} {ρ : Z3} {L : Zb} {l : List Oper}
theorem ho_nodup (h : (L.flatten.map (·.1)).Nodup → HO P n ops Q l ρ L) : HO P n ops Q l ρ L := fun k w a hs ha => h hs.nodup k w a hs ha
end nd
theorem Zic {G G' : WdG} {M' : Wm} {L : Zb} (h : WdOk G' M') (e1 : G'.wp = G.wp) (e2 : G'.nd = G.nd) : Zey G M' L (Y6 G' M' ++ L) := ⟨G', e1, by rw [e2], h, rfl⟩
set_option maxHeartbeats 2000000 attribute [local irreducible] HW HO HQ HD HC QOp Has Upd Zt Gets Yb Z6 Zr Xr Z4 Zm Xx Zy
attribute [local irreducible] W6 Yr Xl Zp Xw Zo
theorem Zg5 (T : Nat) (E : Nat → Addr) (G : WdG) (M : Wm) (a b : Int) (whole : Bool) (L : Zb) (hG : Er T E [2] L) (hW : WdOk G M) :
  HC Tryz.prog 36 [pt G.wp 0, iv a, iv b, .bool whole] (Y6 G M ++ L) (fun v L' => v = eV T E (Ue M a b whole).2 ∧ Zey G (Ue M a b whole).1 L L') := by
 unfold Ue
 have hself := W1 hW L
 have hI := Zac hW L
 obtain ⟨an, capn, hnv, hnr⟩ := hI.ns
 by_cases h : a < 0 ∨ M.n.length ≤ a ∨ b < 0 ∨ M.n.length ≤ b
 ·simp only [if_pos h]
  have hG' := Wo hG G M
  have hw := hI.wp
  unfold Zaj at hw
  rw [hnv] at hw
  generalize Y6 G M ++ L = H at *
  refine Za (fun _ _ => Tryz.call36 _ _) Tryz.func36 rfl Tryz.ntmps36 (Nat.le_of_ble_eq_true rfl) ?_; simp only [Zc, Nat.reduceAdd]
  repeat' (first | refine uN ?_ | (refine uP ?_ ?_ <;> (intro h; ((try simp only [zs, ne_eq, and_true, true_and, eq_self, reduceCtorEq] at h); try exact zx))) | fail)
  all_goals exact Vx rfl ⟨rfl, hself⟩
 ·simp only [if_neg h]
  have hF := hW.br
  have key : ∀ es' ck' x, Zy pk es' (fun y => if y = (min a b, max a b) then x else M.br y) → Zey G { M with br := fun y => if y = (min a b, max a b) then x else M.br y } L (Y6 { G with es := es', ck := ck' } { M with br := fun y => if y = (min a b, max a b) then x else M.br y } ++ L) := fun es' ck' x hF' => Zic (hW.setB hF') rfl rfl
  simp only [Y6, Zex, Zaj, List.cons_append, List.nil_append, hnv] at key ⊢
  cases whole with
  | true =>
   simp only [Bool.not_true, Bool.false_and]
   refine Za (fun _ _ => Tryz.call36 _ _) Tryz.func36 rfl Tryz.ntmps36 (Nat.le_of_ble_eq_true rfl) ?_; simp only [Zc, Nat.reduceAdd]
   repeat' (first | refine uN ?_ | (refine uP ?_ ?_ <;> (intro h; ((try simp only [zs, ne_eq, and_true, true_and, eq_self, reduceCtorEq] at h); try exact zx))) | fail)
   all_goals refine fo 3 ?_
   all_goals refine wmP (v := false) hF (fun es' ck' hF' => ?_)
   all_goals repeat' (first | refine uN ?_ | (refine uP ?_ ?_ <;> (intro h; ((try simp only [zs, ne_eq, and_true, true_and, eq_self, reduceCtorEq] at h); try exact zx))) | fail)
   all_goals exact Yi uL ⟨rfl, key es' ck' _ hF'⟩
  | false =>
   simp only [Bool.not_false, Bool.true_and]
   refine Za (fun _ _ => Tryz.call36 _ _) Tryz.func36 rfl Tryz.ntmps36 (Nat.le_of_ble_eq_true rfl) ?_; simp only [Zc, Nat.reduceAdd]
   repeat' (first | refine uN ?_ | (refine uP ?_ ?_ <;> (intro h; ((try simp only [zs, ne_eq, and_true, true_and, eq_self, reduceCtorEq] at h); try exact zx))) | fail)
   all_goals refine fo 3 ?_
   all_goals refine wmP (v := decide (a ≠ b)) hF (fun es' ck' hF' => ?_)
   all_goals repeat' (first | refine uN ?_ | (refine uP ?_ ?_ <;> (intro h; ((try simp only [zs, ne_eq, and_true, true_and, eq_self, reduceCtorEq] at h); try exact zx))) | fail)
   all_goals exact Yi uL ⟨rfl, key es' ck' _ hF'⟩
theorem Zhi (T : Nat) (E : Nat → Addr) (G : WdG) (M : Wm) (k : Int) (L : Zb) (hG : Er T E [4] L) (hW : WdOk G M) (hl : M.l.length ≤ 100000000) :
  HC Tryz.prog 35 [pt G.wp 0, iv k] (Y6 G M ++ L) (fun v L' => v = eV T E (Uy M k).2 ∧ Zey G (Uy M k).1 L L') := by
 unfold Uy
 have hself := W1 hW L
 have hI := Zac hW L
 have ka := Zdl T E G M k _ (Wo hG G M) hI
 unfold Zk1 at *
 by_cases h : k < 0 ∨ M.l.length ≤ k
 ·simp only [if_pos h] at ka ⊢
  generalize Y6 G M ++ L = H at *
  refine Za (fun _ _ => Tryz.call35 _ _) Tryz.func35 rfl Tryz.ntmps35 (Nat.le_of_ble_eq_true rfl) ?_; simp only [Zc, Nat.reduceAdd]
  repeat' (first | refine uN ?_ | refine uC (ka) ?_ | (refine uP ?_ ?_ <;> (intro h; ((try simp only [zs, ne_eq, and_true, true_and, eq_self, reduceCtorEq] at h); try exact zx))) | fail)
  all_goals exact Vx rfl ⟨rfl, hself⟩
 ·simp only [if_neg h] at ka ⊢
  have key : ∀ lv lc, Zx lv (M.l.eraseIdx k.toNat) lc → Zey G { M with l := M.l.eraseIdx k.toNat } L (Y6 { G with lv := lv, lc := lc } { M with l := M.l.eraseIdx k.toNat } ++ L) := fun lv lc hv => Zic (hW.setL hv) rfl rfl
  have kd := fun L => Zfd G.lv M.l G.lc k (k + 1) L hW.l hl (by omega) (by omega) rfl
  simp only [Y6, Zex, Zaj, List.cons_append, List.nil_append] at key ka ⊢
  obtain ⟨a5, cap5, he5, -, -⟩ := hW.l.rd Zi
  rw [he5] at ka kd ⊢
  refine Za (fun _ _ => Tryz.call35 _ _) Tryz.func35 rfl Tryz.ntmps35 (Nat.le_of_ble_eq_true rfl) ?_; simp only [Zc, Nat.reduceAdd]
  repeat' (first | refine uN ?_ | refine uC (ka) ?_ | (refine uP ?_ ?_ <;> (intro h; ((try simp only [zs, ne_eq, and_true, true_and, eq_self, reduceCtorEq] at h); try exact zx))) | fail)
  refine fo 4 ?_
  refine gc (kd _) ?_
  rintro v L' ⟨c', hv', rfl⟩
  obtain ⟨a6, cap6, rfl, -, -⟩ := hv'.rd Zi
  repeat' (first | refine uN ?_ | refine uC (ka) ?_ | (refine uP ?_ ?_ <;> (intro h; ((try simp only [zs, ne_eq, and_true, true_and, eq_self, reduceCtorEq] at h); try exact zx))) | fail)
  exact Yi uL ⟨rfl, key _ c' hv'⟩
theorem Zqz (G : WdG) (M : Wm) (L : Zb) (hI : WdIn L G M) : HC Tryz.prog 157 [pt G.wp 0] L (fun v L' => v = iv M.l.length ∧ L' = L) := by
 have hw := hI.wp
 unfold Zaj at hw
 obtain ⟨a, cap, hlv, -⟩ := hI.ls
 rw [hlv] at hw
 refine Za (fun _ _ => Tryz.call157 _ _) Tryz.func157 rfl Tryz.ntmps157 (Nat.le_of_ble_eq_true rfl) ?_; simp only [Zc, Nat.reduceAdd]
 repeat' (first | refine uN ?_)
 exact Vx rfl ⟨rfl, rfl⟩
theorem Znc (G : WdG) (M : Wm) (L : Zb) (hI : WdIn L G M) : HC Tryz.prog 102 [pt G.wp 0] L (fun v L' => v = iv M.n.length ∧ L' = L) := by
 have hw := hI.wp
 unfold Zaj at hw
 obtain ⟨a, cap, hlv, -⟩ := hI.ns
 rw [hlv] at hw
 refine Za (fun _ _ => Tryz.call102 _ _) Tryz.func102 rfl Tryz.ntmps102 (Nat.le_of_ble_eq_true rfl) ?_; simp only [Zc, Nat.reduceAdd]
 repeat' (first | refine uN ?_)
 exact Vx rfl ⟨rfl, rfl⟩
theorem Zd2 (G : WdG) (M : Wm) (L : Zb) (hW : WdOk G M) (hl : M.l.length ≤ 100000000) :
  HC Tryz.prog 22 [pt G.wp 0] (Y6 G M ++ L) (fun v L' => ∃ c, Zx v M.l c ∧ L' = c :: (Y6 G M ++ L)) := by
 have kd := fun L => Zmx G.lv M.l G.lc L hW.l hl
 obtain ⟨a5, cap5, he5, -, -⟩ := hW.l.rd Zi
 simp only [Y6, Zex, Zaj, List.cons_append, List.nil_append]
 rw [he5] at kd ⊢
 refine Za (fun _ _ => Tryz.call22 _ _) Tryz.func22 rfl Tryz.ntmps22 (Nat.le_of_ble_eq_true rfl) ?_; simp only [Zc, Nat.reduceAdd]
 repeat' (first | refine uN ?_)
 refine fo 4 ?_
 refine gc (kd _) ?_
 rintro v L' ⟨c', hv', rfl⟩
 repeat' (first | refine uN ?_)
 exact Yi uL ⟨c', hv', rfl⟩
theorem Zk6 (G : WdG) (M : Wm) (L : Zb) (hW : WdOk G M) (hl : M.ev.length ≤ 100000000) :
  HC Tryz.prog 27 [pt G.wp 0] (Y6 G M ++ L) (fun v L' => ∃ c, Vec 81 3 ec v M.ev c ∧ L' = c :: (Y6 G M ++ L)) := by
 have kd := fun L => Zm3 G.ev M.ev G.ec L hW.ev hl
 obtain ⟨a5, cap5, he5, -, -⟩ := hW.ev.rd Vg
 simp only [Y6, Zex, Zaj, List.cons_append, List.nil_append]
 rw [he5] at kd ⊢
 refine Za (fun _ _ => Tryz.call27 _ _) Tryz.func27 rfl Tryz.ntmps27 (Nat.le_of_ble_eq_true rfl) ?_; simp only [Zc, Nat.reduceAdd]
 repeat' (first | refine uN ?_)
 refine fo 5 ?_
 refine gc (kd _) ?_
 rintro v L' ⟨c', hv', rfl⟩
 repeat' (first | refine uN ?_)
 exact Yi uL ⟨c', hv', rfl⟩
theorem Ze0 (T : Nat) (E : Nat → Addr) (G : WdG) (M : Wm) (k : Int) (L : Zb) (hG : Er T E [4] L) (hW : WdOk G M) (hl : M.l.length ≤ 99999999) :
  HC Tryz.prog 88 [pt G.wp 0, iv k] (Y6 G M ++ L) (fun v L' => v = eV T E (Vv M k).2 ∧ Zey G (Vv M k).1 L L') := by
 unfold Vv
 have hself := W1 hW L
 have hI := Zac hW L
 have ka := Zdl T E G M k _ (Wo hG G M) hI
 unfold Zk1 at *
 by_cases h : k < 0 ∨ M.l.length ≤ k
 ·simp only [if_pos h] at ka ⊢
  generalize Y6 G M ++ L = H at *
  refine Za (fun _ _ => Tryz.call88 _ _) Tryz.func88 rfl Tryz.ntmps88 (Nat.le_of_ble_eq_true rfl) ?_; simp only [Zc, Nat.reduceAdd]
  repeat' (first | refine uN ?_ | refine Z7 S ?_ | refine Yt S ?_ | refine uC (ka) ?_ | refine Yd (fun _ => ka) ?_ | refine Yf (fun _ => ka) ?_ | refine Ye (fun _ => ka) ?_ | refine Yh (fun _ => ka) ?_ | (refine uB ?_; intro b) | (refine uP ?_ ?_ <;> (intro h; ((try simp only [zs, ne_eq, and_true, true_and, eq_self, reduceCtorEq] at h); try exact zx))) | refine da 101 ?_ | fail)
  all_goals exact Vx rfl ⟨rfl, hself⟩
 ·simp only [if_neg h] at ka ⊢
  have key : ∀ lv lc, Zx lv (M.l.take (k + 1).toNat ++ M.l.getD k.toNat Ys :: M.l.drop (k + 1).toNat) lc → Zey G { M with l := M.l.take (k + 1).toNat ++ M.l.getD k.toNat Ys :: M.l.drop (k + 1).toNat } L (Y6 { G with lv := lv, lc := lc } { M with l := M.l.take (k + 1).toNat ++ M.l.getD k.toNat Ys :: M.l.drop (k + 1).toNat } ++ L) := fun lv lc hv => Zic (hW.setL hv) rfl rfl
  have kd := fun eb L hne => Znt G.lv M.l G.lc (k + 1) (M.l.getD k.toNat Ys) eb L hW.l (by omega) (by omega) (by omega) hne
  obtain ⟨a5, cap5, he5, -, hR5⟩ := hW.l.rd Zi
  have hR6 := (hR5 []).mono (L' := Y6 G M ++ L) fun b o hb => by
   simp only [Has, Y6, Zex, List.flatten_cons, List.flatten_nil, List.append_nil, List.cons_append, List.nil_append] at hb ⊢
   simp [hb]
  obtain ⟨b, i, l, F, fr, e6, hb, hg⟩ := hR6.at (j := k) (by omega) (by omega)
  have hgk : M.l[k.toNat]'(by omega) = M.l.getD k.toNat Ys := by
   rw [List.getD, List.getElem?_eq_getElem (by omega)]; rfl
  rw [hgk] at hg
  rw [e6] at he5
  simp only [Y6, Zex, Zaj, List.cons_append, List.nil_append] at key ka hb ⊢
  rw [he5] at ka kd hb ⊢
  refine Za (fun _ _ => Tryz.call88 _ _) Tryz.func88 rfl Tryz.ntmps88 (Nat.le_of_ble_eq_true rfl) ?_; simp only [Zc, Nat.reduceAdd]
  repeat' (first | refine uN ?_ | refine Yc S ?_ | refine uC (ka) ?_ | refine Yd (fun _ => ka) ?_ | refine Yf (fun _ => ka) ?_ | refine Ye (fun _ => ka) ?_ | refine Yh (fun _ => ka) ?_ | (refine uB ?_; intro b) | (refine uP ?_ ?_ <;> (intro h; ((try simp only [zs, ne_eq, and_true, true_and, eq_self, reduceCtorEq] at h); try exact zx))) | refine da 101 ?_ | fail)
  refine ho_nodup fun hnd => ?_
  refine fo 5 ?_
  refine gc (kd b _ ?_) ?_
  ·intro q o hq hqe
   subst hqe
   rw [List.flatten_cons, List.singleton_append, List.map_cons, List.nodup_cons] at hnd
   refine hnd.1 (List.mem_map.2 ⟨(b, o), ?_, rfl⟩)
   simp [hq]
  rintro v L' ⟨c', hv', rfl⟩
  obtain ⟨a6, cap6, rfl, -, -⟩ := hv'.rd Zi
  repeat' (first | refine uN ?_ | refine Yc S ?_ | refine uC (ka) ?_ | refine Yd (fun _ => ka) ?_ | refine Yf (fun _ => ka) ?_ | refine Ye (fun _ => ka) ?_ | refine Yh (fun _ => ka) ?_ | (refine uB ?_; intro b) | (refine uP ?_ ?_ <;> (intro h; ((try simp only [zs, ne_eq, and_true, true_and, eq_self, reduceCtorEq] at h); try exact zx))) | refine da 101 ?_ | fail)
  exact Yi uL ⟨rfl, key _ c' hv'⟩
end Go.HL
end

/-! WoS -/
section
namespace Go.HL
open Go Go.Proofs
set_option linter.unusedVariables false
set_option linter.unusedSimpArgs false
theorem Zi8 {α β : Type} (f : α → β → List Zq) : ∀ {l : List α} {k : List β} {d : Nat} {a : α} {b : β}, l[d]? = some a → k[d]? = some b → ∃ A B, (List.zipWith f l k).flatten = A ++ (f a b ++ B) ∧ ∀ a' b', (List.zipWith f (l.set d a') (k.set d b')).flatten = A ++ (f a' b' ++ B)
 | [], _, _, _, _, h, _ => by simp at h
 | _ :: _, [], _, _, _, _, h => by simp at h
 | x :: l, y :: k, 0, a, b, h1, h2 => by
  simp at h1 h2
  subst h1; subst h2
  exact ⟨[], (List.zipWith f l k).flatten, by simp, fun a' b' => by simp⟩
 | x :: l, y :: k, d + 1, a, b, h1, h2 => by
  obtain ⟨A, B, e1, e2⟩ := Zi8 f (l := l) (k := k) (d := d) (a := a) (b := b) (by simpa using h1) (by simpa using h2)
  exact ⟨f x y ++ A, B, by simp [e1], fun a' b' => by simp [e2]⟩
theorem Zjs {g : NdG} {m : Nd} {d : Nat} {o : Option Ld} {q : Nat × Value × List Zq} (h1 : m.leads[d]? = some o) (h2 : g.ld[d]? = some q) :
  ∃ A B, Zb3 g m = A ++ (ldB o q ++ B) ∧ ∀ o' q' (m' : Nd) (g' : NdG), m'.leads = m.leads.set d o' → g'.ld = g.ld.set d q' → Zb3 g' m' = A ++ (ldB o' q' ++ B) := by
 obtain ⟨A, B, e1, e2⟩ := Zi8 ldB h1 h2
 refine ⟨A, B, e1, fun o' q' m' g' h3 h4 => ?_⟩
 unfold Zb3
 rw [h3, h4]
 exact e2 o' q'
theorem Za8 {α : Type} {l : List α} {d : Nat} {x : α} (h : l[d]? = some x) : l.set d x = l := by
 refine List.ext_getElem? fun i => ?_
 rw [List.getElem?_set]
 split
 ·rename_i e
  subst e
  rw [h, if_pos (List.getElem?_eq_some_iff.1 h).1]
 ·rfl
theorem Ze3 {g g' : NdG} {m m' : Nd} {d : Nat} {o' : Option Ld} {q' : Nat × Value × List Zq} (h3 : m'.leads = m.leads.set d o') (h4 : g'.ld = g.ld.set d q') : Xi g' m' = (Xi g m).set d (Zed o' q') := by
 unfold Xi
 rw [h3, h4]
 refine List.ext_getElem? fun i => ?_
 simp only [List.getElem?_zipWith, List.getElem?_set, List.length_zipWith]
 by_cases hd : d = i
 ·subst hd
  simp only [if_true]
  by_cases ha : d < m.leads.length
  ·by_cases hb : d < g.ld.length
   ·have : d < min m.leads.length g.ld.length := by omega
    simp [ha, hb, this]
   ·have : ¬ d < min m.leads.length g.ld.length := by omega
    simp [ha, hb]; omega
  ·have : ¬ d < min m.leads.length g.ld.length := by omega
   simp [ha]; omega
 ·simp only [if_neg hd]
theorem NdOk.lead {g : NdG} {m : Nd} (h : NdOk g m) {d : Nat} {x : Ld} {q : Nat × Value × List Zq} (hx : LdOk q.2.1 q.2.2 x) : NdOk { g with ld := g.ld.set d q } { m with leads := m.leads.set d (some x) } := by
 refine ⟨by simp [h.ld], fun e y hy p hp => ?_, h.map⟩
 simp only [List.getElem?_set] at hy hp
 by_cases hde : d = e
 ·rw [if_pos hde] at hy hp
  split at hy
  ·split at hp
   ·cases hy; cases hp; exact hx
   ·cases hp
  ·cases hy
 ·rw [if_neg hde] at hy hp
  exact h.lok e y hy p hp
theorem NdOk.hear {g : NdG} {m : Nd} (h : NdOk g m) {d : Nat} {x : Ld} {q : Nat × Value × List Zq} (h2 : g.ld[d]? = some q) (hx : LdOk q.2.1 q.2.2 x) : NdOk g { m with leads := m.leads.set d (some x) } := by
 have := h.lead (d := d) hx
 rw [Za8 h2] at this
 exact this
theorem Zvp (id : Int) (ref : Int → Bool) (m : Pl) (j : Jn) (f : Fr) : (Zp id ref m j f).2.2.1.length ≤ 1 := by
 unfold Zp
 split
 ·simp
 split
 ·simp
 split
 ·simp
 ·simp only
  split <;> simp
theorem Zdr (M : Wm) (s : Int) (f : Fr) : (Yo M s f).2.1.length ≤ 1 := by
 unfold Yo Y7
 split
 ·simp
 ·rename_i j ref _
  split
  ·simp
  ·exact Zvp s ref _ j f
theorem errs_ls {tab : List (Nat × Nat)} {T : Nat} {E : Nat → Addr} {cs : List Nat} {L L' : Zb} (h : Errs tab T E cs L) (hl : LS L.flatten L'.flatten) : Errs tab T E cs L' := h.mono fun _ _ hb => hl.mem hb
theorem ls_mid {c A B : List Zq} {D : Zb} : LS (c :: A :: B :: D).flatten ((A ++ (c ++ B)) :: D).flatten := by
 simp only [List.flatten_cons, List.append_assoc]
 refine LS.of_perm ?_
 rw [← List.append_assoc, ← List.append_assoc A c]
 exact List.perm_append_comm.append_right _
theorem ls_mid' {c A B : List Zq} {D : Zb} : LS ((A ++ (c ++ B)) :: D).flatten (c :: A :: B :: D).flatten := by
 simp only [List.flatten_cons, List.append_assoc]
 refine LS.of_perm ?_
 rw [← List.append_assoc, ← List.append_assoc c A]
 exact List.perm_append_comm.append_right _
theorem ls7 {x0 x1 x2 x3 x4 x5 x6 c A B : List Zq} {D : Zb} : LS (x0 :: x1 :: x2 :: x3 :: x4 :: x5 :: x6 :: (A ++ (c ++ B)) :: D).flatten (x0 :: x1 :: x2 :: x3 :: x4 :: x5 :: x6 :: c :: A :: B :: D).flatten := LS.k (LS.k (LS.k (LS.k (LS.k (LS.k (LS.k ls_mid'))))))
theorem Rd.ls {α : Type} {enc : α → List Value} {sz : Nat} {L L' : Zb} {a : Option Addr} {xs : List α} (h : Rd enc sz L a xs) (hl : LS L.flatten L'.flatten) : Rd enc sz L' a xs := h.mono fun _ _ hb => hl.mem hb
theorem WdIn.sp {L L' : Zb} {G : WdG} {M : Wm} (h : WdIn L G M) (hl : LS L.flatten L'.flatten) : WdIn L' G M := by
 obtain ⟨h1, ⟨a2, c2, e2, r2⟩, ⟨a3, c3, e3, r3⟩, ⟨a4, c4, e4, r4⟩, h5⟩ := h
 exact ⟨hl.mem h1, ⟨a2, c2, e2, r2.ls hl⟩, ⟨a3, c3, e3, r3.ls hl⟩, ⟨a4, c4, e4, r4.ls hl⟩, h5⟩
set_option maxHeartbeats 2000000 attribute [local irreducible] HW HO HQ HD HC QOp Has Upd Zt Gets Yb Z6 Zr Xr Z4 Zm Xx Zy
attribute [local irreducible] W6 Yr Xl Zp Xw Zo
theorem Wa {ρ : Z3} {L : Zb} {ty : TypeId} {pos : String} {af : Array Edge} {d : Option Tmp} {g : Option (Nat × Bool)} {r : Nat} {x y : Operand} {es : List MapEntry} {ck : Nat} {f : Int × Int → Bool} {a b : Int} {v : Bool} (h00 : X6 ρ = true := by exact rfl) (hx : ev ρ x = some (.map (some r)) := by exact rfl) (hy : ev ρ y = some (.agg ⟨[iv a, iv b]⟩) := by exact rfl)
  (hb : Has L r (.map ⟨es⟩ ck) := by (repeat (first | assumption | exact Zv | exact Yu (by assumption) | apply Vw | apply Zf))) (hF : Zy pk es f := by assumption) (hv : f (a, b) = v := by assumption) :
  QOp Tryz.prog ⟨d, .lookup 107 x y false, ty, pos, af, g⟩ ρ L (.bool v) := hv ▸ qmP h00 hx hy (hb := hb) (hF := hF)
set_option maxHeartbeats 1000000 in
theorem Q2 (T : Nat) (E : Nat → Addr) (G : WdG) (M : Wm) (k : Int) (L : Zb) (hG : Er T E [2, 3, 4, 5, 6] L) (hW : WdOk G M) (hM : WI M) (hl : M.l.length ≤ 99999999) :
  HC Tryz.prog 23 [pt G.wp 0, iv k] (Y6 G M ++ L) (fun v L' => v = eV T E (Zw M k).2 ∧ Zey G (Zw M k).1 L L') := by
 unfold Zw
 have hself := W1 hW L
 have hI := Zac hW L
 have ka := Zdl T E G M k _ (Wo hG.sub G M) hI
 cases he : Zk1 M k with
 | some e =>
  simp only [he] at ka ⊢
  generalize Y6 G M ++ L = H at *
  refine Za (fun _ _ => Tryz.call23 _ _) Tryz.func23 rfl Tryz.ntmps23 (Nat.le_of_ble_eq_true rfl) ?_; simp only [Zc, Nat.reduceAdd]
  repeat' (first | refine uN ?_ | refine Z7 S ?_ | refine Yt S ?_ | refine uC (ka) ?_ | refine Yd (fun _ => ka) ?_ | refine Yf (fun _ => ka) ?_ | refine Ye (fun _ => ka) ?_ | refine Yh (fun _ => ka) ?_ | refine We Wa ?_ | refine Qi Wa ?_ | refine Zk2 100 (by exact rfl) (fun _ => Wa) ?_ | (refine uB ?_; intro b) | (refine uP ?_ ?_ <;> (intro h; ((try simp only [zs, ne_eq, and_true, true_and, eq_self, reduceCtorEq] at h); try exact zx))) | refine da 101 ?_ | fail)
  exact Vx rfl ⟨rfl, hself⟩
 | none =>
  simp only [he] at ka ⊢
  clear hself
  have hk : 0 ≤ k ∧ k < M.l.length := by
   unfold Zk1 at he
   split at he
   ·cases he
   ·omega
  obtain ⟨hk0, hk1⟩ := hk
  have hgk : M.l[k.toNat]'(by omega) = M.l.getD k.toNat Ys := by
   rw [List.getD, List.getElem?_eq_getElem (by omega)]; rfl
  obtain ⟨hbad, hto, hfr⟩ := hM.fr (M.l.getD k.toNat Ys) (by rw [← hgk]; exact List.getElem_mem _)
  have hM1 := hM.erase k.toNat
  have hW1 : ∀ lv lc, Zx lv (M.l.eraseIdx k.toNat) lc → WdOk { G with lv := lv, lc := lc } { M with l := M.l.eraseIdx k.toNat } := fun lv lc hv => hW.setL hv
  have kd := fun L => Zfd G.lv M.l G.lc k (k + 1) L hW.l (by omega) (by omega) (by omega) rfl
  obtain ⟨a5, cap5, he5, -, hR5⟩ := hW.l.rd Zi
  have hR6 := (hR5 []).mono (L' := G.lc :: []) fun b o hb => by
   simp only [Has, List.flatten_cons, List.flatten_nil, List.append_nil] at hb ⊢
   simp [hb]
  obtain ⟨b5, i5, l5, F5, fr5, e6, hb5, hg5⟩ := hR6.at (j := k) (by omega) (by omega)
  have hb5' : ∀ H, Has (G.lc :: H) b5 (.cells ⟨l5⟩ F5 fr5) := fun H => by
   simp only [Has, List.flatten_cons, List.flatten_nil, List.append_nil] at hb5
   exact Yu hb5
  rw [hgk] at hg5
  rw [e6] at he5
  clear hR5 hR6 e6 hb5
  have hn0 : 0 ≤ (M.l.getD k.toNat Ys).to := by unfold Xv at hbad; omega
  have hn1 : (M.l.getD k.toNat Ys).to < M.n.length := by rw [hM.wn]; exact hto
  have hd0 : 0 ≤ (M.l.getD k.toNat Ys).dl ∧ (M.l.getD k.toNat Ys).dl < 6 := by unfold Xv at hbad; omega
  have hnp := Zez hW hn0 hn1 (H := G.nc :: []) (fun b o hb => Yu hb)
  have hN := Ztv hW.ndl hn0 hn1 L
  have hF := hW.br
  obtain ⟨⟨nb, ni, nl, nF, nfr, ncap, e7, hnb, hng⟩, -, -⟩ := hnp
  have hnb' : ∀ H, Has (G.nc :: H) nb (.cells ⟨nl⟩ nF nfr) := fun H => by
   simp only [Has, List.flatten_cons, List.flatten_nil, List.append_nil] at hnb
   exact Yu hnb
  clear hnb
  have e8 : ∀ l, (Zd { M with l := l } (M.l.getD k.toNat Ys).to) = Zd M (M.l.getD k.toNat Ys).to := fun l => rfl
  rw [e8]
  have hni := Ws hM hn0 hn1
  have hok := V0 hW hn0 hn1
  generalize hf : M.l.getD k.toNat Ys = f at *
  have hcl : ∀ lv lc, Zx lv (M.l.eraseIdx k.toNat) lc → Zey G { M with l := M.l.eraseIdx k.toNat } L (Y6 { G with lv := lv, lc := lc } { M with l := M.l.eraseIdx k.toNat } ++ L) := fun lv lc hv => Zic (hW1 lv lc hv) rfl rfl
  have hsc : (Zd M f.to).site = none ∨ ∃ q, (Zd M f.to).site = some q := by
   cases (Zd M f.to).site with
   | none => exact .inl rfl
   | some q => exact .inr ⟨q, rfl⟩
  rcases hsc with hs | ⟨q, hs⟩
  ·rw [if_pos (.inl (by rw [hs]; rfl))]
   obtain ⟨ffr, fto, fdl, fkd, fatt, fys, fs⟩ := f
   simp only at hbad hto hfr hg5 hng hn0 hn1 hN hs ⊢
   unfold Zbn at hN
   rw [hs] at hN
   have g0 : (W6 (.pointer none) (Zj G fto).bp (Xi (Zj G fto) (Zd M fto)) (Zd M fto).done)[0 + 0]? = some (.pointer none) := X4 rfl
   simp only [Y6, Zex, Zaj, List.cons_append, List.nil_append] at hcl ka ⊢
   rw [e7, he5] at ka ⊢
   rw [e7] at hcl
   rw [he5] at kd
   have hb5a := hb5' (G.ec :: U6 G.nd M.n 0 :: L)
   have hnba := hnb' ([(G.mb, .map ⟨G.es⟩ G.ck)] :: G.ec :: U6 G.nd M.n 0 :: L)
   refine Za (fun _ _ => Tryz.call23 _ _) Tryz.func23 rfl Tryz.ntmps23 (Nat.le_of_ble_eq_true rfl) ?_; simp only [Zc, Nat.reduceAdd]
   repeat' (first | refine uN ?_ | refine Z7 S ?_ | refine Yt S ?_ | refine uC (ka) ?_ | refine Yd (fun _ => ka) ?_ | refine Yf (fun _ => ka) ?_ | refine Ye (fun _ => ka) ?_ | refine Yh (fun _ => ka) ?_ | refine We Wa ?_ | refine Qi Wa ?_ | refine Zk2 100 (by exact rfl) (fun _ => Wa) ?_ | (refine uB ?_; intro b) | (refine uP ?_ ?_ <;> (intro h; ((try simp only [zs, ne_eq, and_true, true_and, eq_self, reduceCtorEq] at h); try exact zx))) | refine da 101 ?_ | fail)
   refine fo 5 ?_
   refine gc (kd _) ?_
   rintro v L' ⟨c', hv', rfl⟩
   obtain ⟨a6, cap6, rfl, -, -⟩ := hv'.rd Zi
   repeat' (first | refine uN ?_ | refine Z7 S ?_ | refine Yt S ?_ | refine uC (ka) ?_ | refine Yd (fun _ => ka) ?_ | refine Yf (fun _ => ka) ?_ | refine Ye (fun _ => ka) ?_ | refine Yh (fun _ => ka) ?_ | refine We Wa ?_ | refine Qi Wa ?_ | refine Zk2 100 (by exact rfl) (fun _ => Wa) ?_ | (refine uB ?_; intro b) | (refine uP ?_ ?_ <;> (intro h; ((try simp only [zs, ne_eq, and_true, true_and, eq_self, reduceCtorEq] at h); try exact zx))) | refine da 101 ?_ | fail)
   all_goals exact Yi uL ⟨rfl, hcl _ c' hv'⟩
  ·obtain ⟨j, ref⟩ := q
   have hbr0 : ∀ b, M.br (Zjv f) = b → M.br (min f.fr f.to, max f.fr f.to) = b := fun b h => h
   obtain ⟨dn, hdn⟩ := Int.eq_ofNat_of_zero_le hd0.1
   have hd6 : dn < 6 := by omega
   have g0 : (W6 (pt (Zj G f.to).sp 0) (Zj G f.to).bp (Xi (Zj G f.to) (Zd M f.to)) (Zd M f.to).done)[0 + 0]? = some (pt (Zj G f.to).sp 0) := X4 rfl
   have hm1 : (Zd M f.to).leads[dn]? = some ((Zd M f.to).leads.getD dn none) := getD_some (by rw [hni.leads]; exact hd6)
   obtain ⟨q, hq⟩ : ∃ q, (Zj G f.to).ld[dn]? = some q := ⟨_, List.getElem?_eq_getElem (by rw [hok.ld]; exact hd6)⟩
   have hv := Zdd hm1 hq
   have gL := Zc3 (sv := pt (Zj G f.to).sp 0) (bp := (Zj G f.to).bp) (dn := (Zd M f.to).done) hv
   have hNv : Zbn (Zj G f.to) (Zd M f.to) = .cells ⟨W6 (pt (Zj G f.to).sp 0) (Zj G f.to).bp (Xi (Zj G f.to) (Zd M f.to)) (Zd M f.to).done⟩ 122 := by unfold Zbn; rw [hs]; rfl
   by_cases hbr : M.br (Zjv f) = true
   ·rw [if_pos (.inr hbr)]
    have hbr' := hbr0 _ hbr
    rw [hNv] at hN
    obtain ⟨ffr, fto, fdl, fkd, fatt, fys, fs⟩ := f
    simp only at hbad hto hfr hg5 hng hn0 hn1 hN hs hbr' g0 ⊢
    simp only [Y6, Zex, Zaj, List.cons_append, List.nil_append] at hcl ka ⊢
    rw [e7, he5] at ka ⊢
    rw [e7] at hcl
    rw [he5] at kd
    have hb5a := hb5' (G.ec :: U6 G.nd M.n 0 :: L)
    have hnba := hnb' ([(G.mb, .map ⟨G.es⟩ G.ck)] :: G.ec :: U6 G.nd M.n 0 :: L)
    refine Za (fun _ _ => Tryz.call23 _ _) Tryz.func23 rfl Tryz.ntmps23 (Nat.le_of_ble_eq_true rfl) ?_; simp only [Zc, Nat.reduceAdd]
    repeat' (first | refine uN ?_ | refine Z7 S ?_ | refine Yt S ?_ | refine uC (ka) ?_ | refine Yd (fun _ => ka) ?_ | refine Yf (fun _ => ka) ?_ | refine Ye (fun _ => ka) ?_ | refine Yh (fun _ => ka) ?_ | refine We Wa ?_ | refine Qi Wa ?_ | refine Zk2 100 (by exact rfl) (fun _ => Wa) ?_ | (refine uB ?_; intro b) | (refine uP ?_ ?_ <;> (intro h; ((try simp only [zs, ne_eq, and_true, true_and, eq_self, reduceCtorEq] at h); try exact zx))) | refine da 101 ?_ | fail)
    refine fo 5 ?_
    refine gc (kd _) ?_
    rintro v L' ⟨c', hv', rfl⟩
    obtain ⟨a6, cap6, rfl, -, -⟩ := hv'.rd Zi
    repeat' (first | refine uN ?_ | refine Z7 S ?_ | refine Yt S ?_ | refine uC (ka) ?_ | refine Yd (fun _ => ka) ?_ | refine Yf (fun _ => ka) ?_ | refine Ye (fun _ => ka) ?_ | refine Yh (fun _ => ka) ?_ | refine We Wa ?_ | refine Qi Wa ?_ | refine Zk2 100 (by exact rfl) (fun _ => Wa) ?_ | (refine uB ?_; intro b) | (refine uP ?_ ?_ <;> (intro h; ((try simp only [zs, ne_eq, and_true, true_and, eq_self, reduceCtorEq] at h); try exact zx))) | refine da 101 ?_ | fail)
    all_goals exact Yi uL ⟨rfl, hcl _ c' hv'⟩
   ·have hbrf : M.br (Zjv f) = false := by simpa using hbr
    rw [if_neg (by simp [hbrf, hs])]
    have hbr' := hbr0 _ hbrf
    by_cases hkd : f.kd = 2 ∨ f.kd = 4 ∨ f.kd = 6
    ·rw [if_pos hkd]
     rw [show f.dl.toNat = dn by omega]
     cases hx : (Zd M f.to).leads.getD dn none with
     | none =>
      simp only
      rw [hx] at gL
      simp only [Zed] at gL
      rw [hNv] at hN
      obtain ⟨ffr, fto, fdl, fkd, fatt, fys, fs⟩ := f
      simp only at hbad hto hfr hg5 hng hn0 hn1 hN hs hbr' g0 gL hkd hdn ⊢
      subst hdn
      simp only [Y6, Zex, Zaj, List.cons_append, List.nil_append] at hcl ka ⊢
      rw [e7, he5] at ka ⊢
      rw [e7] at hcl
      rw [he5] at kd
      have hb5a := hb5' (G.ec :: U6 G.nd M.n 0 :: L)
      have hnba := hnb' ([(G.mb, .map ⟨G.es⟩ G.ck)] :: G.ec :: U6 G.nd M.n 0 :: L)
      refine Za (fun _ _ => Tryz.call23 _ _) Tryz.func23 rfl Tryz.ntmps23 (Nat.le_of_ble_eq_true rfl) ?_; simp only [Zc, Nat.reduceAdd]
      repeat' (first | refine uN ?_ | refine Z7 S ?_ | refine Yt S ?_ | refine uC (ka) ?_ | refine Yd (fun _ => ka) ?_ | refine Yf (fun _ => ka) ?_ | refine Ye (fun _ => ka) ?_ | refine Yh (fun _ => ka) ?_ | refine We Wa ?_ | refine Qi Wa ?_ | refine Zk2 100 (by exact rfl) (fun _ => Wa) ?_ | (refine uB ?_; intro b) | (refine uP ?_ ?_ <;> (intro h; ((try simp only [zs, ne_eq, and_true, true_and, eq_self, reduceCtorEq] at h); try exact zx))) | refine da 101 ?_ | fail)
      refine fo 5 ?_
      refine gc (kd _) ?_
      rintro v L' ⟨c', hv', rfl⟩
      obtain ⟨a6, cap6, rfl, -, -⟩ := hv'.rd Zi
      repeat' (first | refine uN ?_ | refine Z7 S ?_ | refine Yt S ?_ | refine uC (ka) ?_ | refine Yd (fun _ => ka) ?_ | refine Yf (fun _ => ka) ?_ | refine Ye (fun _ => ka) ?_ | refine Yh (fun _ => ka) ?_ | refine We Wa ?_ | refine Qi Wa ?_ | refine Zk2 100 (by exact rfl) (fun _ => Wa) ?_ | (refine uB ?_; intro b) | (refine uP ?_ ?_ <;> (intro h; ((try simp only [zs, ne_eq, and_true, true_and, eq_self, reduceCtorEq] at h); try exact zx))) | refine da 101 ?_ | fail)
      all_goals exact Yi uL ⟨rfl, hcl _ c' hv'⟩
     | some x =>
      simp only
      rw [hx] at hm1 gL hv
      simp only [Zed] at gL hv
      have hLI := hni.ldi dn x hm1
      have hLO := hok.lok dn x hm1 q hq
      have hhd : x.heard < 2 ^ x.w.length := by rw [hLI.ww]; exact hLI.heard
      have hLs : LdIs M.w x.id x.deal x.att x := ⟨rfl, rfl, rfl, hLI.ww, hLI.told, hLI.heard⟩
      have hLh := hLs.hear f
      have hLO' := hLs.ok hLh hLO
      have hhl := Zaf x f
      have hwl := hM.wl
      rw [hLI.ww] at hhl
      refine HC.node (M' := { Yp { M with l := M.l.eraseIdx k.toNat } f.to { Zd M f.to with leads := (Zd M f.to).leads.set dn (some (Zs x f).1) } with l := M.l.eraseIdx k.toNat ++ (Zs x f).2 }) hW hn0 hn1 ?_
      obtain ⟨A, B, eA, eB⟩ := Zjs hm1 hq
      have eB' := eB (some (Zs x f).1) q { Zd M f.to with leads := (Zd M f.to).leads.set dn (some (Zs x f).1) } (Zj G f.to) rfl (Za8 hq).symm
      have eV' : Xi (Zj G f.to) { Zd M f.to with leads := (Zd M f.to).leads.set dn (some (Zs x f).1) } = Xi (Zj G f.to) (Zd M f.to) := by
       rw [Ze3 (g := Zj G f.to) (m := Zd M f.to) (o' := some (Zs x f).1) (q' := q) rfl (Za8 hq).symm]
       exact Za8 hv
      have hokD := hok.hear hq hLO'
      have hls : ∀ X, LS (X7 G f.to (Zj G f.to) (Zd M f.to) X L).flatten ([(G.wp, Zaj G)] :: G.ec :: [((Zj G f.to).np, .cells ⟨W6 (pt (Zj G f.to).sp 0) (Zj G f.to).bp (Xi (Zj G f.to) (Zd M f.to)) (Zd M f.to).done⟩ 122)] :: Zhy (Zj G f.to).sp (Zj G f.to).bj (Zj G f.to).mb f.to :: Zii (Zj G f.to).mb (Zj G f.to).es (Zj G f.to).ck :: Xl (Zj G f.to).bp (Zj G f.to).ba (Zd M f.to).pl :: jC (Zj G f.to).bj (Zj G f.to).bp j :: Ql q.1 q.2.1 q.2.2 x :: A :: B :: G.lc :: G.wc :: G.nc :: [(G.mb, .map ⟨G.es⟩ G.ck)] :: X :: L).flatten := fun X => by
       simp only [X7, Zcg, hNv, hs, Zl4, Zme, Zmj]
       rw [eA]
       iterate 7 refine LS.k ?_
       exact ls_mid'
      have kat := Zdl T E G M k _ (errs_ls (Zoa hG.sub G f.to (Zj G f.to) (Zd M f.to) (Vb G.nd M.n 0 f.to.toNat)) (hls _)) ((Zns hW f.to _ _ _ L).sp (hls _))
      rw [he] at kat
      clear hls
      have kh := fun L hG => Zj1 T E q.1 q.2.1 q.2.2 x f L hG hLO hhd
      generalize Vb G.nd M.n 0 f.to.toNat = X at *
      simp only [Zaj] at kat
      simp only [X7, Zcg, hNv, hs, Zhd, Zl4, Zme, Zmj, Zaj]
      rw [eA]
      rw [e7, he5] at kat ⊢
      rw [he5] at kd
      generalize hmm : Zd M f.to = m at *
      generalize Zj G f.to = g at *
      have hokD2 : NdOk g ⟨m.pl, some (j, ref), m.leads.set dn (some (Zs x f).1), m.done⟩ := by
       have := hokD
       rw [hs] at this
       exact this
      have eB2 := eB (some (Zs x f).1) q ⟨m.pl, some (j, ref), m.leads.set dn (some (Zs x f).1), m.done⟩ g rfl (Za8 hq).symm
      have eV2 : Xi g ⟨m.pl, some (j, ref), m.leads.set dn (some (Zs x f).1), m.done⟩ = Xi g m := eV'
      obtain ⟨ffr, fto, fdl, fkd, fatt, fys, fs⟩ := f
      simp only at hbad hto hfr hg5 hng hn0 hn1 hs hbr' g0 gL hkd hdn kh hhl hLO' hLh eB2 eV2 hokD2 kat ⊢
      clear eB' eV' hokD
      subst hdn
      have hb5a := hb5' (G.wc :: G.nc :: [(G.mb, .map ⟨G.es⟩ G.ck)] :: X :: L)
      have hnba := hnb' ([(G.mb, .map ⟨G.es⟩ G.ck)] :: X :: L)
      refine HC.sp (L' := [(G.wp, .cells ⟨[G.wv, sl nb ni M.n.length ncap, .map (some G.mb), sl b5 i5 M.l.length cap5, G.ev]⟩ 110)] :: G.ec :: [(g.np, .cells ⟨W6 (pt g.sp 0) g.bp (Xi g m) m.done⟩ 122)] :: Zhy g.sp g.bj g.mb fto :: Zii g.mb g.es g.ck :: Xl g.bp g.ba m.pl :: jC g.bj g.bp j :: Ql q.1 q.2.1 q.2.2 x :: A :: B :: G.lc :: G.wc :: G.nc :: [(G.mb, .map ⟨G.es⟩ G.ck)] :: X :: L) ?_ ?_
      ·refine Za (fun _ _ => Tryz.call23 _ _) Tryz.func23 rfl Tryz.ntmps23 (Nat.le_of_ble_eq_true rfl) ?_; simp only [Zc, Nat.reduceAdd]
       repeat' (first | refine uN ?_ | refine Z7 S ?_ | refine Yt S ?_ | refine uC (kat) ?_ | refine Yd (fun _ => kat) ?_ | refine Yf (fun _ => kat) ?_ | refine Ye (fun _ => kat) ?_ | refine Yh (fun _ => kat) ?_ | refine We Wa ?_ | refine Qi Wa ?_ | refine Zk2 100 (by exact rfl) (fun _ => Wa) ?_ | (refine uB ?_; intro b) | (refine uP ?_ ?_ <;> (intro h; ((try simp only [zs, ne_eq, and_true, true_and, eq_self, reduceCtorEq] at h); try exact zx))) | refine da 101 ?_ | fail)
       refine fo 11 ?_
       refine gc (kd _) ?_
       rintro v L' ⟨c', hv', rfl⟩
       obtain ⟨a6, cap6, rfl, -, -⟩ := hv'.rd Zi
       repeat' (first | refine uN ?_ | refine Z7 S ?_ | refine Yt S ?_ | refine uC (kat) ?_ | refine Yd (fun _ => kat) ?_ | refine Yf (fun _ => kat) ?_ | refine Ye (fun _ => kat) ?_ | refine Yh (fun _ => kat) ?_ | refine We Wa ?_ | refine Qi Wa ?_ | refine Zk2 100 (by exact rfl) (fun _ => Wa) ?_ | (refine uB ?_; intro b) | (refine uP ?_ ?_ <;> (intro h; ((try simp only [zs, ne_eq, and_true, true_and, eq_self, reduceCtorEq] at h); try exact zx))) | refine da 101 ?_ | fail)
       all_goals refine fo 9 ?_
       all_goals refine gc (kh _ (by repeat (first | exact hG | exact hG.sub | apply Errs.cons))) ?_
       all_goals rintro v L' ⟨c2, hv2, rfl⟩
       all_goals obtain ⟨a7, cap7, rfl, -, hR7⟩ := hv2.rd Zi
       all_goals repeat' (first | refine uN ?_ | refine Z7 S ?_ | refine Yt S ?_ | refine uC (kat) ?_ | refine Yd (fun _ => kat) ?_ | refine Yf (fun _ => kat) ?_ | refine Ye (fun _ => kat) ?_ | refine Yh (fun _ => kat) ?_ | refine We Wa ?_ | refine Qi Wa ?_ | refine Zk2 100 (by exact rfl) (fun _ => Wa) ?_ | (refine uB ?_; intro b) | (refine uP ?_ ?_ <;> (intro h; ((try simp only [zs, ne_eq, and_true, true_and, eq_self, reduceCtorEq] at h); try exact zx))) | refine da 101 ?_ | fail)
       all_goals refine fo 2 ?_
       all_goals refine Ztl S hv' (Rd.cons (hR7 _) _) Zi Wb ?_ (hby := by simp only [List.length_eraseIdx]; split <;> omega) (hmax := by simp only [List.length_eraseIdx]; split <;> omega)
       all_goals intro v'' c'' hv''
       all_goals obtain ⟨a8, cap8, rfl, -, -⟩ := hv''.rd Zi
       all_goals repeat' (first | refine uN ?_ | refine Z7 S ?_ | refine Yt S ?_ | refine uC (kat) ?_ | refine Yd (fun _ => kat) ?_ | refine Yf (fun _ => kat) ?_ | refine Ye (fun _ => kat) ?_ | refine Yh (fun _ => kat) ?_ | refine We Wa ?_ | refine Qi Wa ?_ | refine Zk2 100 (by exact rfl) (fun _ => Wa) ?_ | (refine uB ?_; intro b) | (refine uP ?_ ?_ <;> (intro h; ((try simp only [zs, ne_eq, and_true, true_and, eq_self, reduceCtorEq] at h); try exact zx))) | refine da 101 ?_ | fail)
       all_goals refine Yi (L' := X7 { G with lv := .slice a8 (M.l.eraseIdx k.toNat ++ (Zs x ⟨ffr, fto, dn, fkd, fatt, fys, fs⟩).2).length cap8, lc := c'' } fto g ⟨m.pl, some (j, ref), m.leads.set dn (some (Zs x ⟨ffr, fto, dn, fkd, fatt, fys, fs⟩).1), m.done⟩ X L) ?_ ⟨rfl, { G with lv := .slice a8 (M.l.eraseIdx k.toNat ++ (Zs x ⟨ffr, fto, dn, fkd, fatt, fys, fs⟩).2).length cap8, lc := c'' }, { M with l := M.l.eraseIdx k.toNat ++ (Zs x ⟨ffr, fto, dn, fkd, fatt, fys, fs⟩).2 }, g, ⟨m.pl, some (j, ref), m.leads.set dn (some (Zs x ⟨ffr, fto, dn, fkd, fatt, fys, fs⟩).1), m.done⟩, hW.setL hv'', rfl, rfl, rfl, hokD2, rfl, rfl, rfl⟩
       all_goals simp only [X7, Zcg, Zbn, Zhd, Zl4, Zme, Zmj, Zaj, eV2]
       all_goals rw [eB2, e7]
       all_goals simp only [ldB, Ql]
       all_goals exact LS.trans ls7 uL
      ·iterate 7 refine LS.k ?_
       exact ls_mid
    ·rw [if_neg hkd]
     have kh := fun lv lc hv L hG => Zft T E { G with lv := lv, lc := lc } { M with l := M.l.eraseIdx k.toNat } f.to f L hG (hW1 lv lc hv) hM1 hn0 hn1 (by rw [e8, hs]; simp)
     have hhl := Zdr { M with l := M.l.eraseIdx k.toNat } f.to f
     have hml : (Yo { M with l := M.l.eraseIdx k.toNat } f.to f).1.l = M.l.eraseIdx k.toNat := rfl
     rw [hNv] at hN
     obtain ⟨ffr, fto, fdl, fkd, fatt, fys, fs⟩ := f
     simp only at hbad hto hfr hg5 hng hn0 hn1 hN hs hbr' g0 hkd kh hhl hml ⊢
     clear hdn
     generalize Yo { M with l := M.l.eraseIdx k.toNat } fto ⟨ffr, fto, fdl, fkd, fatt, fys, fs⟩ = R at *
     simp only [Y6, Zex, Zaj, List.cons_append, List.nil_append] at ka ⊢
     rw [e7, he5] at ka ⊢
     rw [he5] at kd
     have hb5a := hb5' (G.ec :: U6 G.nd M.n 0 :: L)
     have hnba := hnb' ([(G.mb, .map ⟨G.es⟩ G.ck)] :: G.ec :: U6 G.nd M.n 0 :: L)
     refine Za (fun _ _ => Tryz.call23 _ _) Tryz.func23 rfl Tryz.ntmps23 (Nat.le_of_ble_eq_true rfl) ?_; simp only [Zc, Nat.reduceAdd]
     repeat' (first | refine uN ?_ | refine Z7 S ?_ | refine Yt S ?_ | refine uC (ka) ?_ | refine Yd (fun _ => ka) ?_ | refine Yf (fun _ => ka) ?_ | refine Ye (fun _ => ka) ?_ | refine Yh (fun _ => ka) ?_ | refine We Wa ?_ | refine Qi Wa ?_ | refine Zk2 100 (by exact rfl) (fun _ => Wa) ?_ | (refine uB ?_; intro b) | (refine uP ?_ ?_ <;> (intro h; ((try simp only [zs, ne_eq, and_true, true_and, eq_self, reduceCtorEq] at h); try exact zx))) | refine da 101 ?_ | fail)
     refine fo 5 ?_
     refine gc (kd _) ?_
     rintro v L' ⟨c', hv', rfl⟩
     obtain ⟨a6, cap6, rfl, -, -⟩ := hv'.rd Zi
     repeat' (first | refine uN ?_ | refine Z7 S ?_ | refine Yt S ?_ | refine uC (ka) ?_ | refine Yd (fun _ => ka) ?_ | refine Yf (fun _ => ka) ?_ | refine Ye (fun _ => ka) ?_ | refine Yh (fun _ => ka) ?_ | refine We Wa ?_ | refine Qi Wa ?_ | refine Zk2 100 (by exact rfl) (fun _ => Wa) ?_ | (refine uB ?_; intro b) | (refine uP ?_ ?_ <;> (intro h; ((try simp only [zs, ne_eq, and_true, true_and, eq_self, reduceCtorEq] at h); try exact zx))) | refine da 101 ?_ | fail)
     refine Uk (L' := Y6 { G with lv := .slice a6 (M.l.eraseIdx k.toNat).length cap6, lc := c' } { M with l := M.l.eraseIdx k.toNat } ++ L) ?_ ?_
     ·refine gc (kh _ _ hv' _ (by repeat (first | exact hG | exact hG.sub | apply Errs.cons))) ?_
      rintro v L' ⟨c2, ⟨fv, hfv, rfl⟩, G2, e1, e2, hW2, rfl⟩
      obtain ⟨a7, cap7, rfl, -, hR7⟩ := hfv.rd Zi
      obtain ⟨a8, cap8, he8, -, -⟩ := hW2.l.rd Zi
      have hv2 := hW2.l
      rw [hml] at hv2 he8
      have hcl2 : ∀ lv lc, Zx lv (M.l.eraseIdx k.toNat ++ R.2.1) lc → Zey G { R.1 with l := M.l.eraseIdx k.toNat ++ R.2.1 } L (Y6 { G2 with lv := lv, lc := lc } { R.1 with l := M.l.eraseIdx k.toNat ++ R.2.1 } ++ L) := fun lv lc hv => ⟨{ G2 with lv := lv, lc := lc }, e1, e2, hW2.setL hv, rfl⟩
      simp only [Y6, Zex, Zaj, List.cons_append, List.nil_append, e1] at hcl2 ⊢
      rw [he8] at hv2 ⊢
      repeat' (first | refine uN ?_ | refine Z7 S ?_ | refine Yt S ?_ | refine uC (ka) ?_ | refine Yd (fun _ => ka) ?_ | refine Yf (fun _ => ka) ?_ | refine Ye (fun _ => ka) ?_ | refine Yh (fun _ => ka) ?_ | refine We Wa ?_ | refine Qi Wa ?_ | refine Zk2 100 (by exact rfl) (fun _ => Wa) ?_ | (refine uB ?_; intro b) | (refine uP ?_ ?_ <;> (intro h; ((try simp only [zs, ne_eq, and_true, true_and, eq_self, reduceCtorEq] at h); try exact zx))) | refine da 101 ?_ | fail)
      refine fo 4 ?_
      refine Ztl S hv2 (Rd.cons ((hR7 []).mono fun b o hb => ?_) _) Zi Wb ?_ (hby := by simp only [List.length_eraseIdx]; split <;> omega) (hmax := by simp only [List.length_eraseIdx]; split <;> omega)
      ·exact Zf (Zf (Zf (Zf (Zf (Zf (Yu (by simpa [Has] using hb)))))))
      intro v'' c'' hv''
      obtain ⟨a9, cap9, rfl, -, -⟩ := hv''.rd Zi
      repeat' (first | refine uN ?_ | refine Z7 S ?_ | refine Yt S ?_ | refine uC (ka) ?_ | refine Yd (fun _ => ka) ?_ | refine Yf (fun _ => ka) ?_ | refine Ye (fun _ => ka) ?_ | refine Yh (fun _ => ka) ?_ | refine We Wa ?_ | refine Qi Wa ?_ | refine Zk2 100 (by exact rfl) (fun _ => Wa) ?_ | (refine uB ?_; intro b) | (refine uP ?_ ?_ <;> (intro h; ((try simp only [zs, ne_eq, and_true, true_and, eq_self, reduceCtorEq] at h); try exact zx))) | refine da 101 ?_ | fail)
      exact Yi uL ⟨rfl, hcl2 _ c'' hv''⟩
     ·simp only [Y6, Zex, Zaj, List.cons_append, List.nil_append, e7]
      exact uL
end Go.HL
end

/-! WoT -/
section
namespace Go.HL
open Go Go.Proofs
set_option linter.unusedVariables false
set_option linter.unusedSimpArgs false
theorem Zpq {G G' : WdG} {M M1 : Wm} {s : Int} {g' : NdG} {m' : Nd} (L : Zb) (hl : G.nd.length = M.n.length) (h0 : 0 ≤ s) (h1 : s < M.n.length) (hW : WdOk G' M1) (e1 : G'.nd = G.nd) (e2 : M1.n = M.n) (e3 : G'.wp = G.wp) (hN : NdOk g' m') (e4 : g'.np = (Zj G s).np) :
  ∃ L', Zey G (Yp M1 s m') L L' ∧ LS L'.flatten (X7 G' s g' m' (Vb G.nd M.n 0 s.toNat) L).flatten := by
 have hnp : g'.np = (Zj G' s).np := by rw [e4]; unfold Zj; rw [e1]
 refine ⟨Y6 { G' with nd := G'.nd.set s.toNat g' } (Yp M1 s m') ++ L, ⟨{ G' with nd := G'.nd.set s.toNat g' }, e3, ?_, hW.put h0 (by rw [e2]; exact h1) hN hnp, rfl⟩, ?_⟩
 ·simp only
  rw [← e1]
  exact Znf h0 (by rw [e1]; omega) hnp
 ·simp only [Y6, Yp, e1, e2]
  exact Zkg (G := G') h0 (by omega) (by omega) L
theorem LS.cutAt {a A x B : List Zq} {L L1 : Zb} (k0 : Nat) (h : LS a (A :: B :: L1).flatten) (hp : Zcb k0 L = some (A ++ (x ++ B), L1) := by exact rfl) : LS a L.flatten := by
 refine LS.trans h (LS.trans ?_ (LS.of_perm (Wy hp).symm.flatten))
 simp only [List.flatten_cons, List.append_assoc]
 exact LS.boths A (LS.skips x (LS.refl _))
theorem Zbs (m : Ld) : (Xd m).length ≤ m.w.length := by
 unfold Xd
 split <;> exact Uf _ (Zfe m _ _) _
theorem Zkm {M : Wm} (h : WI M) {s d a : Int} (h0 : 0 ≤ s) (h1 : s < M.n.length) (hd : 0 ≤ d ∧ d < 6) (ha : a ≤ 1048576) : Zc4 s d M.w a = none := by
 unfold Zc4
 rw [h.w0]
 have := h.wn
 simp only
 rw [if_neg (by omega)]
theorem Zp9 {M : Wm} {d : Int} {i : Nat} (hi : i < M.n.length) (hb : Wn d (Zd M (i : Int)) = true) : M.n.any (Wn d) = true := by
 rw [List.any_eq_true]
 refine ⟨_, ?_, hb⟩
 unfold Zd
 simp only [Int.toNat_natCast]
 rw [List.getD, List.getElem?_eq_getElem hi]
 exact List.getElem_mem _
theorem Zmg {M : Wm} {d : Int} (h : ∀ i, i < M.n.length → Wn d (Zd M (i : Int)) = false) : M.n.any (Wn d) = false := by
 rw [List.any_eq_false]
 intro x hx
 obtain ⟨i, hi, rfl⟩ := List.mem_iff_getElem.1 hx
 have := h i hi
 unfold Zd at this
 simp only [Int.toNat_natCast] at this
 rw [List.getD, List.getElem?_eq_getElem hi] at this
 simp only [Option.getD_some] at this
 rw [this]
 simp
set_option maxHeartbeats 2000000 attribute [local irreducible] HW HO HQ HD HC QOp Has Upd Zt Gets Yb Z6 Zr Xr Z4 Zm Xx Zy
attribute [local irreducible] W6 Yr Xl Zp Xw Zo
theorem Qr (T : Nat) (E : Nat → Addr) (G : WdG) (M : Wm) (s d : Int) (L : Zb) (hG : Er T E [2, 3, 4, 6, 8] L) (hW : WdOk G M) (hM : WI M) (hl : M.l.length ≤ 99999999) :
  HC Tryz.prog 21 [pt G.wp 0, iv s, iv d] (Y6 G M ++ L) (fun v L' => v = eV T E (Xk M s d).2 ∧ Zey G (Xk M s d).1 L L') := by
 unfold Xk
 have hself := W1 hW L
 have hI := Zac hW L
 have hwn := hM.wn
 have hwl := hM.wl
 obtain ⟨an, capn, hnv, hnr⟩ := hI.ns
 by_cases h : d < 0 ∨ 6 ≤ d ∨ s < 0 ∨ M.n.length ≤ s
 ·simp only [if_pos h]
  have hG' := Wo hG G M
  have hw := hI.wp
  unfold Zaj at hw
  rw [hnv] at hw
  generalize Y6 G M ++ L = H at *
  refine Za (fun _ _ => Tryz.call21 _ _) Tryz.func21 rfl Tryz.ntmps21 (Nat.le_of_ble_eq_true rfl) ?_; simp only [Zc, Nat.reduceAdd]
  repeat' (first | refine uN ?_ | refine Z7 S ?_ | refine Yt S ?_ | (refine uB ?_; intro b) | refine dg S 100 (fun _ _ => ?_) | (refine uP ?_ ?_ <;> (intro h; ((try simp only [zs, ne_eq, and_true, true_and, eq_self, reduceCtorEq] at h); try exact zx))) | refine da 101 ?_ | fail)
  all_goals exact Vx rfl ⟨rfl, hself⟩
 simp only [if_neg h]
 rcases Zax (M := M) (s := s) with ⟨e, he⟩ | ⟨he, hn, h0, h1, j, ref, hs⟩
 ·have ku := Zjd s hG.sub hW
  have hG' := Wo hG G M
  have hw := hI.wp
  unfold Zaj at hw
  rw [hnv] at hw
  generalize Y6 G M ++ L = H at *
  simp only [he] at ku ⊢
  refine Za (fun _ _ => Tryz.call21 _ _) Tryz.func21 rfl Tryz.ntmps21 (Nat.le_of_ble_eq_true rfl) ?_; simp only [Zc, Nat.reduceAdd]
  repeat' (first | refine uN ?_ | refine Z7 S ?_ | refine Yt S ?_ | refine uC (ku) ?_ | refine Yd (fun _ => ku) ?_ | refine Yf (fun _ => ku) ?_ | refine Ye (fun _ => ku) ?_ | refine Yh (fun _ => ku) ?_ | (refine uB ?_; intro b) | refine dg S 100 (fun _ _ => ?_) | (refine uP ?_ ?_ <;> (intro h; ((try simp only [zs, ne_eq, and_true, true_and, eq_self, reduceCtorEq] at h); try exact zx))) | refine da 101 ?_ | fail)
  exact Vx rfl ⟨rfl, hself⟩
 ·simp only [he]
  have ku := Zjd s hG.sub hW
  have hG' := Wo hG G M
  have hw := hI.wp
  unfold Zaj at hw
  rw [hnv] at hw
  generalize hH : Y6 G M ++ L = H at *
  simp only [he, Zqy hn] at ku
  refine Za (fun _ _ => Tryz.call21 _ _) Tryz.func21 rfl Tryz.ntmps21 (Nat.le_of_ble_eq_true rfl) ?_; simp only [Zc, Nat.reduceAdd]
  repeat' (first | refine uN ?_ | refine Z7 S ?_ | refine Yt S ?_ | refine uC (ku) ?_ | refine Yd (fun _ => ku) ?_ | refine Yf (fun _ => ku) ?_ | refine Ye (fun _ => ku) ?_ | refine Yh (fun _ => ku) ?_ | (refine uB ?_; intro b) | refine dg S 100 (fun _ _ => ?_) | (refine uP ?_ ?_ <;> (intro h; ((try simp only [zs, ne_eq, and_true, true_and, eq_self, reduceCtorEq] at h); try exact zx))) | refine da 101 ?_ | fail)
  have hB : ∀ {i : Int} (h0 : 0 ≤ i) (h1 : i < M.n.length) {b : Nat} {o : Obj}, (b, o) ∈ Zjo (Zj G i) i (Zd M i) → Has H b o := fun {i} h0 h1 {b o} hb => by
   have := Zgr hW.ndl h0 h1 hb L
   subst hH
   unfold Has Y6 at *
   rw [List.append_assoc, List.flatten_append]
   exact List.mem_append_right _ this
  obtain ⟨dn, rfl⟩ := Int.eq_ofNat_of_zero_le (show 0 ≤ d by omega)
  have hd6 : dn < 6 := by omega
  refine Zn (σ := Nat) (fun i => [(0, pt G.wp 0), (1, iv s), (2, iv dn), (7, pt (Zj G s).np 0), (45, .slice an M.n.length capn), (46, iv M.n.length), (47, iv i)]) (fun _ => H) (fun i => i ≤ M.n.length ∧ ∀ k, k < i → Wn dn (Zd M (k : Int)) = false) (fun i => M.n.length - i) 0 uS (List.Sublist.refl _) ⟨by simp, fun k hk => by omega⟩ ?_
  rintro i ⟨hi, hfree⟩
  by_cases hlt : i < M.n.length
  ·have hBi := fun {b o} => hB (i := (i : Int)) (by omega) (by omega) (b := b) (o := o)
   have hni := Ws hM (s := (i : Int)) (by omega) (by omega)
   have hok := V0 hW (s := (i : Int)) (by omega) (by omega)
   obtain ⟨⟨b, bi, l, F, fr, cap2, e7, hb, hg2⟩, -, -⟩ := Zez hW (s := (i : Int)) (by omega) (by omega) (H := H) (fun b o hb => by
    subst hH
    simp only [Has, Y6, Zex, List.flatten_cons, List.cons_append, List.nil_append]
    simp [hb])
   rw [hnv] at e7
   obtain ⟨rfl, -, rfl⟩ := Value.slice.inj e7
   have hNi : Has H (Zj G i).np (Zbn (Zj G i) (Zd M i)) := hBi (by simp [Zjo, Zcg])
   have kst := Zfb T E G M i dn H hG'.sub hI hW.ndl (fun _ => hNi) (fun _ => ⟨by rw [hni.b512]; omega, by rw [hni.b512]; omega, fun p hp => hBi (by
    unfold Zjo Xl
    simp only [List.mem_cons, List.not_mem_nil, or_false] at hp
    rcases hp with rfl | rfl
    ·simp [plB]
    ·simp [plD])⟩)
   have e1 : Vz M i dn = none := by
    unfold Vz
    rw [Za5 (by omega) (by omega)]
    simp only
    rw [if_neg (by omega)]
   have e2 : Zaz M i dn = Xe (Zd M i).pl dn := by unfold Zaz; rw [e1]
   rw [e1, e2] at kst
   have hm1 : (Zd M i).leads[dn]? = some ((Zd M i).leads.getD dn none) := getD_some (by rw [hni.leads]; exact hd6)
   obtain ⟨q, hq⟩ : ∃ q, (Zj G i).ld[dn]? = some q := ⟨_, List.getElem?_eq_getElem (by rw [hok.ld]; exact hd6)⟩
   have hv := Zdd hm1 hq
   have gL := Zc3 (sv := Zhd (Zj G i) (Zd M i).site) (bp := (Zj G i).bp) (dn := (Zd M i).done) hv
   have hbz : Wn dn (Zd M i) = (decide (Xe (Zd M i).pl dn ≠ Ww) || ((Zd M i).leads.getD dn none).isSome) := rfl
   have hbu := Zp9 (M := M) (d := dn) hlt
   unfold Zbn at hNi
   generalize hmi : Zd M i = m at *
   generalize Zj G i = g at *
   generalize Xe m.pl dn = st at *
   obtain ⟨ph, pr, att⟩ := st
   cases hx : m.leads.getD dn none with
   | some x =>
    rw [hx] at gL hbz
    simp only [Zed] at gL
    have hb1 : Wn dn m = true := by rw [hbz]; simp
    rw [if_pos (hbu hb1)]
    repeat' (first | refine uN ?_ | refine Z7 S ?_ | refine Yt S ?_ | refine uC (kst) ?_ | refine Yd (fun _ => kst) ?_ | refine Yf (fun _ => kst) ?_ | refine Ye (fun _ => kst) ?_ | refine Yh (fun _ => kst) ?_ | (refine uB ?_; intro b) | refine dg S 100 (fun _ _ => ?_) | (refine uP ?_ ?_ <;> (intro h; ((try simp only [zs, ne_eq, and_true, true_and, eq_self, reduceCtorEq] at h); try exact zx))) | refine da 101 ?_ | fail)
    all_goals exact Yi (LS.c (LS.refl _)) ⟨rfl, hself⟩
   | none =>
    rw [hx] at gL hbz
    simp only [Zed] at gL
    by_cases hz : ph = 0 ∧ pr = 0 ∧ att = 0
    ·obtain ⟨rfl, rfl, rfl⟩ := hz
     have hb0 : Wn dn m = false := by rw [hbz]; rfl
     repeat' (first | refine uN ?_ | refine Z7 S ?_ | refine Yt S ?_ | refine uC (kst) ?_ | refine Yd (fun _ => kst) ?_ | refine Yf (fun _ => kst) ?_ | refine Ye (fun _ => kst) ?_ | refine Yh (fun _ => kst) ?_ | (refine uB ?_; intro b) | refine dg S 100 (fun _ _ => ?_) | (refine uP ?_ ?_ <;> (intro h; ((try simp only [zs, ne_eq, and_true, true_and, eq_self, reduceCtorEq] at h); try exact zx))) | refine da 101 ?_ | fail)
     all_goals refine Zg (i + 1) uS (LS.c (LS.refl _)) ⟨by omega, fun k hk => ?_⟩ (by omega)
     all_goals by_cases e : k = i
     all_goals first | (subst e; rw [hmi]; exact hb0; done) | exact hfree k (by omega)
    ·have hb1 : Wn dn m = true := by
      rw [hbz, decide_eq_true]
      ·rfl
      ·intro e
       cases e
       exact hz ⟨rfl, rfl, rfl⟩
     rw [if_pos (hbu hb1)]
     repeat' (first | refine uN ?_ | refine Z7 S ?_ | refine Yt S ?_ | refine uC (kst) ?_ | refine Yd (fun _ => kst) ?_ | refine Yf (fun _ => kst) ?_ | refine Ye (fun _ => kst) ?_ | refine Yh (fun _ => kst) ?_ | (refine uB ?_; intro b) | refine dg S 100 (fun _ _ => ?_) | (refine uP ?_ ?_ <;> (intro h; ((try simp only [zs, ne_eq, and_true, true_and, eq_self, reduceCtorEq] at h); try exact zx))) | refine da 101 ?_ | fail)
     all_goals first | exact Yi (LS.c (LS.refl _)) ⟨rfl, hself⟩ | (exfalso; simp_all; done)
  ·obtain rfl : i = M.n.length := by omega
   have hany : M.n.any (Wn (dn : Int)) = false := Zmg hfree
   simp only [hany, Bool.false_eq_true, if_false]
   subst hH
   obtain ⟨aw, capw, hwv, -, hwr⟩ := hW.w.rd Xu
   obtain ⟨al, capl, hlv5, -, hlr⟩ := hW.l.rd Zi
   have hvl := hW.l
   have hok := V0 hW h0 h1
   have hni := Ws hM h0 h1
   have hm1 : (Zd M s).leads[dn]? = some ((Zd M s).leads.getD dn none) := getD_some (by rw [hni.leads]; exact hd6)
   obtain ⟨q, hq⟩ : ∃ q, (Zj G s).ld[dn]? = some q := ⟨_, List.getElem?_eq_getElem (by rw [hok.ld]; exact hd6)⟩
   have hv := Zdd hm1 hq
   obtain ⟨A, B, eA, eB⟩ := Zjs hm1 hq
   have hlE := Zkm hM (s := s) (d := dn) (a := 0) h0 h1 ⟨by omega, by omega⟩ (by omega)
   have kb := fun L hG hR => Zqo T E s dn aw capw M.w L hG hR (by omega)
   rw [hlE] at kb
   rw [hlv5] at hvl
   have hsl := Zbs (Zh s dn M.w 0 2)
   have hslw : (Zh s dn M.w 0 2).w = M.w := rfl
   rw [hslw] at hsl
   have hsh := fun G' M1 g' m' a b c d e f => Zpq (G := G) (G' := G') (M := M) (M1 := M1) (s := s) (g' := g') (m' := m') L hW.ndl h0 h1 a b c d e f
   have hWL := fun {lv lc l} hv => hW.setL (lv := lv) (lc := lc) (l := l) hv
   have hlv : (Xi (Zj G s) (Zd M s)).length = 6 := by simp [Xi, hni.leads, hok.ld]
   refine Wi (L' := X7 G s (Zj G s) (Zd M s) (Vb G.nd M.n 0 s.toNat) L) ?_ (Zh6 hW.ndl h0 h1 L)
   generalize Vb G.nd M.n 0 s.toNat = X at *
   generalize hmm : Zd M s = m at *
   generalize hgg : Zj G s = g at *
   obtain ⟨pl, site, leads, done⟩ := m
   simp only at hs hm1 hlv
   subst hs
   simp only [X7, Zcg, Zbn, Zhd, Zl4, Zme, Zmj, Zaj]
   rw [hwv, hnv, hlv5]
   repeat' (first | refine uN ?_ | refine Z7 S ?_ | refine Yt S ?_ | refine uC (ku) ?_ | refine Yd (fun _ => ku) ?_ | refine Yf (fun _ => ku) ?_ | refine Ye (fun _ => ku) ?_ | refine Yh (fun _ => ku) ?_ | (refine uB ?_; intro b) | refine dg S 100 (fun _ _ => ?_) | (refine uP ?_ ?_ <;> (intro h; ((try simp only [zs, ne_eq, and_true, true_and, eq_self, reduceCtorEq] at h); try exact zx))) | refine da 101 ?_ | fail)
   refine Zk2 4 (by exact rfl) (fun _ => qe S) ?_
   refine Zk2 4 (by exact rfl) (fun _ => qe S) ?_
   refine da 101 ?_
   refine gc (kb _ (by repeat (first | exact hG | exact hG.sub | apply Errs.cons)) ?_) ?_
   ·repeat (first | exact hwr _ | apply Rd.cons)
   rintro v L' ⟨lp, wv', wc', rfl, hLd, rfl⟩
   have gP := Zqj (sv := pt g.sp 0) (bp := g.bp) (lv := Xi g ⟨pl, some (j, ref), leads, done⟩) (dn := done) (d := dn) (pt lp 0) (by omega)
   have gL2 := Zc3 (sv := pt g.sp 0) (bp := g.bp) (lv := (Xi g ⟨pl, some (j, ref), leads, done⟩).set dn (pt lp 0)) (dn := done) (d := dn) (v := pt lp 0) (by simp [hlv, hd6])
   have kst := fun L => Zhp lp wv' wc' (Zh s dn M.w 0 2) L hLd
   repeat' (first | refine uN ?_ | refine Z7 S ?_ | refine Yt S ?_ | refine uC (ku) ?_ | refine Yd (fun _ => ku) ?_ | refine Yf (fun _ => ku) ?_ | refine Ye (fun _ => ku) ?_ | refine Yh (fun _ => ku) ?_ | (refine uB ?_; intro b) | refine dg S 100 (fun _ _ => ?_) | (refine uP ?_ ?_ <;> (intro h; ((try simp only [zs, ne_eq, and_true, true_and, eq_self, reduceCtorEq] at h); try exact zx))) | refine da 101 ?_ | fail)
   refine gc (kst _) ?_
   rintro v L' ⟨c2, hv2, rfl⟩
   obtain ⟨a7, cap7, rfl, -, hR7⟩ := hv2.rd Zi
   repeat' (first | refine uN ?_ | refine Z7 S ?_ | refine Yt S ?_ | refine uC (ku) ?_ | refine Yd (fun _ => ku) ?_ | refine Yf (fun _ => ku) ?_ | refine Ye (fun _ => ku) ?_ | refine Yh (fun _ => ku) ?_ | (refine uB ?_; intro b) | refine dg S 100 (fun _ _ => ?_) | (refine uP ?_ ?_ <;> (intro h; ((try simp only [zs, ne_eq, and_true, true_and, eq_self, reduceCtorEq] at h); try exact zx))) | refine da 101 ?_ | fail)
   refine fo 10 ?_
   refine Ztl S hvl (Rd.cons (hR7 _) _) Zi Wb ?_ (hby := by omega) (hmax := by omega)
   intro v'' c'' hv''
   obtain ⟨a8, cap8, rfl, -, -⟩ := hv''.rd Zi
   repeat' (first | refine uN ?_ | refine Z7 S ?_ | refine Yt S ?_ | refine uC (ku) ?_ | refine Yd (fun _ => ku) ?_ | refine Yf (fun _ => ku) ?_ | refine Ye (fun _ => ku) ?_ | refine Yh (fun _ => ku) ?_ | (refine uB ?_; intro b) | refine dg S 100 (fun _ _ => ?_) | (refine uP ?_ ?_ <;> (intro h; ((try simp only [zs, ne_eq, and_true, true_and, eq_self, reduceCtorEq] at h); try exact zx))) | refine da 101 ?_ | fail)
   obtain ⟨L2, hw2, hls2⟩ := hsh { G with lv := .slice a8 (M.l ++ Xd (Zh s dn M.w 0 2)).length cap8, lc := c'' } { M with l := M.l ++ Xd (Zh s dn M.w 0 2) } { g with ld := g.ld.set dn (lp, wv', wc') } ⟨pl, some (j, ref), leads.set dn (some (Zh s dn M.w 0 2)), done⟩
    (hW.setL hv'') rfl rfl rfl (hok.lead (q := (lp, wv', wc')) hLd) rfl
   refine Yi (LS.trans hls2 ?_) ⟨rfl, hw2⟩
   have eB2 := eB (some (Zh s dn M.w 0 2)) (lp, wv', wc') ⟨pl, some (j, ref), leads.set dn (some (Zh s dn M.w 0 2)), done⟩ { g with ld := g.ld.set dn (lp, wv', wc') } rfl rfl
   have eV2 := Ze3 (g := g) (g' := { g with ld := g.ld.set dn (lp, wv', wc') }) (m := ⟨pl, some (j, ref), leads, done⟩) (m' := ⟨pl, some (j, ref), leads.set dn (some (Zh s dn M.w 0 2)), done⟩) (o' := some (Zh s dn M.w 0 2)) (q' := (lp, wv', wc')) rfl rfl
   simp only [X7, Zcg, Zbn, Zhd, Zl4, Zme, Zmj, Zaj, eV2]
   rw [eB2, eA, hwv, hnv]
   simp only [ldB, Ql, Zed]
   refine LS.trans ls7 (LS.cutAt 10 ?_)
   exact uL
end Go.HL
end

/-! WoU -/
section
namespace Go.HL
open Go Go.Proofs
set_option linter.unusedVariables false
set_option linter.unusedSimpArgs false
theorem Zoy {k s a j : Int} (hk : 0 < k) (hs0 : 0 ≤ s) (hs1 : s < k) (hj0 : 0 ≤ j) (hj : j ≤ (s - a) % k) : ((a + j) % k = s ↔ j = (s - a) % k) := by
 have hr0 := Int.emod_nonneg (s - a) (by omega : k ≠ 0)
 have hr1 := Int.emod_lt_of_pos (s - a) hk
 have e1 := Int.emod_add_mul_ediv (s - a) k
 have e2 := Int.emod_add_mul_ediv (a + j) k
 have h0 := Int.emod_nonneg (a + j) (by omega : k ≠ 0)
 have h1 := Int.emod_lt_of_pos (a + j) hk
 generalize (s - a) % k = r at *
 generalize (a + j) % k = t at *
 generalize (s - a) / k = u at *
 generalize (a + j) / k = v at *
 -- s - a = r + k u, a + j = t + k v
 have e3 : s - t = (r - j) + k * (u + v) := by rw [Int.mul_add]; omega
 constructor
 ·intro h
  subst h
  have : (r - j) = - (k * (u + v)) := by omega
  have hz : u + v = 0 := by
   rcases Int.lt_trichotomy (u + v) 0 with h | h | h
   ·have : k * (u + v) ≤ k * (-1) := Int.mul_le_mul_of_nonneg_left (by omega) (by omega)
    omega
   ·exact h
   ·have : k * 1 ≤ k * (u + v) := Int.mul_le_mul_of_nonneg_left (by omega) (by omega)
    omega
  rw [hz] at this
  omega
 ·intro h
  subst h
  have hz : u + v = 0 := by
   rcases Int.lt_trichotomy (u + v) 0 with h | h | h
   ·have : k * (u + v) ≤ k * (-1) := Int.mul_le_mul_of_nonneg_left (by omega) (by omega)
    omega
   ·exact h
   ·have : k * 1 ≤ k * (u + v) := Int.mul_le_mul_of_nonneg_left (by omega) (by omega)
    omega
  rw [hz] at e3
  omega
theorem Zg1 (x : Ld) (l : List Fr) (i : Nat) (h : i < l.length) : Z2 x (l.take (i + 1)) = ((Zs (Z2 x (l.take i)).1 l[i]).1, (Z2 x (l.take i)).2 ++ (Zs (Z2 x (l.take i)).1 l[i]).2) := by
 unfold Z2
 rw [List.take_add_one, List.getElem?_eq_getElem h, Option.toList_some, List.foldl_append]
 rfl
set_option maxHeartbeats 2000000 attribute [local irreducible] HW HO HQ HD HC QOp Has Upd Zt Gets Yb Z6 Zr Xr Z4 Zm Xx Zy
attribute [local irreducible] W6 Yr Xl Zp Xw Zo
theorem Zsp (T : Nat) (E : Nat → Addr) (G : WdG) (M : Wm) (s d p : Int) (L : Zb) (hG : Er T E [2, 3, 4, 5, 6] L) (hW : WdOk G M) (hM : WI M) (hl : M.l.length ≤ 99999900) (h0 : 0 ≤ s) (h1 : s < M.n.length) (hs : (Zd M s).site ≠ none) (hd : 0 ≤ d ∧ d < 6) (hp : 0 ≤ p ∧ p ≤ 1048576) :
  HC Tryz.prog 144 [pt G.wp 0, iv s, iv d, iv p] (Y6 G M ++ L) (fun v L' => v = .bool (Zar M s d p).2 ∧ Zey G (Zar M s d p).1 L L') := by
 have hself := W1 hW L
 have hI := Zac hW L
 have hwn := hM.wn
 have hwl := hM.wl
 have hw1 := hM.w1
 have hG' := Wo hG G M
 have hw := hI.wp
 obtain ⟨⟨nb, ni, nl, nF, nfr, ncap, hnv, hnb, hng⟩, -, -⟩ := Zez hW h0 h1 (H := Y6 G M ++ L) (fun b o hb => by
  simp only [Has, Y6, Zex, List.flatten_cons, List.cons_append, List.nil_append]
  simp [hb])
 obtain ⟨aw, capw, hwv, -, hwr⟩ := hW.w.rd Xu
 unfold Zaj at hw
 rw [hnv, hwv] at hw
 have hok := V0 hW h0 h1
 have hni := Ws hM h0 h1
 obtain ⟨dn, rfl⟩ := Int.eq_ofNat_of_zero_le hd.1
 have hd6 : dn < 6 := by omega
 have hm1 : (Zd M s).leads[dn]? = some ((Zd M s).leads.getD dn none) := getD_some (by rw [hni.leads]; exact hd6)
 obtain ⟨q, hq⟩ : ∃ q, (Zj G s).ld[dn]? = some q := ⟨_, List.getElem?_eq_getElem (by rw [hok.ld]; exact hd6)⟩
 have hv := Zdd hm1 hq
 have gL := Zc3 (sv := Zhd (Zj G s) (Zd M s).site) (bp := (Zj G s).bp) (dn := (Zd M s).done) hv
 have hN := Zb7 hW.ndl h0 h1 L
 have hB : ∀ {b : Nat} {o : Obj}, (b, o) ∈ Zjo (Zj G s) s (Zd M s) → Has (Y6 G M ++ L) b o := fun {b o} hb => by
  have := Zgr hW.ndl h0 h1 hb L
  unfold Has Y6 at *
  rw [List.append_assoc, List.flatten_append]
  exact List.mem_append_right _ this
 have kse : ∀ x, (Zd M s).leads[dn]? = some (some x) → HC Tryz.prog 191 [pt q.1 0] (Y6 G M ++ L) (fun v L' => v = iv x.seen ∧ L' = (Y6 G M ++ L)) := fun x hx => lseenH q.1 q.2.1 x _ (hni.ldi dn x hx).told (hB (by
  unfold Zjo
  exact List.mem_append_right _ (Zpm hx hq (by simp [Ql]))))
 have hab : 0 ≤ Yv (Zd M s) dn p ∧ Yv (Zd M s) dn p ≤ 1048576 := by
  unfold Yv
  split
  ·exact hp
  ·rename_i x hx
   have := hni.ldi dn x (by rw [hm1]; simp only [Int.toNat_natCast] at hx; rw [hx])
   have h1 := this.seen0
   have h2 := this.seen1
   omega
 have hr0 := Int.emod_nonneg (s - (Yv (Zd M s) dn p + 1)) (by omega : (M.w.length : Int) ≠ 0)
 have hr1 := Int.emod_lt_of_pos (s - (Yv (Zd M s) dn p + 1)) (by omega : (0 : Int) < M.w.length)
 unfold Zbn at hN
 generalize hH : Y6 G M ++ L = H at *
 unfold Zar Zas
 have habv : Yv (Zd M s) dn p = match (Zd M s).leads.getD dn none with
  | none => p
  | some x => max p x.seen := rfl
 generalize hab2 : Yv (Zd M s) dn p = ab at *
 refine Za (fun _ _ => Tryz.call144 _ _) Tryz.func144 rfl Tryz.ntmps144 (Nat.le_of_ble_eq_true rfl) ?_; simp only [Zc, Nat.reduceAdd]
 apply Zq7 (ι := Int) (fun a => a = ab) (fun a => [(0, pt G.wp 0), (1, iv s), (2, iv dn), (9, pt (Zj G s).np 0), (12, iv M.w.length), (13, iv (a + 1))]) (fun _ => H)
 ·intro key
  cases hx : (Zd M s).leads.getD dn none with
  | none =>
   rw [hx] at gL habv
   simp only [Zed] at gL habv
   repeat' (first | refine uN ?_ | refine Z7 S ?_ | refine Yt S ?_ | refine uC (kse _ hx) ?_ | refine Yd (fun _ => kse _ hx) ?_ | refine Yf (fun _ => kse _ hx) ?_ | refine Ye (fun _ => kse _ hx) ?_ | refine Yh (fun _ => kse _ hx) ?_ | (refine uB ?_; intro b) | (refine uP ?_ ?_ <;> (intro h; ((try simp only [zs, ne_eq, and_true, true_and, eq_self, reduceCtorEq] at h); try exact zx))) | refine da 101 ?_ | fail)
   exact Wi (Zgh (key _ habv.symm) uS) (LS.refl _)
  | some x =>
   rw [hx] at gL habv hm1
   simp only [Zed] at gL habv
   have kse2 := kse x hm1
   repeat' (first | refine uN ?_ | refine Z7 S ?_ | refine Yt S ?_ | refine uC (kse2) ?_ | refine Yd (fun _ => kse2) ?_ | refine Yf (fun _ => kse2) ?_ | refine Ye (fun _ => kse2) ?_ | refine Yh (fun _ => kse2) ?_ | (refine uB ?_; intro b) | (refine uP ?_ ?_ <;> (intro h; ((try simp only [zs, ne_eq, and_true, true_and, eq_self, reduceCtorEq] at h); try exact zx))) | refine da 101 ?_ | fail)
   exact Wi (Zgh (key _ habv.symm) uS) (LS.refl _)
 rintro ab' rfl
 refine Zn (σ := Int) (fun x => [(0, pt G.wp 0), (1, iv s), (2, iv dn), (9, pt (Zj G s).np 0), (12, iv M.w.length), (13, iv x)]) (fun _ => H) (fun x => ∃ j : Nat, x = ab' + 1 + j ∧ (j : Int) ≤ (s - (ab' + 1)) % M.w.length) (fun x => (ab' + 1 + (s - (ab' + 1)) % M.w.length - x).toNat) (ab' + 1) uS (List.Sublist.refl _) ⟨0, by simp, hr0⟩ ?_
 rintro x ⟨j, rfl, hj⟩
 have hst := Zoy (k := M.w.length) (s := s) (a := ab' + 1) (j := j) (by omega) h0 (by omega) (by omega) hj
 by_cases hlt : (j : Int) = (s - (ab' + 1)) % M.w.length
 ·rw [← hlt]
  have hst2 := hst.2 hlt
  have kH := fun x => Zft T E G M s (W5 s dn x) L hG.sub hW hM h0 h1 hs
  have hRI := fun x => hM.hear (f := W5 s dn x) h0 h1 (by show s < _; omega)
  have hRl := fun x => Zdr M s (W5 s dn x)
  have hRw : ∀ x, (Yo M s (W5 s dn x)).1.w = M.w := fun x => rfl
  have hRL : ∀ x, (Yo M s (W5 s dn x)).1.l = M.l := fun x => rfl
  have hRn : ∀ x, (Yo M s (W5 s dn x)).1.n.length = M.n.length := fun x => by
   exact (hRI x).1.wn.trans ((congrArg List.length (hRw x)).trans hwn.symm)
  subst hH
  clear hst kse hB hnb
  have ha1 : 1 ≤ ab' + 1 + j := by omega
  have ha2 : ab' + 1 + j ≤ 1048590 := by omega
  have ha3 : 0 ≤ ab' + 1 + (j : Int) := by omega
  clear hj
  generalize ab' + 1 + (j : Int) = a at *
  specialize kH a
  specialize hRI a
  specialize hRl a
  specialize hRw a
  specialize hRL a
  specialize hRn a
  generalize Yo M s (W5 s dn a) = R at *
  obtain ⟨M2, told, ok⟩ := R
  simp only at kH hRI hRl hRw hRL hRn ⊢
  obtain ⟨hM2, hfo⟩ := hRI
  repeat' (first | refine uN ?_ | refine Z7 S ?_ | refine Yt S ?_ | refine uC (hab) ?_ | refine Yd (fun _ => hab) ?_ | refine Yf (fun _ => hab) ?_ | refine Ye (fun _ => hab) ?_ | refine Yh (fun _ => hab) ?_ | (refine uB ?_; intro b) | (refine uP ?_ ?_ <;> (intro h; ((try simp only [zs, ne_eq, and_true, true_and, eq_self, reduceCtorEq] at h); try exact zx))) | refine da 101 ?_ | fail)
  ·rw [if_pos h]
   exact Yi (LS.refl _) ⟨rfl, hself⟩
  all_goals rw [if_neg h]
  all_goals refine gc kH ?_
  all_goals rintro v L' ⟨c, ⟨fv, hfv, rfl⟩, G2, e1, e2, hW2, rfl⟩
  all_goals obtain ⟨af, capf, rfl, -, hRf⟩ := hfv.rd Zi
  all_goals cases ok with
  | false =>
   simp only [if_true]
   repeat' (first | refine uN ?_ | refine Z7 S ?_ | refine Yt S ?_ | refine uC (hab) ?_ | refine Yd (fun _ => hab) ?_ | refine Yf (fun _ => hab) ?_ | refine Ye (fun _ => hab) ?_ | refine Yh (fun _ => hab) ?_ | (refine uB ?_; intro b) | (refine uP ?_ ?_ <;> (intro h; ((try simp only [zs, ne_eq, and_true, true_and, eq_self, reduceCtorEq] at h); try exact zx))) | refine da 101 ?_ | fail)
   refine Yi (L' := Y6 G2 M2 ++ L) ?_ ⟨rfl, G2, e1, e2, hW2, rfl⟩
   simp only [List.flatten_append, List.flatten_cons]
   exact LS.boths _ (LS.skips _ (LS.refl _))
  | true =>
   simp only [Bool.true_eq_false, if_false]
   have h1' : s < M2.n.length := by rw [hRn]; exact h1
   have hl2 := hW2.ndl
   have hnp2 := Zub e2 h0 (by rw [hW.ndl]; exact h1)
   have hok2 := V0 hW2 h0 h1'
   have hni2 := Ws hM2 h0 h1'
   have hw22 := hW2.w
   rw [hRw] at hw22
   obtain ⟨aw2, capw2, hwv2, -, hwr2⟩ := hw22.rd Xu
   obtain ⟨al2, capl2, hlv2, -, -⟩ := hW2.l.rd Zi
   have hvl := hW2.l
   rw [hlv2] at hvl
   have hm2 : (Zd M2 s).leads[dn]? = some ((Zd M2 s).leads.getD dn none) := getD_some (by rw [hni2.leads]; exact hd6)
   obtain ⟨q2, hq2⟩ : ∃ q2, (Zj G2 s).ld[dn]? = some q2 := ⟨_, List.getElem?_eq_getElem (by rw [hok2.ld]; exact hd6)⟩
   have hv2 := Zdd hm2 hq2
   obtain ⟨A, B, eA, eB⟩ := Zjs hm2 hq2
   have htE : tryE s dn M.w a = none := by
    unfold tryE
    rw [Zkm hM h0 h1 hd (by omega)]
    simp only
    rw [if_neg (by omega)]
   have kt := fun L hG hR => Zu9 T E s dn aw2 capw2 M.w a L hG hR (by omega)
   rw [htE] at kt
   have hNI : LdI M.w s.toNat dn (Zh s dn M.w a 4) := by
    have := Zij (w := M.w) (s := s.toNat) (d := dn) (a := a) (k := 4) (by omega) (by omega)
    rw [show ((s.toNat : Nat) : Int) = s by omega] at this
    exact this
   have hsl := Zbs (Zh s dn M.w a 4)
   have hslw : (Zh s dn M.w a 4).w = M.w := rfl
   rw [hslw] at hsl
   have hsh := fun G' M1 g' m' a b c d e f => Zpq (G := G2) (G' := G') (M := M2) (M1 := M1) (s := s) (g' := g') (m' := m') L hl2 h0 h1' a b c d e f
   have hlvs : (Xi (Zj G2 s) (Zd M2 s)).length = 6 := by simp [Xi, hni2.leads, hok2.ld]
   refine Uk (L' := X7 G2 s (Zj G2 s) (Zd M2 s) (Vb G2.nd M2.n 0 s.toNat) (c :: L)) ?_ (Zh6 hl2 h0 h1' _)
   simp only [← hnp2]
   have hGP : ∀ L L', Zey G2 { Yp M2 s { Zd M2 s with leads := (Zd M2 s).leads.set dn (some (Z2 (Zh s dn M.w a 4) told).1) } with l := M2.l ++ Xd (Zh s dn M.w a 4) ++ (Z2 (Zh s dn M.w a 4) told).2 } L L' →
     Zey G { Yp M2 s { Zd M2 s with leads := (Zd M2 s).leads.set dn (some (Z2 (Zh s dn M.w a 4) told).1) } with l := M2.l ++ Xd (Zh s dn M.w a 4) ++ (Z2 (Zh s dn M.w a 4) told).2 } L L' := fun L L' h => by
    obtain ⟨G3, f1, f2, f3, f4⟩ := h
    exact ⟨G3, f1.trans e1, f2.trans e2, f3, f4⟩
   generalize Vb G2.nd M2.n 0 s.toNat = X at *
   generalize hmm : Zd M2 s = m at *
   generalize hgg : Zj G2 s = g at *
   simp only [X7, Zcg, Zbn, Zaj, e1]
   rw [hwv2, hlv2]
   repeat' (first | refine uN ?_ | refine Z7 S ?_ | refine Yt S ?_ | refine uC (hab) ?_ | refine Yd (fun _ => hab) ?_ | refine Yf (fun _ => hab) ?_ | refine Ye (fun _ => hab) ?_ | refine Yh (fun _ => hab) ?_ | (refine uB ?_; intro b) | (refine uP ?_ ?_ <;> (intro h; ((try simp only [zs, ne_eq, and_true, true_and, eq_self, reduceCtorEq] at h); try exact zx))) | refine da 101 ?_ | fail)
   refine gc (kt _ (by repeat (first | exact hG | exact hG.sub | apply Errs.cons)) ?_) ?_
   ·repeat (first | exact hwr2 _ | apply Rd.cons)
   rintro v L' ⟨lp, wv', wc', rfl, hLd, rfl⟩
   have gP := Zqj (sv := Zhd g m.site) (bp := g.bp) (lv := Xi g m) (dn := m.done) (d := dn) (pt lp 0) (by omega)
   have kst := fun L => Zhp lp wv' wc' (Zh s dn M.w a 4) L hLd
   repeat' (first | refine uN ?_ | refine Z7 S ?_ | refine Yt S ?_ | refine uC (hab) ?_ | refine Yd (fun _ => hab) ?_ | refine Yf (fun _ => hab) ?_ | refine Ye (fun _ => hab) ?_ | refine Yh (fun _ => hab) ?_ | (refine uB ?_; intro b) | (refine uP ?_ ?_ <;> (intro h; ((try simp only [zs, ne_eq, and_true, true_and, eq_self, reduceCtorEq] at h); try exact zx))) | refine da 101 ?_ | fail)
   refine gc (kst _) ?_
   rintro v L' ⟨c2, hv2, rfl⟩
   obtain ⟨a7, cap7, rfl, -, hR7⟩ := hv2.rd Zi
   repeat' (first | refine uN ?_ | refine Z7 S ?_ | refine Yt S ?_ | refine uC (hab) ?_ | refine Yd (fun _ => hab) ?_ | refine Yf (fun _ => hab) ?_ | refine Ye (fun _ => hab) ?_ | refine Yh (fun _ => hab) ?_ | (refine uB ?_; intro b) | (refine uP ?_ ?_ <;> (intro h; ((try simp only [zs, ne_eq, and_true, true_and, eq_self, reduceCtorEq] at h); try exact zx))) | refine da 101 ?_ | fail)
   refine fo 10 ?_
   refine Ztl S hvl (Rd.cons (hR7 _) _) Zi Wb ?_ (hby := by rw [hRL]; omega) (hmax := by rw [hRL]; omega)
   intro v'' c'' hv''
   obtain ⟨a8, cap8, rfl, -, -⟩ := hv''.rd Zi
   repeat' (first | refine uN ?_ | refine Z7 S ?_ | refine Yt S ?_ | refine uC (hab) ?_ | refine Yd (fun _ => hab) ?_ | refine Yf (fun _ => hab) ?_ | refine Ye (fun _ => hab) ?_ | refine Yh (fun _ => hab) ?_ | (refine uB ?_; intro b) | (refine uP ?_ ?_ <;> (intro h; ((try simp only [zs, ne_eq, and_true, true_and, eq_self, reduceCtorEq] at h); try exact zx))) | refine da 101 ?_ | fail)
   have hho := fun i => Zdf (w := M.w) (s := s.toNat) (d := dn) (by omega) hwl hd6 (told.take i) (Zh s dn M.w a 4) [] hNI (fun f hf => hfo f (List.mem_of_mem_take hf)) (fun f hf => by cases hf)
   change ∀ i, LdI M.w s.toNat dn (Z2 (Zh s dn M.w a 4) (told.take i)).1 ∧ ∀ f ∈ (Z2 (Zh s dn M.w a 4) (told.take i)).2, Zif M.w.length f at hho
   refine Zn (σ := Nat × Value × List Zq) (fun r => [(0, pt G.wp 0), (16, pt lp 0), (96, .slice af told.length capf), (97, iv told.length), (98, iv r.1)])
    (fun r => r.2.2 :: Ql lp wv' wc' (Z2 (Zh s dn M.w a 4) (told.take r.1)).1 :: [(G.wp, .cells ⟨[.slice aw2 M.w.length capw2, G2.nv, .map (some G2.mb), r.2.1, G2.ev]⟩ 110)] :: G2.ec :: [(g.np, .cells ⟨W6 (Zhd g m.site) g.bp ((Xi g m).set dn (pt lp 0)) m.done⟩ 122)] :: Zl4 g s m.site :: Zme g m.site :: Xl g.bp g.ba m.pl :: Zmj g m.site :: Zb3 g m :: G2.wc :: G2.nc :: [(G2.mb, .map ⟨G2.es⟩ G2.ck)] :: X :: c :: L)
    (fun r => r.1 ≤ told.length ∧ (Z2 (Zh s dn M.w a 4) (told.take r.1)).2.length ≤ 7 * r.1 ∧ Zx r.2.1 (M2.l ++ Xd (Zh s dn M.w a 4) ++ (Z2 (Zh s dn M.w a 4) (told.take r.1)).2) r.2.2) (fun r => told.length - r.1) (0, .slice a8 (M2.l ++ Xd (Zh s dn M.w a 4)).length cap8, c'') uS (by refine List.Sublist.cons_cons _ (List.Sublist.cons _ (List.Sublist.refl _))) ⟨by simp, by simp [Z2], by simpa [Z2] using hv''⟩ ?_
   rintro ⟨i, lv3, lc3⟩ ⟨hi, hlen, hv3⟩
   simp only at hi hlen hv3 ⊢
   obtain ⟨hI3, hF3⟩ := hho i
   have hlast : i = told.length → Z2 (Zh s dn M.w a 4) (told.take i) = Z2 (Zh s dn M.w a 4) told := fun e => by rw [e, List.take_length]
   have hsucc := fun h => Zg1 (Zh s dn M.w a 4) told i h
   have hLO3 : LdOk wv' wc' (Z2 (Zh s dn M.w a 4) (told.take i)).1 := hLd.of hI3.ww (by rw [hI3.told]; rfl)
   have hhd3 : (Z2 (Zh s dn M.w a 4) (told.take i)).1.heard < 2 ^ (Z2 (Zh s dn M.w a 4) (told.take i)).1.w.length := by rw [hI3.ww]; exact hI3.heard
   obtain ⟨al3, capl3, hlv3, -, -⟩ := hv3.rd Zi
   subst hlv3
   by_cases hit : i < told.length
   ·specialize hsucc hit
    have hq := hho (i + 1)
    have hl3 := Zaf (Z2 (Zh s dn M.w a 4) (told.take i)).1 told[i]
    rw [hI3.ww] at hl3
    rw [hsucc] at hq
    have kh := fun L hG => Zj1 T E lp wv' wc' (Z2 (Zh s dn M.w a 4) (told.take i)).1 told[i] L hG hLO3 hhd3
    obtain ⟨b5, i5, l5, F5, fr5, e6, hb5, hg5⟩ := (hRf L).at (j := (i : Int)) (by omega) (by omega)
    subst e6
    have hgi : told[(i : Int).toNat]'(by omega) = told[i] := rfl
    rw [hgi] at hg5
    clear hlast hI3 hF3 hho
    generalize Z2 (Zh s dn M.w a 4) (told.take i) = Q at *
    obtain ⟨x3, fs3⟩ := Q
    simp only at hlen hv3 hLO3 hhd3 hl3 kh hsucc ⊢
    generalize told[i] = f at *
    obtain ⟨ffr, fto, fdl, fkd, fatt, fys, fs⟩ := f
    repeat' (first | refine uN ?_ | refine Z7 S ?_ | refine Yt S ?_ | refine uC (hab) ?_ | refine Yd (fun _ => hab) ?_ | refine Yf (fun _ => hab) ?_ | refine Ye (fun _ => hab) ?_ | refine Yh (fun _ => hab) ?_ | (refine uB ?_; intro b) | (refine uP ?_ ?_ <;> (intro h; ((try simp only [zs, ne_eq, and_true, true_and, eq_self, reduceCtorEq] at h); try exact zx))) | refine da 101 ?_ | fail)
    refine fo 2 ?_
    refine gc (kh _ (by repeat (first | exact hG | exact hG.sub | apply Errs.cons))) ?_
    rintro v L' ⟨c4, hv4, rfl⟩
    obtain ⟨a9, cap9, rfl, -, hR9⟩ := hv4.rd Zi
    repeat' (first | refine uN ?_ | refine Z7 S ?_ | refine Yt S ?_ | refine uC (hab) ?_ | refine Yd (fun _ => hab) ?_ | refine Yf (fun _ => hab) ?_ | refine Ye (fun _ => hab) ?_ | refine Yh (fun _ => hab) ?_ | (refine uB ?_; intro b) | (refine uP ?_ ?_ <;> (intro h; ((try simp only [zs, ne_eq, and_true, true_and, eq_self, reduceCtorEq] at h); try exact zx))) | refine da 101 ?_ | fail)
    refine fo 3 ?_
    refine Ztl S hv3 (Rd.cons (hR9 _) _) Zi Wb ?_ (hby := by simp only [List.length_append, hRL]; omega) (hmax := by simp only [List.length_append, hRL]; omega)
    intro v5 c5 hv5
    obtain ⟨a10, cap10, rfl, -, -⟩ := hv5.rd Zi
    repeat' (first | refine uN ?_ | refine Z7 S ?_ | refine Yt S ?_ | refine uC (hab) ?_ | refine Yd (fun _ => hab) ?_ | refine Yf (fun _ => hab) ?_ | refine Ye (fun _ => hab) ?_ | refine Yh (fun _ => hab) ?_ | (refine uB ?_; intro b) | (refine uP ?_ ?_ <;> (intro h; ((try simp only [zs, ne_eq, and_true, true_and, eq_self, reduceCtorEq] at h); try exact zx))) | refine da 101 ?_ | fail)
    refine Zg (i + 1, .slice a10 (M2.l ++ Xd (Zh s dn M.w a 4) ++ fs3 ++ (Zs x3 ⟨ffr, fto, fdl, fkd, fatt, fys, fs⟩).2).length cap10, c5) uS ?_ ⟨by simp only; omega, ?_, ?_⟩ (by simp only; omega)
    ·simp only [hsucc, Ql]
     exact uL
    ·simp only [hsucc, List.length_append]
     omega
    ·simp only [hsucc]
     rw [← List.append_assoc]
     exact hv5
   ·obtain rfl : i = told.length := by omega
    rw [hlast rfl] at hv3 hI3 ⊢
    have hLO4 := hlast rfl ▸ hLO3
    repeat' (first | refine uN ?_ | refine Z7 S ?_ | refine Yt S ?_ | refine uC (hab) ?_ | refine Yd (fun _ => hab) ?_ | refine Yf (fun _ => hab) ?_ | refine Ye (fun _ => hab) ?_ | refine Yh (fun _ => hab) ?_ | (refine uB ?_; intro b) | (refine uP ?_ ?_ <;> (intro h; ((try simp only [zs, ne_eq, and_true, true_and, eq_self, reduceCtorEq] at h); try exact zx))) | refine da 101 ?_ | fail)
    obtain ⟨L2, hw2, hls2⟩ := hsh { G2 with lv := .slice al3 (M2.l ++ Xd (Zh s dn M.w a 4) ++ (Z2 (Zh s dn M.w a 4) told).2).length capl3, lc := lc3 } { M2 with l := M2.l ++ Xd (Zh s dn M.w a 4) ++ (Z2 (Zh s dn M.w a 4) told).2 } { g with ld := g.ld.set dn (lp, wv', wc') } { m with leads := m.leads.set dn (some (Z2 (Zh s dn M.w a 4) told).1) }
     (hW2.setL hv3) rfl rfl rfl (hok2.lead (q := (lp, wv', wc')) hLO4) rfl
    refine Yi (LS.trans hls2 ?_) ⟨rfl, hGP _ _ hw2⟩
    have eB2 := eB (some (Z2 (Zh s dn M.w a 4) told).1) (lp, wv', wc') { m with leads := m.leads.set dn (some (Z2 (Zh s dn M.w a 4) told).1) } { g with ld := g.ld.set dn (lp, wv', wc') } rfl rfl
    have eV2 := Ze3 (g := g) (g' := { g with ld := g.ld.set dn (lp, wv', wc') }) (m := m) (m' := { m with leads := m.leads.set dn (some (Z2 (Zh s dn M.w a 4) told).1) }) (o' := some (Z2 (Zh s dn M.w a 4) told).1) (q' := (lp, wv', wc')) rfl rfl
    simp only [X7, Zcg, Zbn, Zaj, eV2]
    rw [eB2, eA, hwv2, e1]
    simp only [ldB, Ql, Zed]
    refine LS.trans ls7 (LS.cutAt 9 ?_)
    exact uL
 ·have hst2 : ¬ (ab' + 1 + j) % M.w.length = s := fun h => hlt (hst.1 h)
  repeat' (first | refine uN ?_ | refine Z7 S ?_ | refine Yt S ?_ | refine uC (hab) ?_ | refine Yd (fun _ => hab) ?_ | refine Yf (fun _ => hab) ?_ | refine Ye (fun _ => hab) ?_ | refine Yh (fun _ => hab) ?_ | (refine uB ?_; intro b) | (refine uP ?_ ?_ <;> (intro h; ((try simp only [zs, ne_eq, and_true, true_and, eq_self, reduceCtorEq] at h); try exact zx))) | refine da 101 ?_ | fail)
  refine Zg (ab' + 1 + (j : Int) + 1) uS (LS.refl _) ⟨j + 1, by push_cast; omega, by push_cast; omega⟩ (by omega)
end Go.HL
end

/-! WoV -/
section
namespace Go.HL
open Go Go.Proofs
set_option linter.unusedVariables false
set_option linter.unusedSimpArgs false
def X9 (s : Int) (M : Wm) (k : Nat) : Wm × Bool := (List.range k).foldl (tickD s) (M, true)
theorem Zer (s : Int) (M : Wm) (k : Nat) : X9 s M (k + 1) = tickD s (X9 s M k) k := by
 unfold X9
 rw [List.range_succ, List.foldl_append]
 rfl
theorem Zeh {s : Int} {M : Wm} {k : Nat} (h : (X9 s M k).2 = false) : ∀ j, X9 s M (k + j) = X9 s M k
 | 0 => rfl
 | j + 1 => by
  rw [← Nat.add_assoc, Zer, Zeh h j]
  unfold tickD
  rw [if_pos h]
theorem Zmv (M : Wm) (s d : Int) (st : St) (i : Nat) : ((List.range (i + 1)).map fun (i : Nat) => (⟨s, (i : Int), d, 7, st.pr, false, ⟨st.ph, 0, 0⟩⟩ : Fr)) = ((List.range i).map fun (i : Nat) => (⟨s, (i : Int), d, 7, st.pr, false, ⟨st.ph, 0, 0⟩⟩ : Fr)) ++ [⟨s, (i : Int), d, 7, st.pr, false, ⟨st.ph, 0, 0⟩⟩] := by
 rw [List.range_succ, List.map_append]
 rfl
theorem ls_out {A L : Zb} {c : List Zq} : LS (A ++ L).flatten (c :: (A ++ L)).flatten := by
 rw [List.flatten_cons]
 exact LS.skips c (LS.refl _)
theorem ls_in {A L : Zb} {c : List Zq} : LS (A ++ (c :: L)).flatten (c :: (A ++ L)).flatten := by
 simp only [List.flatten_cons, List.flatten_append]
 refine LS.of_perm ?_
 rw [← List.append_assoc, ← List.append_assoc]
 exact List.perm_append_comm.append_right _
set_option maxHeartbeats 2000000 attribute [local irreducible] HW HO HQ HD HC QOp Has Upd Zt Gets Yb Z6 Zr Xr Z4 Zm Xx Zy
attribute [local irreducible] W6 Yr Xl Zp Xw Zo Zar
theorem Zcr (T : Nat) (E : Nat → Addr) (G : WdG) (M : Wm) (s : Int) (L : Zb) (hG : Er T E [2, 3, 4, 5, 6] L) (hW : WdOk G M) (hM : WI M) (hl : M.l.length ≤ 99999000) :
  HC Tryz.prog 83 [pt G.wp 0, iv s] (Y6 G M ++ L) (fun v L' => v = eV T E (Wt M s).2 ∧ Zey G (Wt M s).1 L L') := by
 unfold Wt
 have hself := W1 hW L
 rcases Zax (M := M) (s := s) with ⟨e, he⟩ | ⟨he, hn, h0, h1, j, ref, hs⟩
 ·have ku := Zjd s hG.sub hW
  have hG' := Wo hG G M
  generalize Y6 G M ++ L = H at *
  simp only [he] at ku ⊢
  refine Za (fun _ _ => Tryz.call83 _ _) Tryz.func83 rfl Tryz.ntmps83 (Nat.le_of_ble_eq_true rfl) ?_; simp only [Zc, Nat.reduceAdd]
  repeat' (first | refine uN ?_ | refine Z7 S ?_ | refine Yt S ?_ | refine uC (ku) ?_ | refine Yd (fun _ => ku) ?_ | refine Yf (fun _ => ku) ?_ | refine Ye (fun _ => ku) ?_ | refine Yh (fun _ => ku) ?_ | (refine uB ?_; intro b) | (refine uP ?_ ?_ <;> (intro h; ((try simp only [zs, ne_eq, and_true, true_and, eq_self, reduceCtorEq] at h); try exact zx))) | refine da 101 ?_ | fail)
  exact Vx rfl ⟨rfl, hself⟩
 ·have ku := Zjd s hG.sub hW
  simp only [he, Zqy hn] at ku ⊢
  have hticks := fun k hk => Zaa hM h0 h1 (by rw [hs]; simp) k hk
  change ∀ k, k ≤ 6 → TickOk M (X9 s M k) s k at hticks
  change HC _ _ _ _ (fun v L' => v = eV T E none ∧ Zey G (X9 s M 6).1 L L')
  refine Za (fun _ _ => Tryz.call83 _ _) Tryz.func83 rfl Tryz.ntmps83 (Nat.le_of_ble_eq_true rfl) ?_; simp only [Zc, Nat.reduceAdd]
  repeat' (first | refine uN ?_ | refine Z7 S ?_ | refine Yt S ?_ | refine uC (ku) ?_ | refine Yd (fun _ => ku) ?_ | refine Yf (fun _ => ku) ?_ | refine Ye (fun _ => ku) ?_ | refine Yh (fun _ => ku) ?_ | (refine uB ?_; intro b) | (refine uP ?_ ?_ <;> (intro h; ((try simp only [zs, ne_eq, and_true, true_and, eq_self, reduceCtorEq] at h); try exact zx))) | refine da 101 ?_ | fail)
  refine Zn (σ := Nat × WdG) (fun r => [(0, pt G.wp 0), (1, iv s), (5, pt (Zj G s).np 0), (20, iv r.1)]) (fun r => Y6 r.2 (X9 s M r.1).1 ++ L)
   (fun r => r.1 ≤ 6 ∧ (X9 s M r.1).2 = true ∧ WdOk r.2 (X9 s M r.1).1 ∧ r.2.wp = G.wp ∧ r.2.nd.map (·.np) = G.nd.map (·.np)) (fun r => 6 - r.1) (0, G) uS (List.Sublist.refl _) ⟨by simp, rfl, hW, rfl, rfl⟩ ?_
  rintro ⟨d, G1⟩ ⟨hd, hon, hW1, e1, e2⟩
  simp only at hd hon hW1 e1 e2 ⊢
  obtain ⟨hM1, hsame, hlen, hsite⟩ := hticks d hd
  have hsite1 := hsite hon
  have hnx := Zer s M d
  by_cases hd6 : d < 6
  ·have hnx2 := hticks (d + 1) (by omega)
   have hstop := fun h => Zeh (s := s) (M := M) (k := d + 1) h (5 - d)
   rw [show d + 1 + (5 - d) = 6 by omega] at hstop
   generalize X9 s M d = q at *
   obtain ⟨M1, b⟩ := q
   simp only at hon hW1 hM1 hsame hlen hsite1 ⊢
   subst hon
   have h1' : s < M1.n.length := by rw [hsame.n]; exact h1
   have hnp2 := Zub e2 h0 (by rw [hW.ndl]; exact h1)
   have hok := V0 hW1 h0 h1'
   have hni := Ws hM1 h0 h1'
   obtain ⟨⟨j1, ref1⟩, hs1⟩ := Option.ne_none_iff_exists'.1 hsite1
   have hj := hni.jn hs1
   have hst := hj.st d hd6
   have hB : ∀ {b : Nat} {o : Obj}, (b, o) ∈ Zjo (Zj G1 s) s (Zd M1 s) → Has (Y6 G1 M1 ++ L) b o := fun {b o} hb => by
    have := Zgr hW1.ndl h0 h1' hb L
    unfold Has Y6 at *
    rw [List.append_assoc, List.flatten_append]
    exact List.mem_append_right _ this
   have hN : Has (Y6 G1 M1 ++ L) (Zj G1 s).np (Zbn (Zj G1 s) (Zd M1 s)) := Zb7 hW1.ndl h0 h1' L
   have hA1 : Has (Y6 G1 M1 ++ L) (Zj G1 s).sp (.cells ⟨[pt (Zj G1 s).bj 0, iv s, .map (some (Zj G1 s).mb)]⟩ 187) := hB (by simp [Zjo, hs1, siB, Zhy])
   have hA2 : Has (Y6 G1 M1 ++ L) (Zj G1 s).bj (.cells ⟨Yr (Zj G1 s).bp j1⟩ 261) := hB (by simp [Zjo, hs1, siB, jC])
   have kst := Zd0 (Zj G1 s).sp (Zj G1 s).bj (Zj G1 s).mb (Zj G1 s).bp s j1 d _ hA1 hA2 hj.ji.jn.len hd6
   have htd : X9 s M (d + 1) = if Yq j1 d = Ww then (M1, true) else if (Yq j1 d).ph = 2 ∨ (Yq j1 d).ph = 3 then ({ M1 with l := M1.l ++ Wz M1 s d (Yq j1 d) }, true) else Zar M1 s d (Yq j1 d).pr := by
    rw [hnx]
    unfold tickD
    simp only [hs1, Bool.true_eq_false, if_false]
   have g0 : (W6 (pt (Zj G1 s).sp 0) (Zj G1 s).bp (Xi (Zj G1 s) (Zd M1 s)) (Zd M1 s).done)[0 + 0]? = some (pt (Zj G1 s).sp 0) := X4 rfl
   unfold Zbn at hN
   rw [hs1] at hN
   simp only [Zhd, hnp2] at hN
   change HC _ _ _ _ (fun v L' => v = .tuple ⟨[.agg ⟨sc (Yq j1 d)⟩, .nilIface]⟩ ∧ _) at kst
   have hdl := Zcv M1 s d (Yq j1 d)
   have hdF : Wz M1 s d (Yq j1 d) = (List.range M1.w.length).map fun (i : Nat) => (⟨s, (i : Int), d, 7, (Yq j1 d).pr, false, ⟨(Yq j1 d).ph, 0, 0⟩⟩ : Fr) := rfl
   have hsuccF := fun i => Zmv M1 s d (Yq j1 d) i
   generalize Yq j1 d = st at *
   obtain ⟨ph, pr, att⟩ := st
   obtain ⟨q1, q2, q3, q4, q5⟩ := hst
   simp only at q1 q2 q3 q4 q5 hdF hsuccF
   have hwn := hM1.wn
   have hwl := hM1.wl
   by_cases hz : ph = 0 ∧ pr = 0 ∧ att = 0
   ·obtain ⟨rfl, rfl, rfl⟩ := hz
    rw [if_pos (show (⟨0, 0, 0⟩ : St) = Ww from rfl)] at htd
    clear hA1 hA2 hB
    generalize hH : Y6 G1 M1 ++ L = H at *
    repeat' (first | refine uN ?_ | refine Z7 S ?_ | refine Yt S ?_ | refine uC (kst) ?_ | refine Yd (fun _ => kst) ?_ | refine Yf (fun _ => kst) ?_ | refine Ye (fun _ => kst) ?_ | refine Yh (fun _ => kst) ?_ | (refine uB ?_; intro b) | (refine uP ?_ ?_ <;> (intro h; ((try simp only [zs, ne_eq, and_true, true_and, eq_self, reduceCtorEq] at h); try exact zx))) | refine da 101 ?_ | fail)
    all_goals subst hH
    all_goals refine Zg (d + 1, G1) uS ?_ ⟨by simp only; omega, by simp only [htd], by simp only [htd]; exact hW1, e1, e2⟩ (by simp only; omega)
    all_goals simp only [htd]
    all_goals exact ls_out
   have hz2 : ¬ ((⟨ph, pr, att⟩ : St) = Ww) := fun e => by cases e; exact hz ⟨rfl, rfl, rfl⟩
   rw [if_neg hz2] at htd
   by_cases hf : ph = 2 ∨ ph = 3
   ·rw [if_pos hf] at htd
    obtain ⟨aw2, capw2, hwv2, -, -⟩ := hW1.w.rd Xu
    obtain ⟨al2, capl2, hlv2, -, -⟩ := hW1.l.rd Zi
    have hvl := hW1.l
    rw [hlv2] at hvl
    have hwp := (Zac hW1 L).wp
    unfold Zaj at hwp
    rw [hwv2, hlv2] at hwp
    rw [e1] at hwp
    clear hA1 hA2 hB
    generalize hH : Y6 G1 M1 ++ L = H at *
    repeat' (first | refine uN ?_ | refine Z7 S ?_ | refine Yt S ?_ | refine uC (kst) ?_ | refine Yd (fun _ => kst) ?_ | refine Yf (fun _ => kst) ?_ | refine Ye (fun _ => kst) ?_ | refine Yh (fun _ => kst) ?_ | (refine uB ?_; intro b) | (refine uP ?_ ?_ <;> (intro h; ((try simp only [zs, ne_eq, and_true, true_and, eq_self, reduceCtorEq] at h); try exact zx))) | refine da 101 ?_ | fail)
    all_goals subst hH
    all_goals refine Wi (L' := [(b, .cells ⟨sc ⟨ph, pr, att⟩⟩ 43)] :: G1.lc :: [(G.wp, .cells ⟨[.slice aw2 M1.w.length capw2, G1.nv, .map (some G1.mb), .slice al2 M1.l.length capl2, G1.ev]⟩ 110)] :: G1.wc :: G1.nc :: [(G1.mb, .map ⟨G1.es⟩ G1.ck)] :: G1.ec :: U6 G1.nd M1.n 0 :: L) ?_ (by simp only [Y6, Zex, Zaj, List.cons_append, List.nil_append, hwv2, hlv2, e1]; exact uL)
    all_goals refine Zn (σ := Nat × Value × List Zq) (fun r => [(0, pt G.wp 0), (1, iv s), (5, pt (Zj G s).np 0), (7, iv d), (8, pt b 0), (20, iv d), (49, iv M1.w.length), (50, iv r.1)]) (fun r => [(b, .cells ⟨sc ⟨ph, pr, att⟩⟩ 43)] :: r.2.2 :: [(G.wp, .cells ⟨[.slice aw2 M1.w.length capw2, G1.nv, .map (some G1.mb), r.2.1, G1.ev]⟩ 110)] :: G1.wc :: G1.nc :: [(G1.mb, .map ⟨G1.es⟩ G1.ck)] :: G1.ec :: U6 G1.nd M1.n 0 :: L) (fun r => r.1 ≤ M1.w.length ∧ Zx r.2.1 (M1.l ++ (List.range r.1).map fun (i : Nat) => (⟨s, (i : Int), d, 7, pr, false, ⟨ph, 0, 0⟩⟩ : Fr)) r.2.2) (fun r => M1.w.length - r.1) (0, .slice al2 M1.l.length capl2, G1.lc) uS (List.Sublist.refl _) ⟨by simp, by simpa using hvl⟩ ?_
    all_goals rintro ⟨i, lv3, lc3⟩ ⟨hi, hv3⟩
    all_goals simp only at hi hv3 ⊢
    all_goals obtain ⟨al3, capl3, hlv3, -, -⟩ := hv3.rd Zi
    all_goals subst hlv3
    all_goals
     by_cases hit : i < M1.w.length
     ·repeat' (first | refine uN ?_ | refine Z7 S ?_ | refine Yt S ?_ | (refine uB ?_; intro b) | (refine uP ?_ ?_ <;> (intro h; ((try simp only [zs, ne_eq, and_true, true_and, eq_self, reduceCtorEq] at h); try exact zx))) | refine da 101 ?_ | fail)
      refine fo 2 ?_
      refine Zea S (⟨s, (i : Int), d, 7, pr, false, ⟨ph, 0, 0⟩⟩ : Fr) hv3 Zi Wb ?_ (hby := by simp only [List.length_append, List.length_map, List.length_range]; omega) (hmax := by simp only [List.length_append, List.length_map, List.length_range]; omega)
      intro v' c' hv'
      obtain ⟨a6, cap6, he6, -, -⟩ := hv'.rd Zi
      subst he6
      rw [List.append_assoc, ← hsuccF i] at hv'
      repeat' (first | refine uN ?_ | refine Z7 S ?_ | refine Yt S ?_ | (refine uB ?_; intro b) | (refine uP ?_ ?_ <;> (intro h; ((try simp only [zs, ne_eq, and_true, true_and, eq_self, reduceCtorEq] at h); try exact zx))) | refine da 101 ?_ | fail)
      refine Zg (i + 1, _, c') uS ?_ ⟨by simp only; omega, hv'⟩ (by simp only; omega)
      rw [List.append_assoc, ← hsuccF i]
      exact uL
     ·obtain rfl : i = M1.w.length := by omega
      rw [← hdF] at hv3
      repeat' (first | refine uN ?_ | refine Z7 S ?_ | refine Yt S ?_ | (refine uB ?_; intro b) | (refine uP ?_ ?_ <;> (intro h; ((try simp only [zs, ne_eq, and_true, true_and, eq_self, reduceCtorEq] at h); try exact zx))) | refine da 101 ?_ | fail)
      refine Zg (d + 1, { G1 with lv := .slice al3 (M1.l ++ Wz M1 s d ⟨ph, pr, att⟩).length capl3, lc := lc3 }) uS ?_ ⟨by simp only; omega, by simp only [htd], by simp only [htd]; exact hW1.setL hv3, e1, e2⟩ (by simp only; omega)
      simp only [htd, Y6, Zex, Zaj, List.cons_append, List.nil_append, hwv2, e1, hdF]
      exact uL
   ·rw [if_neg hf] at htd
    have hk := fun L hG => Zsp T E G1 M1 s d pr L hG hW1 hM1 (by omega) h0 h1' hsite1 (by omega) (by omega)
    rw [← htd] at hk
    simp only [e1] at hk
    have ho : (X9 s M (d + 1)).2 = true ∨ (X9 s M (d + 1)).2 = false := by cases (X9 s M (d + 1)).2 <;> simp
    clear hA1 hA2 hB
    generalize hH : Y6 G1 M1 ++ L = H at *
    rcases ho with ho | ho
    ·rw [ho] at hk
     repeat' (first | refine uN ?_ | refine Z7 S ?_ | refine Yt S ?_ | refine uC (kst) ?_ | refine Yd (fun _ => kst) ?_ | refine Yf (fun _ => kst) ?_ | refine Ye (fun _ => kst) ?_ | refine Yh (fun _ => kst) ?_ | (refine uB ?_; intro b) | (refine uP ?_ ?_ <;> (intro h; ((try simp only [zs, ne_eq, and_true, true_and, eq_self, reduceCtorEq] at h); try exact zx))) | refine da 101 ?_ | fail)
     all_goals subst hH
     all_goals refine Uk (L' := Y6 G1 M1 ++ ([(b, .cells ⟨sc ⟨ph, pr, att⟩⟩ 43)] :: L)) ?_ ls_in
     all_goals refine gc (hk _ (hG.cons _)) ?_
     all_goals rintro v L' ⟨rfl, G3, f1, f2, f3, rfl⟩
     all_goals repeat' (first | refine uN ?_ | refine Z7 S ?_ | refine Yt S ?_ | refine uC (kst) ?_ | refine Yd (fun _ => kst) ?_ | refine Yf (fun _ => kst) ?_ | refine Ye (fun _ => kst) ?_ | refine Yh (fun _ => kst) ?_ | (refine uB ?_; intro b) | (refine uP ?_ ?_ <;> (intro h; ((try simp only [zs, ne_eq, and_true, true_and, eq_self, reduceCtorEq] at h); try exact zx))) | refine da 101 ?_ | fail)
     all_goals refine Zg (d + 1, G3) uS ?_ ⟨by simp only; omega, ho, f3, f1.trans e1, f2.trans e2⟩ (by simp only; omega)
     all_goals simp only [List.flatten_append, List.flatten_cons]
     all_goals exact LS.boths _ (LS.skips _ (LS.refl _))
    ·rw [ho] at hk
     rw [hstop ho]
     repeat' (first | refine uN ?_ | refine Z7 S ?_ | refine Yt S ?_ | refine uC (kst) ?_ | refine Yd (fun _ => kst) ?_ | refine Yf (fun _ => kst) ?_ | refine Ye (fun _ => kst) ?_ | refine Yh (fun _ => kst) ?_ | (refine uB ?_; intro b) | (refine uP ?_ ?_ <;> (intro h; ((try simp only [zs, ne_eq, and_true, true_and, eq_self, reduceCtorEq] at h); try exact zx))) | refine da 101 ?_ | fail)
     all_goals subst hH
     all_goals refine Uk (L' := Y6 G1 M1 ++ ([(b, .cells ⟨sc ⟨ph, pr, att⟩⟩ 43)] :: L)) ?_ ls_in
     all_goals refine gc (hk _ (hG.cons _)) ?_
     all_goals rintro v L' ⟨rfl, G3, f1, f2, f3, rfl⟩
     all_goals repeat' (first | refine uN ?_ | refine Z7 S ?_ | refine Yt S ?_ | refine uC (kst) ?_ | refine Yd (fun _ => kst) ?_ | refine Yf (fun _ => kst) ?_ | refine Ye (fun _ => kst) ?_ | refine Yh (fun _ => kst) ?_ | (refine uB ?_; intro b) | (refine uP ?_ ?_ <;> (intro h; ((try simp only [zs, ne_eq, and_true, true_and, eq_self, reduceCtorEq] at h); try exact zx))) | refine da 101 ?_ | fail)
     all_goals refine Yi (L' := Y6 G3 (X9 s M (d + 1)).1 ++ L) ?_ ⟨rfl, G3, f1.trans e1, f2.trans e2, f3, rfl⟩
     all_goals simp only [List.flatten_append, List.flatten_cons]
     all_goals exact LS.boths _ (LS.skips _ (LS.refl _))
  ·obtain rfl : d = 6 := by omega
   repeat' (first | refine uN ?_ | refine Z7 S ?_ | refine Yt S ?_ | (refine uB ?_; intro b) | (refine uP ?_ ?_ <;> (intro h; ((try simp only [zs, ne_eq, and_true, true_and, eq_self, reduceCtorEq] at h); try exact zx))) | refine da 101 ?_ | fail)
   exact Vx rfl ⟨rfl, G1, e1, e2, hW1, rfl⟩
end Go.HL
end

/-! WoW -/
section
namespace Go.HL
open Go Go.Proofs
set_option linter.unusedVariables false
set_option linter.unusedSimpArgs false
def Zm0 (np bp ba sp bj mb : Nat) : NdG := ⟨np, bp, ba, sp, bj, mb, [], 0, List.replicate 6 (0, .pointer none, [])⟩
theorem Zpp : ∀ {gs : List NdG} {ms : List Nd} {i : Nat} {g : NdG} {m : Nd}, gs.length = ms.length → U6 (gs ++ [g]) (ms ++ [m]) i = U6 gs ms i ++ Zjo g ((i + gs.length : Nat) : Int) m
 | [], [], i, g, m, _ => by simp [U6]
 | [], _ :: _, _, _, _, h => by simp at h
 | _ :: _, [], _, _, _, h => by simp at h
 | g0 :: gs, m0 :: ms, i, g, m, h => by
  have ih := Zpp (gs := gs) (ms := ms) (i := i + 1) (g := g) (m := m) (by simpa using h)
  simp only [List.cons_append, U6, ih, List.append_assoc, List.length_cons]
  rw [show i + 1 + gs.length = i + (gs.length + 1) by omega]
theorem newNd_ok (np bp ba sp bj mb : Nat) : NdOk (Zm0 np bp ba sp bj mb) newNd := by
 refine ⟨rfl, fun d x hx => ?_, fun j ref e => by cases e; exact Zkp⟩
 simp only [newNd, noLeads, List.getElem?_replicate] at hx
 split at hx <;> cases hx
theorem Zuz (np bp ba sp bj mb : Nat) : Zb3 (Zm0 np bp ba sp bj mb) newNd = [] := rfl
theorem Zvl (np bp ba sp bj mb : Nat) : W6 (Zhd (Zm0 np bp ba sp bj mb) newNd.site) bp (Xi (Zm0 np bp ba sp bj mb) newNd) newNd.done = [pt sp 0, pt bp 0, .pointer none, .pointer none, .pointer none, .pointer none, .pointer none, .pointer none, .bool false, .bool false, .bool false, .bool false, .bool false, .bool false] := rfl
theorem nds_new {gs : List NdG} {i : Nat} (np bp ba sp bj mb : Nat) (h : gs.length = i) : U6 (gs ++ [Zm0 np bp ba sp bj mb]) (List.replicate (i + 1) newNd) 0 = U6 gs (List.replicate i newNd) 0 ++ (Zcg (Zm0 np bp ba sp bj mb) newNd ++ (Xl bp ba ⟨Yj 512, false, -1⟩ ++ (Zhy sp bj mb i ++ (Zii mb [] 0 ++ jC bj bp ⟨Zo (Yj 512), false⟩)))) := by
 rw [List.replicate_succ', Zpp (show gs.length = (List.replicate i newNd).length by rw [List.length_replicate, h]), h]
 unfold Zjo
 rw [Zuz, List.append_nil, Nat.zero_add]
 have : siB (Zm0 np bp ba sp bj mb) i newNd.site = Zhy sp bj mb i ++ Zii mb [] 0 ++ jC bj bp ⟨Zo (Yj 512), false⟩ := rfl
 rw [this]
 simp only [List.append_assoc]
 rfl
set_option maxHeartbeats 2000000 attribute [local irreducible] HW HO HQ HD HC QOp Has Upd Zt Gets Yb Z6 Zr Xr Z4 Zm Xx Zy
attribute [local irreducible] Xl Zo Yj
theorem Zep (T : Nat) (E : Nat → Addr) (v : Value) (w : List Int) (c : List Zq) (L : Zb) (hG : Er T E [2, 3, 4, 6] L) (hv : Vec 3 1 ic v w c) (hl : w.length ≤ 1000000) :
  HC Tryz.prog 17 [v] (c :: L) (fun u L' => match Yw w with
   | some e => u = .tuple ⟨[.pointer none, eV T E (some e)]⟩ ∧ L' = c :: L
   | none => ∃ G, u = .tuple ⟨[pt G.wp 0, .nilIface]⟩ ∧ WdOk G (Z5 w) ∧ L' = Y6 G (Z5 w) ++ (c :: L)) := by
 obtain ⟨aw, capw, rfl, -, hR⟩ := hv.rd Xu
 have kc := Zc0 T E aw capw w (c :: L) (hG.sub.cons c) (hR L) hl
 have kcl := fun L => Zsj _ w c L hv (by omega)
 cases hc : Yw w with
 | some e =>
  rw [hc] at kc
  refine Za (fun _ _ => Tryz.call17 _ _) Tryz.func17 rfl Tryz.ntmps17 (Nat.le_of_ble_eq_true rfl) ?_; simp only [Zc, Nat.reduceAdd]
  repeat' (first | refine uN ?_ | refine uC (kc) ?_ | (refine uB ?_; intro b) | (refine uP ?_ ?_ <;> (intro h; ((try simp only [zs, ne_eq, and_true, true_and, eq_self, reduceCtorEq] at h); try exact zx))) | fail)
  exact Znj rfl ⟨rfl, rfl⟩
 | none =>
  rw [hc] at kc
  obtain ⟨c1, c2, -⟩ := Wx hc
  have kp := fun L hG => Zms T E 512 L hG
  rw [show Zpo 512 = some ⟨Yj 512, false, -1⟩ from rfl] at kp
  have hz := Zmb 512
  have ks := fun (i : Nat) (hi : i < 7) bp ba L hG => Zim T E (i : Int) bp ba ⟨Yj 512, false, -1⟩ L hG (by simp only; omega)
  have hse : ∀ i : Nat, i < 7 → Zmm (i : Int) ⟨Yj 512, false, -1⟩ = none := fun i hi => by
   unfold Zmm
   rw [if_neg (by omega)]
   simp only
   rw [if_neg (by omega)]
   simp
  refine Za (fun _ _ => Tryz.call17 _ _) Tryz.func17 rfl Tryz.ntmps17 (Nat.le_of_ble_eq_true rfl) ?_; simp only [Zc, Nat.reduceAdd]
  repeat' (first | refine uN ?_ | refine uC (kc) ?_ | (refine uB ?_; intro b) | (refine uP ?_ ?_ <;> (intro h; ((try simp only [zs, ne_eq, and_true, true_and, eq_self, reduceCtorEq] at h); try exact zx))) | fail)
  refine gc (kcl _) ?_
  rintro u L' ⟨cw, hvw, rfl⟩
  obtain ⟨aw2, capw2, rfl, -, -⟩ := hvw.rd Xu
  repeat' (first | refine uN ?_ | refine uC (kc) ?_ | (refine uB ?_; intro b) | (refine uP ?_ ?_ <;> (intro h; ((try simp only [zs, ne_eq, and_true, true_and, eq_self, reduceCtorEq] at h); try exact zx))) | fail)
  rename_i mb
  obtain ⟨wp, rfl⟩ : ∃ wp, wp = b := ⟨b, rfl⟩
  refine Wi (L' := [(wp, .cells ⟨[.slice aw2 w.length capw2, Y4, .map (some mb), Y4, Y4]⟩ 110)] :: [] :: [(mb, .map ⟨[]⟩ 0)] :: cw :: [] :: c :: L) ?_ uL
  refine Zn (σ := Nat × Value × List Zq × List NdG) (fun r => [(5, pt wp 0), (20, .slice aw w.length capw), (21, iv w.length), (22, iv r.1)])
   (fun r => [(wp, .cells ⟨[.slice aw2 w.length capw2, r.2.1, .map (some mb), Y4, Y4]⟩ 110)] :: r.2.2.1 :: [(mb, .map ⟨[]⟩ 0)] :: cw :: U6 r.2.2.2 (List.replicate r.1 newNd) 0 :: c :: L)
   (fun r => r.1 ≤ w.length ∧ r.2.2.2.length = r.1 ∧ Vec 117 1 pc r.2.1 (r.2.2.2.map (·.np)) r.2.2.1 ∧ ∀ (k : Nat) (g : NdG), r.2.2.2[k]? = some g → NdOk g newNd) (fun r => w.length - r.1) (0, Y4, [], []) uS (List.Sublist.refl _) ⟨by simp, rfl, Zu, fun k g h => by simp at h⟩ ?_
  rintro ⟨i, nv, nc, gs⟩ ⟨hi, hgl, hnv, hgk⟩
  simp only at hi hgl hnv hgk ⊢
  obtain ⟨an, capn, he, -, -⟩ := hnv.rd Wq
  subst he
  have hml : (gs.map (·.np)).length = i := by simp [hgl]
  by_cases hit : i < w.length
  ·have ks2 := ks i (by omega)
   rw [hse i (by omega)] at ks2
   repeat' (first | refine uN ?_ | refine uC (kc) ?_ | (refine uB ?_; intro b) | (refine uP ?_ ?_ <;> (intro h; ((try simp only [zs, ne_eq, and_true, true_and, eq_self, reduceCtorEq] at h); try exact zx))) | fail)
   refine gc (kp _ (by repeat (first | exact hG | exact hG.sub | apply Errs.cons))) ?_
   rintro v L' ⟨bp, ba, rfl, rfl⟩
   repeat' (first | refine uN ?_ | refine uC (kc) ?_ | (refine uB ?_; intro b) | (refine uP ?_ ?_ <;> (intro h; ((try simp only [zs, ne_eq, and_true, true_and, eq_self, reduceCtorEq] at h); try exact zx))) | fail)
   refine gc (ks2 bp ba _ (by repeat (first | exact hG | exact hG.sub | apply Errs.cons))) ?_
   rintro v L' ⟨sp, bj, mb2, rfl, rfl⟩
   repeat' (first | refine uN ?_ | refine uC (kc) ?_ | (refine uB ?_; intro b) | (refine uP ?_ ?_ <;> (intro h; ((try simp only [zs, ne_eq, and_true, true_and, eq_self, reduceCtorEq] at h); try exact zx))) | fail)
   rename_i np
   refine fo 7 ?_
   refine Zea S np hnv Wq Zev ?_ (hby := by rw [hml]; omega) (hmax := by rw [hml]; omega)
   intro v' c' hv'
   obtain ⟨an2, capn2, he2, -, -⟩ := hv'.rd Wq
   subst he2
   have hnew := newNd_ok np bp ba sp bj mb2
   repeat' (first | refine uN ?_ | refine uC (kc) ?_ | (refine uB ?_; intro b) | (refine uP ?_ ?_ <;> (intro h; ((try simp only [zs, ne_eq, and_true, true_and, eq_self, reduceCtorEq] at h); try exact zx))) | fail)
   refine Zg (i + 1, .slice an2 (gs.map (·.np) ++ [np]).length capn2, c', gs ++ [Zm0 np bp ba sp bj mb2]) uS ?_ ⟨by simp only; omega, by simp [hgl], by rw [List.map_append]; exact hv', fun k g hk => ?_⟩ (by simp only; omega)
   ·simp only [nds_new np bp ba sp bj mb2 hgl]
    refine LS.trans (b := ([(wp, .cells ⟨[.slice aw2 w.length capw2, .slice an2 (gs.map (·.np) ++ [np]).length capn2, .map (some mb), Y4, Y4]⟩ 110)] :: c' :: [(mb, .map ⟨[]⟩ 0)] :: cw :: U6 gs (List.replicate i newNd) 0 :: Zcg (Zm0 np bp ba sp bj mb2) newNd :: Xl bp ba ⟨Yj 512, false, -1⟩ :: Zhy sp bj mb2 i :: Zii mb2 [] 0 :: jC bj bp ⟨Zo (Yj 512), false⟩ :: c :: L).flatten) (LS.of_eq ?_) ?_
    ·simp only [List.flatten_cons, List.append_assoc]
    ·simp only [Zcg, Zbn, Zvl]
     exact uL
   ·rw [List.getElem?_append] at hk
    split at hk
    ·exact hgk k g hk
    ·rename_i hk2
     have : k - gs.length = 0 := by
      by_cases e : k - gs.length = 0
      ·exact e
      ·simp [e] at hk
     rw [this] at hk
     cases hk
     exact hnew
  ·obtain rfl : i = w.length := by omega
   repeat' (first | refine uN ?_ | refine uC (kc) ?_ | (refine uB ?_; intro b) | (refine uP ?_ ?_ <;> (intro h; ((try simp only [zs, ne_eq, and_true, true_and, eq_self, reduceCtorEq] at h); try exact zx))) | fail)
   refine Qh (L' := Y6 ⟨wp, .slice aw2 w.length capw2, cw, .slice an (gs.map (·.np)).length capn, nc, mb, [], 0, Y4, [], Y4, [], gs⟩ (Z5 w) ++ (c :: L)) ?_ ⟨⟨wp, .slice aw2 w.length capw2, cw, .slice an (gs.map (·.np)).length capn, nc, mb, [], 0, Y4, [], Y4, [], gs⟩, rfl, ⟨hvw, hnv, by simp [Z5, hgl], Zkp, Zu, Zu, fun s g m h1 h2 => ?_⟩, rfl⟩
   ·simp only [Y6, Zex, Zaj, List.cons_append, List.nil_append, Z5]
    exact uL
   ·simp only [Z5, List.getElem?_replicate] at h2
    split at h2
    ·cases h2
     exact hgk s g h1
    ·cases h2
end Go.HL
end

/-! PwA -/
section
namespace Go.HL
open Go Go.Proofs
set_option linter.unusedVariables false
set_option linter.unusedSimpArgs false
def Qq (M : Wm) (v : Int) : Wm × Option Nat :=
 if v % 16 < 9 ∧ M.l.length = 0 then (M, some 4) else
 if v % 16 = 7 then Uy M (v / 16 % M.l.length) else
 if v % 16 = 8 then Vv M (v / 16 % M.l.length) else
 if v % 16 = 9 then Xk M (v / 16 % 7) (v / 16 / 7 % 6) else
 if v % 16 = 10 then Wt M (v / 16 % 7) else
 if v % 16 = 11 then Wp M (v / 16 % 7) (v / 16 / 7 % 6) else
 if v % 16 = 12 then Ue M (v / 16 % 7) (v / 16 / 7 % 6) (decide (v / 16 % 2 = 0)) else
 if v % 16 = 13 then Zdw M (v / 16 % 7) (v / 16 % 40) else
 if v % 16 = 14 then Qb M (v / 16 % 7) else
 if v % 16 = 15 then Zl5 M (v / 16 % 7) else
 Zw M (v / 16 % M.l.length)
theorem one_ok {M : Wm} (h : WI M) (v : Int) : StepOk M (Qq M v).1 84 := by
 unfold Qq
 split
 ·exact .refl h _
 split
 ·exact (Zt4 h _).mono (by omega)
 split
 ·exact (Zp2 h _).mono (by omega)
 split
 ·exact (Zji h _ _).mono (by omega)
 split
 ·exact (Zm4 h _).mono (by omega)
 split
 ·exact (Zlx h _ _).mono (by omega)
 split
 ·exact (Zni h _ _ _).mono (by omega)
 split
 ·exact (cut_ok h _ _ (by omega)).mono (by omega)
 split
 ·exact (Zt3 h _).mono (by omega)
 split
 ·exact (up_ok h _).mono (by omega)
 ·exact (Ve h _).mono (by omega)
def okW (e : Option Nat) : Prop := e = none ∨ e = some 2 ∨ e = some 4 ∨ e = some 6 ∨ e = some 8
theorem Ztr (M : Wm) (s : Int) : okW (X0 M s) := by unfold X0 okW; split <;> simp
theorem Zqe (M : Wm) (s : Int) : okW (Zbm M s) := by
 unfold Zbm
 have := Ztr M s
 split
 ·rename_i e he
  rw [he] at this
  exact this
 ·unfold okW; split <;> simp
theorem wat_w (M : Wm) (k : Int) : okW (Zk1 M k) := by unfold Zk1 okW; split <;> simp
theorem Zdj (M : Wm) (s d : Int) : okW (Xk M s d).2 := by
 unfold Xk
 split
 ·unfold okW; simp
 have := Zqe M s
 split
 ·rename_i e he
  rw [he] at this
  exact this
 split <;> (unfold okW; simp)
theorem Zbk (M : Wm) (s d : Int) : okW (Wp M s d).2 := by
 unfold Wp
 split
 ·unfold okW; simp
 have := Zqe M s
 split
 ·rename_i e he
  rw [he] at this
  exact this
 ·unfold okW; simp
theorem Zgt (M : Wm) (s : Int) : okW (Wt M s).2 := by
 unfold Wt
 have := Zqe M s
 split
 ·rename_i e he
  rw [he] at this
  exact this
 ·unfold okW; simp
theorem Qy (M : Wm) (k : Int) : okW (Zw M k).2 := by
 unfold Zw
 have := wat_w M k
 split
 ·rename_i e he
  rw [he] at this
  exact this
 ·simp only
  split
  ·unfold okW; simp
  split
  ·split <;> (unfold okW; simp)
  ·unfold okW; simp
theorem Zgo (M : Wm) (k : Int) : okW (Uy M k).2 := by
 unfold Uy
 have := wat_w M k
 split
 ·rename_i e he
  rw [he] at this
  exact this
 ·unfold okW; simp
theorem Zdm (M : Wm) (k : Int) : okW (Vv M k).2 := by
 unfold Vv
 have := wat_w M k
 split
 ·rename_i e he
  rw [he] at this
  exact this
 ·unfold okW; simp
theorem Zgg (M : Wm) (a b : Int) (c : Bool) : okW (Ue M a b c).2 := by unfold Ue; split <;> (unfold okW; simp)
theorem Zmn (M : Wm) (s n : Int) : okW (Zdw M s n).2 := by
 unfold Zdw
 split
 ·unfold okW; simp
 have := Zqe M s
 split
 ·rename_i e he
  rw [he] at this
  exact this
 ·unfold okW; simp
theorem Zgk (M : Wm) (s : Int) : okW (Qb M s).2 := by
 unfold Qb
 have := Zqe M s
 split
 ·rename_i e he
  rw [he] at this
  exact this
 ·unfold okW; simp
theorem Zug (M : Wm) (s : Int) : okW (Zl5 M s).2 := by
 unfold Zl5
 have := Ztr M s
 split
 ·rename_i e he
  rw [he] at this
  exact this
 ·split <;> (unfold okW; simp)
theorem one_w (M : Wm) (v : Int) : okW (Qq M v).2 := by
 unfold Qq
 split
 ·unfold okW; simp
 split
 ·exact Zgo _ _
 split
 ·exact Zdm _ _
 split
 ·exact Zdj _ _ _
 split
 ·exact Zgt _ _
 split
 ·exact Zbk _ _ _
 split
 ·exact Zgg _ _ _ _
 split
 ·exact Zmn _ _ _
 split
 ·exact Zgk _ _
 split
 ·exact Zug _ _
 ·exact Qy _ _
theorem okW.ok {e : Option Nat} (h : okW e) : okE e := by
 rcases h with h | h | h | h | h <;> (rw [h]; first | exact .inl rfl | (refine .inr ⟨_, rfl, ?_⟩; decide) | trivial | decide)
set_option maxHeartbeats 2000000 attribute [local irreducible] HW HO HQ HD HC QOp Has Upd Zt Gets Yb Z6 Zr Xr Z4 Zm Xx Zy
attribute [local irreducible] W6 Yr Xl Zp Xw Zo Zar Wt Xk Zw Zl5
theorem Zuk (T : Nat) (E : Nat → Addr) (G : WdG) (M : Wm) (v : Int) (L : Zb) (hG : Er T E [2, 3, 4, 5, 6, 8] L) (hW : WdOk G M) (hM : WI M) (hl : M.l.length ≤ 99999000) (hv : 0 ≤ v) (hv2 : v ≤ 9223372036854775807) :
  HC Tryz.prog 104 [pt G.wp 0, iv v] (Y6 G M ++ L) (fun u L' => u = eV T E (Qq M v).2 ∧ Zey G (Qq M v).1 L L') := by
 have hself := W1 hW L
 have hI := Zac hW L
 have hG' := Wo hG G M
 have kf := Zqz G M _ hI
 have k7 := fun k => Zhi T E G M k L hG.sub hW (by omega)
 have k8 := fun k => Ze0 T E G M k L hG.sub hW (by omega)
 have k9 := fun s d => Qr T E G M s d L hG.sub hW hM (by omega)
 have k10 := fun s => Zcr T E G M s L hG.sub hW hM (by omega)
 have k11 := fun s d => Zeb T E G M s d L hG.sub hW hM
 have k12 := fun a b w => Zg5 T E G M a b w L hG.sub hW
 have k13 := fun s n => Zj6 T E G M s n L hG.sub hW hM
 have k14 := fun s => Zho T E G M s L hG.sub hW hM
 have k15 := fun s => Zi3 T E G M s L hG.sub hW hM
 have k0 := fun k => Q2 T E G M k L hG.sub hW hM (by omega)
 generalize Y6 G M ++ L = H at *
 unfold Qq
 have hq0 : 0 ≤ v / 16 := by omega
 have hr0 : 0 ≤ v % 16 ∧ v % 16 < 16 := by omega
 refine Za (fun _ _ => Tryz.call104 _ _) Tryz.func104 rfl Tryz.ntmps104 (Nat.le_of_ble_eq_true rfl) ?_; simp only [Zc, Nat.reduceAdd]
 repeat' (first | refine uN ?_ | refine uC (kf) ?_ | (refine uP ?_ ?_ <;> (intro h; ((try simp only [zs, ne_eq, and_true, true_and, eq_self, reduceCtorEq] at h); try exact zx))) | fail)
 all_goals first | (rw [if_pos (show v % 16 < 9 ∧ M.l.length = 0 by omega)]; exact Vx rfl ⟨rfl, hself⟩) | (refine gc (k7 _) ?_; rintro u L' ⟨rfl, hP⟩; (repeat' (first | refine uN ?_ | refine uC (kf) ?_ | (refine uP ?_ ?_ <;> (intro h; ((try simp only [zs, ne_eq, and_true, true_and, eq_self, reduceCtorEq] at h); try exact zx))) | fail)); rw [if_neg (show ¬ (v % 16 < 9 ∧ M.l.length = 0) by omega), if_pos (show v % 16 = 7 by omega)]; exact Vx rfl ⟨rfl, hP⟩) | (refine gc (k8 _) ?_; rintro u L' ⟨rfl, hP⟩; (repeat' (first | refine uN ?_ | refine uC (kf) ?_ | (refine uP ?_ ?_ <;> (intro h; ((try simp only [zs, ne_eq, and_true, true_and, eq_self, reduceCtorEq] at h); try exact zx))) | fail)); rw [if_neg (show ¬ (v % 16 < 9 ∧ M.l.length = 0) by omega), if_neg (show ¬ v % 16 = 7 by omega), if_pos (show v % 16 = 8 by omega)]; exact Vx rfl ⟨rfl, hP⟩) | (refine gc (k9 _ _) ?_; rintro u L' ⟨rfl, hP⟩; (repeat' (first | refine uN ?_ | refine uC (kf) ?_ | (refine uP ?_ ?_ <;> (intro h; ((try simp only [zs, ne_eq, and_true, true_and, eq_self, reduceCtorEq] at h); try exact zx))) | fail)); rw [if_neg (show ¬ (v % 16 < 9 ∧ M.l.length = 0) by omega), if_neg (show ¬ v % 16 = 7 by omega), if_neg (show ¬ v % 16 = 8 by omega), if_pos (show v % 16 = 9 by omega)]; exact Vx rfl ⟨rfl, hP⟩) | (refine gc (k10 _) ?_; rintro u L' ⟨rfl, hP⟩; (repeat' (first | refine uN ?_ | refine uC (kf) ?_ | (refine uP ?_ ?_ <;> (intro h; ((try simp only [zs, ne_eq, and_true, true_and, eq_self, reduceCtorEq] at h); try exact zx))) | fail)); rw [if_neg (show ¬ (v % 16 < 9 ∧ M.l.length = 0) by omega), if_neg (show ¬ v % 16 = 7 by omega), if_neg (show ¬ v % 16 = 8 by omega), if_neg (show ¬ v % 16 = 9 by omega), if_pos (show v % 16 = 10 by omega)]; exact Vx rfl ⟨rfl, hP⟩) | (refine gc (k11 _ _) ?_; rintro u L' ⟨rfl, hP⟩; (repeat' (first | refine uN ?_ | refine uC (kf) ?_ | (refine uP ?_ ?_ <;> (intro h; ((try simp only [zs, ne_eq, and_true, true_and, eq_self, reduceCtorEq] at h); try exact zx))) | fail)); rw [if_neg (show ¬ (v % 16 < 9 ∧ M.l.length = 0) by omega), if_neg (show ¬ v % 16 = 7 by omega), if_neg (show ¬ v % 16 = 8 by omega), if_neg (show ¬ v % 16 = 9 by omega), if_neg (show ¬ v % 16 = 10 by omega), if_pos (show v % 16 = 11 by omega)]; exact Vx rfl ⟨rfl, hP⟩) | (refine gc (k12 _ _ _) ?_; rintro u L' ⟨rfl, hP⟩; (repeat' (first | refine uN ?_ | refine uC (kf) ?_ | (refine uP ?_ ?_ <;> (intro h; ((try simp only [zs, ne_eq, and_true, true_and, eq_self, reduceCtorEq] at h); try exact zx))) | fail)); rw [if_neg (show ¬ (v % 16 < 9 ∧ M.l.length = 0) by omega), if_neg (show ¬ v % 16 = 7 by omega), if_neg (show ¬ v % 16 = 8 by omega), if_neg (show ¬ v % 16 = 9 by omega), if_neg (show ¬ v % 16 = 10 by omega), if_neg (show ¬ v % 16 = 11 by omega), if_pos (show v % 16 = 12 by omega)]; exact Vx rfl ⟨rfl, hP⟩) | (refine gc (k13 _ _) ?_; rintro u L' ⟨rfl, hP⟩; (repeat' (first | refine uN ?_ | refine uC (kf) ?_ | (refine uP ?_ ?_ <;> (intro h; ((try simp only [zs, ne_eq, and_true, true_and, eq_self, reduceCtorEq] at h); try exact zx))) | fail)); rw [if_neg (show ¬ (v % 16 < 9 ∧ M.l.length = 0) by omega), if_neg (show ¬ v % 16 = 7 by omega), if_neg (show ¬ v % 16 = 8 by omega), if_neg (show ¬ v % 16 = 9 by omega), if_neg (show ¬ v % 16 = 10 by omega), if_neg (show ¬ v % 16 = 11 by omega), if_neg (show ¬ v % 16 = 12 by omega), if_pos (show v % 16 = 13 by omega)]; exact Vx rfl ⟨rfl, hP⟩) | (refine gc (k14 _) ?_; rintro u L' ⟨rfl, hP⟩; (repeat' (first | refine uN ?_ | refine uC (kf) ?_ | (refine uP ?_ ?_ <;> (intro h; ((try simp only [zs, ne_eq, and_true, true_and, eq_self, reduceCtorEq] at h); try exact zx))) | fail)); rw [if_neg (show ¬ (v % 16 < 9 ∧ M.l.length = 0) by omega), if_neg (show ¬ v % 16 = 7 by omega), if_neg (show ¬ v % 16 = 8 by omega), if_neg (show ¬ v % 16 = 9 by omega), if_neg (show ¬ v % 16 = 10 by omega), if_neg (show ¬ v % 16 = 11 by omega), if_neg (show ¬ v % 16 = 12 by omega), if_neg (show ¬ v % 16 = 13 by omega), if_pos (show v % 16 = 14 by omega)]; exact Vx rfl ⟨rfl, hP⟩) | (refine gc (k15 _) ?_; rintro u L' ⟨rfl, hP⟩; (repeat' (first | refine uN ?_ | refine uC (kf) ?_ | (refine uP ?_ ?_ <;> (intro h; ((try simp only [zs, ne_eq, and_true, true_and, eq_self, reduceCtorEq] at h); try exact zx))) | fail)); rw [if_neg (show ¬ (v % 16 < 9 ∧ M.l.length = 0) by omega), if_neg (show ¬ v % 16 = 7 by omega), if_neg (show ¬ v % 16 = 8 by omega), if_neg (show ¬ v % 16 = 9 by omega), if_neg (show ¬ v % 16 = 10 by omega), if_neg (show ¬ v % 16 = 11 by omega), if_neg (show ¬ v % 16 = 12 by omega), if_neg (show ¬ v % 16 = 13 by omega), if_neg (show ¬ v % 16 = 14 by omega), if_pos (show v % 16 = 15 by omega)]; exact Vx rfl ⟨rfl, hP⟩) | (refine gc (k0 _) ?_; rintro u L' ⟨rfl, hP⟩; (repeat' (first | refine uN ?_ | refine uC (kf) ?_ | (refine uP ?_ ?_ <;> (intro h; ((try simp only [zs, ne_eq, and_true, true_and, eq_self, reduceCtorEq] at h); try exact zx))) | fail)); rw [if_neg (show ¬ (v % 16 < 9 ∧ M.l.length = 0) by omega), if_neg (show ¬ v % 16 = 7 by omega), if_neg (show ¬ v % 16 = 8 by omega), if_neg (show ¬ v % 16 = 9 by omega), if_neg (show ¬ v % 16 = 10 by omega), if_neg (show ¬ v % 16 = 11 by omega), if_neg (show ¬ v % 16 = 12 by omega), if_neg (show ¬ v % 16 = 13 by omega), if_neg (show ¬ v % 16 = 14 by omega), if_neg (show ¬ v % 16 = 15 by omega)]; exact Vx rfl ⟨rfl, hP⟩)
end Go.HL
end

/-! PwB -/
section
namespace Go.HL
open Go Go.Proofs
set_option linter.unusedVariables false
set_option linter.unusedSimpArgs false
def U9 (q : Wm × List Int) (v : Int) : Wm × List Int := if 0 ≤ v then ((Qq q.1 v).1, q.2 ++ [cdN (Qq q.1 v).2]) else (q.1, q.2 ++ [-1])
def Va (M : Wm) (l : List Int) : Wm × List Int := (l.take 3000).foldl U9 (M, [])
theorem runV_ok {M : Wm} {q : Wm × List Int} {k : Nat} (h : StepOk M q.1 k) (v : Int) : StepOk M (U9 q v).1 (k + 84) ∧ (U9 q v).2.length = q.2.length + 1 := by
 unfold U9
 split
 ·have h2 := one_ok h.wi v
  have h3 := h.len
  have h4 := h2.len
  exact ⟨⟨h2.wi, h.same.trans h2.same, by simp only; omega⟩, by simp⟩
 ·exact ⟨h.mono (by omega), by simp⟩
theorem Zff : ∀ (l : List Int) {M : Wm} {q : Wm × List Int} {k : Nat}, StepOk M q.1 k → StepOk M (l.foldl U9 q).1 (k + 84 * l.length) ∧ (l.foldl U9 q).2.length = q.2.length + l.length
 | [], M, q, k, h => ⟨h, by simp⟩
 | v :: l, M, q, k, h => by
  obtain ⟨h1, h2⟩ := runV_ok h v
  obtain ⟨h3, h4⟩ := Zff l h1
  rw [List.foldl_cons]
  refine ⟨h3.mono (by simp only [List.length_cons]; omega), by rw [h4, h2, List.length_cons]; omega⟩
theorem run_ok {M : Wm} (h : WI M) (l : List Int) : StepOk M (Va M l).1 (84 * l.length) ∧ (Va M l).2.length ≤ l.length := by
 obtain ⟨h1, h2⟩ := Zff (l.take 3000) (M := M) (q := (M, [])) (k := 0) (.refl h 0)
 have : (l.take 3000).length ≤ l.length := by simp; omega
 exact ⟨h1.mono (by omega), by unfold Va; rw [h2]; simp; omega⟩
theorem Zav (M : Wm) (l : List Int) (i : Nat) (h : i < l.length) : (l.take (i + 1)).foldl U9 (M, []) = U9 ((l.take i).foldl U9 (M, [])) l[i] := by
 rw [List.take_add_one, List.getElem?_eq_getElem h, Option.toList_some, List.foldl_append]
 rfl
theorem Zih {A L : Zb} {b : Nat} {o : Obj} (h : Has L b o) : Has (A ++ L) b o := by
 unfold Has at *
 rw [List.flatten_append]
 exact List.mem_append_right _ h
theorem ls_in' {A L : Zb} {c : List Zq} : LS (c :: (A ++ L)).flatten (A ++ (c :: L)).flatten := by
 simp only [List.flatten_cons, List.flatten_append]
 refine LS.of_perm ?_
 rw [← List.append_assoc, ← List.append_assoc]
 exact List.perm_append_comm.append_right _
set_option maxHeartbeats 2000000 attribute [local irreducible] HW HO HQ HD HC QOp Has Upd Zt Gets Yb Z6 Zr Xr Z4 Zm Xx Zy
attribute [local irreducible] Qq
theorem Zvc (T : Nat) (E : Nat → Addr) (G : WdG) (M : Wm) (a : Option Addr) (cap : Nat) (l : List Int) (L : Zb) (hE : Ez T E L) (hW : WdOk G M) (hM : WI M) (hl : M.l.length + 84 * l.length ≤ 99999000) (hR : Rd ic 1 L a l) (hcap : l.length ≤ cap) (hd : ∀ v ∈ l, v ≤ 9223372036854775807) :
  HC Tryz.prog 42 [pt G.wp 0, .slice a l.length cap] (Y6 G M ++ L) (fun v L' => ∃ c, Vec 3 1 ic v (Va M l).2 c ∧ Zey G (Va M l).1 (c :: L) L') := by
 have hlen : (l.take 3000).length = min 3000 l.length := List.length_take
 refine Za (fun _ _ => Tryz.call42 _ _) Tryz.func42 rfl Tryz.ntmps42 (Nat.le_of_ble_eq_true rfl) ?_; simp only [Zc, Nat.reduceAdd]
 repeat' (first | refine uN ?_ | (refine uB ?_; intro b) | (refine uP ?_ ?_ <;> (intro h; ((try simp only [zs, ne_eq, and_true, true_and, eq_self, reduceCtorEq] at h); try exact zx))) | fail)
 generalize hN : (min (l.length : Int) 3000).toNat = N
 have hN1 : N ≤ l.length := by omega
 have hN2 : N = min 3000 l.length := by omega
 have hfin : (l.take N).foldl U9 (M, []) = Va M l := by
  unfold Va
  congr 1
  rw [hN2]
  by_cases h : l.length ≤ 3000
  ·rw [Nat.min_eq_right h, List.take_of_length_le (Nat.le_refl _), List.take_of_length_le h]
  ·rw [Nat.min_eq_left (by omega)]
 have hok := fun i => Zff (l.take i) (M := M) (q := (M, [])) (k := 0) (.refl hM 0)
 have hsucc := Zav M l
 refine Wi (L' := [] :: (Y6 G M ++ L)) ?_ (LS.refl _)
 refine Zn (σ := Nat × Value × List Zq × WdG) (fun r => [(0, pt G.wp 0), (5, r.2.1), (13, .slice a N cap), (14, iv N), (15, iv r.1)])
  (fun r => r.2.2.1 :: (Y6 r.2.2.2 ((l.take r.1).foldl U9 (M, [])).1 ++ L))
  (fun r => r.1 ≤ N ∧ Vec 3 1 ic r.2.1 ((l.take r.1).foldl U9 (M, [])).2 r.2.2.1 ∧ WdOk r.2.2.2 ((l.take r.1).foldl U9 (M, [])).1 ∧ r.2.2.2.wp = G.wp ∧ r.2.2.2.nd.map (·.np) = G.nd.map (·.np)) (fun r => N - r.1) (0, Y4, [], G) uS (List.Sublist.refl _) ⟨by simp, Zu, hW, rfl, rfl⟩ ?_
 rintro ⟨i, v1, c, G1⟩ ⟨hi, hv, hW1, e1, e2⟩
 simp only at hi hv hW1 e1 e2 ⊢
 obtain ⟨a5, cap5, he5, -, -⟩ := hv.rd Xu
 subst he5
 obtain ⟨⟨hM1, hsame, hlen⟩, hl2⟩ := hok i
 have hti : (l.take i).length = i := by rw [List.length_take]; omega
 rw [hti] at hlen hl2
 by_cases hit : i < N
 ·have hs := hsucc i (by omega)
  obtain ⟨b, bi, q, F, fr, rfl, hb, hg⟩ := hR.at1 (j := (i : Int)) (by omega) (by omega)
  have eg : l[(i : Int).toNat]'(by omega) = l[i] := rfl
  rw [eg] at hg
  have hdi := hd l[i] (List.getElem_mem _)
  clear hok hfin hsucc eg
  obtain ⟨M1, cs, hQ⟩ : ∃ M1 cs, (l.take i).foldl U9 (M, []) = (M1, cs) := ⟨_, _, rfl⟩
  simp only [hQ, List.length_nil, Nat.zero_add] at hs hv hW1 hM1 hsame hlen hl2 ⊢
  generalize l[i] = x at *
  have hb' : Has (Y6 G1 M1 ++ L) b (.cells ⟨q⟩ F fr) := Zih hb
  by_cases hx : 0 ≤ x
  ·have k1 := fun L hG => Zuk T E G1 M1 x L hG hW1 hM1 (by omega) hx hdi
   have kw := one_w M1 x
   have hrv : U9 (M1, cs) x = ((Qq M1 x).1, cs ++ [cdN (Qq M1 x).2]) := if_pos hx
   rw [hrv] at hs
   clear hrv
   generalize Qq M1 x = R at *
   obtain ⟨M2, e⟩ := R
   simp only [e1] at k1 kw hs
   generalize hH : Y6 G1 M1 ++ L = H at *
   repeat' (first | refine uN ?_ | (refine uB ?_; intro b) | (refine uP ?_ ?_ <;> (intro h; ((try simp only [zs, ne_eq, and_true, true_and, eq_self, reduceCtorEq] at h); try exact zx))) | fail)
   subst hH
   refine Uk (L' := Y6 G1 M1 ++ (c :: L)) ?_ ls_in
   refine gc (k1 _ ((hE.er [2, 3, 4, 5, 6, 8]).cons _)) ?_
   rintro v L' ⟨rfl, G2, f1, f2, f3, rfl⟩
   have kc := Zo2 T E e (Y6 G2 M2 ++ (c :: L)) (hE.mono fun b o h => Zih (Zf h)) kw.ok
   generalize hH2 : Y6 G2 M2 ++ (c :: L) = H2 at *
   repeat' (first | refine uN ?_ | refine uC (kc) ?_ | (refine uB ?_; intro b) | (refine uP ?_ ?_ <;> (intro h; ((try simp only [zs, ne_eq, and_true, true_and, eq_self, reduceCtorEq] at h); try exact zx))) | fail)
   subst hH2
   refine Uk (L' := c :: [(b, .cells ⟨[iv (cdN e)]⟩ 3)] :: (Y6 G2 M2 ++ L)) ?_ (LS.trans (LS.p1 (LS.refl _)) (LS.k ls_in'))
   refine Zea S (cdN e) hv Xu Zgq ?_
   intro v' c' hv'
   repeat' (first | refine uN ?_ | (refine uB ?_; intro b) | (refine uP ?_ ?_ <;> (intro h; ((try simp only [zs, ne_eq, and_true, true_and, eq_self, reduceCtorEq] at h); try exact zx))) | fail)
   refine Zg (i + 1, v', c', G2) uS ?_ ⟨by simp only; omega, by simp only [hs]; exact hv', by simp only [hs]; exact f3, f1.trans e1, f2.trans e2⟩ (by simp only; omega)
   simp only [hs]
   exact uL
  ·have hrv : U9 (M1, cs) x = (M1, cs ++ [-1]) := if_neg hx
   rw [hrv] at hs
   generalize hH : Y6 G1 M1 ++ L = H at *
   repeat' (first | refine uN ?_ | (refine uB ?_; intro b) | (refine uP ?_ ?_ <;> (intro h; ((try simp only [zs, ne_eq, and_true, true_and, eq_self, reduceCtorEq] at h); try exact zx))) | fail)
   subst hH
   refine fo 1 ?_
   refine Zea S (-1 : Int) hv Xu Zgq ?_
   intro v' c' hv'
   repeat' (first | refine uN ?_ | (refine uB ?_; intro b) | (refine uP ?_ ?_ <;> (intro h; ((try simp only [zs, ne_eq, and_true, true_and, eq_self, reduceCtorEq] at h); try exact zx))) | fail)
   refine Zg (i + 1, v', c', G1) uS ?_ ⟨by simp only; omega, by simp only [hs]; exact hv', by simp only [hs]; exact hW1, e1, e2⟩ (by simp only; omega)
   simp only [hs]
   exact uL
 ·obtain rfl : i = N := by omega
  rw [hfin] at hv hW1 ⊢
  repeat' (first | refine uN ?_ | (refine uB ?_; intro b) | (refine uP ?_ ?_ <;> (intro h; ((try simp only [zs, ne_eq, and_true, true_and, eq_self, reduceCtorEq] at h); try exact zx))) | fail)
  exact Yi (L' := Y6 G1 (Va M l).1 ++ (c :: L)) ls_in ⟨c, hv, G1, e1, e2, hW1, rfl⟩
end Go.HL
end

/-! SfE -/
section
namespace Go.HL
open Go Go.Proofs
set_option linter.unusedVariables false
set_option linter.unusedSimpArgs false
def SafeW (M : Wm) : Prop := ∀ d, d < 6 → ∃ g, SD M d g
theorem SafeW.of {M M' : Wm} (h : SafeW M) (hI' : WI M') (hw : M'.w = M.w) (hst : ∀ (d s : Nat), Xe (Zd M' (s : Int)).pl d = Xe (Zd M (s : Int)).pl d)
  (hld : ∀ d s : Nat, (Zd M' (s : Int)).leads.getD d none = (Zd M (s : Int)).leads.getD d none ∨ (Zd M' (s : Int)).leads.getD d none = none) (hl : ∀ f ∈ M'.l, f ∈ M.l)
  (hev : ∀ e ∈ M'.ev, e ∈ M.ev ∨ (∃ s d : Nat, s < M.w.length ∧ e.deal = d ∧ e.ph = (Xe (Zd M (s : Int)).pl d).ph ∧ fin e.ph)) : SafeW M' := fun d hd => by
 obtain ⟨g, hg⟩ := h d hd
 exact ⟨g, SD_of hI' hg hw (hst d) (hld d) (fun f hf _ => .inl (hl f hf)) fun e he => (hev e he).imp id fun ⟨s, d2, h1, h2, h3, h4⟩ hed => ⟨s, h1, by
  have : d2 = d := by omega
  rw [← this]; exact h3, h4⟩⟩
theorem getD_set_ne {l : List (Option Ld)} {i k : Nat} {o : Option Ld} (h : i ≠ k) : (l.set k o).getD i none = l.getD i none := by
 simp only [List.getD, List.getElem?_set]
 rw [if_neg (fun e => h e.symm)]
theorem Zp6 {l : List (Option Ld)} {k : Nat} {o : Option Ld} (h : k < l.length) : (l.set k o).getD k none = o := by
 simp only [List.getD, List.getElem?_set]
 simp [h]
end Go.HL
end

/-! SfF -/
section
namespace Go.HL
open Go Go.Proofs
set_option linter.unusedVariables false
set_option linter.unusedSimpArgs false
end Go.HL
end

/-! SfG -/
section
namespace Go.HL
open Go Go.Proofs
set_option linter.unusedVariables false
set_option linter.unusedSimpArgs false
structure EvW (M : Wm) : Prop where
 pw : M.ev.Pairwise fun a b => ¬ (a.site = b.site ∧ a.deal = b.deal)
 rg : ∀ e ∈ M.ev, 0 ≤ e.site ∧ e.site < M.w.length ∧ 0 ≤ e.deal ∧ e.deal < 6 ∧ fin e.ph
 dn : ∀ e ∈ M.ev, (Zd M e.site).done.getD e.deal.toNat false = true
theorem EvW.same {M M' : Wm} (h : EvW M) (hw : M'.w = M.w) (he : M'.ev = M.ev) (hd : ∀ s, (Zd M' s).done = (Zd M s).done) : EvW M' :=
 ⟨by rw [he]; exact h.pw, fun e h2 => by rw [he] at h2; rw [hw]; exact h.rg e h2, fun e h2 => by rw [he] at h2; rw [hd]; exact h.dn e h2⟩
theorem Zva {s : Int} {ph : Nat → Int} {q : List Bool × List Evt} {k : Nat} (hk : k < q.1.length) (h1 : q.2.Pairwise fun a b => ¬ (a.site = b.site ∧ a.deal = b.deal)) (h2 : ∀ e ∈ q.2, e.site = s → 0 ≤ e.deal ∧ q.1.getD e.deal.toNat false = true) :
  (Wg s ph q k).2.Pairwise (fun a b => ¬ (a.site = b.site ∧ a.deal = b.deal)) ∧ (∀ e ∈ (Wg s ph q k).2, e.site = s → 0 ≤ e.deal ∧ (Wg s ph q k).1.getD e.deal.toNat false = true) ∧ (∀ i, q.1.getD i false = true → (Wg s ph q k).1.getD i false = true) := by
 have hset : ∀ i, (q.1.set k true).getD i false = if i = k then true else q.1.getD i false := fun i => by
  simp only [List.getD, List.getElem?_set]
  by_cases e : k = i
  ·subst e; simp [hk]
  ·rw [if_neg e, if_neg (fun e2 => e e2.symm)]
 unfold Wg
 split
 ·exact ⟨h1, h2, fun i hi => hi⟩
 ·rename_i hc
  have hf : q.1.getD k false = false := by
   have e : q.1.getD k true ≠ true := fun e => hc (.inl e)
   simp only [List.getD, List.getElem?_eq_getElem hk, Option.getD_some] at e ⊢
   simpa using e
  simp only
  refine ⟨?_, fun e he hes => ?_, fun i hi => by rw [hset]; split <;> simp_all⟩
  ·split
   ·rw [List.pairwise_append]
    refine ⟨h1, List.pairwise_singleton _ _, fun a ha b hb => ?_⟩
    simp only [List.mem_singleton] at hb
    subst hb
    rintro ⟨e1, e2⟩
    simp only at e1 e2
    have := (h2 a ha e1).2
    rw [e2] at this
    simp only [Int.toNat_natCast] at this
    rw [hf] at this
    cases this
   ·exact h1
  ·rw [hset]
   split at he
   ·rcases List.mem_append.1 he with he | he
    ·exact ⟨(h2 e he hes).1, by split; rfl; exact (h2 e he hes).2⟩
    ·simp only [List.mem_singleton] at he
     subst he
     exact ⟨by simp, by simp⟩
   ·exact ⟨(h2 e he hes).1, by split; rfl; exact (h2 e he hes).2⟩
theorem Zmi {s : Int} {ph : Nat → Int} {q : List Bool × List Evt} (hq : q.1.length = 6) (h1 : q.2.Pairwise fun a b => ¬ (a.site = b.site ∧ a.deal = b.deal)) (h2 : ∀ e ∈ q.2, e.site = s → 0 ≤ e.deal ∧ q.1.getD e.deal.toNat false = true) : ∀ k, k ≤ 6 →
  (Ub s ph q k).2.Pairwise (fun a b => ¬ (a.site = b.site ∧ a.deal = b.deal)) ∧ (∀ e ∈ (Ub s ph q k).2, e.site = s → 0 ≤ e.deal ∧ (Ub s ph q k).1.getD e.deal.toNat false = true)
 | 0, _ => ⟨h1, h2⟩
 | k + 1, hk => by
  obtain ⟨a1, a2⟩ := Zmi (ph := ph) hq h1 h2 k (by omega)
  rw [U7]
  obtain ⟨b1, b2, -⟩ := Zva (ph := ph) (k := k) (by rw [Za3, hq]; omega) a1 a2
  exact ⟨b1, b2⟩
theorem EvW.note {M : Wm} (h : EvW M) (hI : WI M) {s : Int} (h0 : 0 ≤ s) (h1 : s < M.n.length) {m m' : Nd} (hm : m.done = (Zd M s).done) (hm' : m'.done = (Xb s m M.ev).1) : EvW { Yp M s m' with ev := (Xb s m M.ev).2 } := by
 have hn := hI.wn
 have hd6 : m.done.length = 6 := by rw [hm]; exact (hI.at h0 h1).done
 have hpre : ∀ e ∈ M.ev, e.site = s → 0 ≤ e.deal ∧ m.done.getD e.deal.toNat false = true := fun e he hes => ⟨(h.rg e he).2.2.1, by rw [hm, ← hes]; exact h.dn e he⟩
 have key : (Xb s m M.ev).2.Pairwise (fun a b => ¬ (a.site = b.site ∧ a.deal = b.deal)) ∧ (∀ e ∈ (Xb s m M.ev).2, e.site = s → 0 ≤ e.deal ∧ (Xb s m M.ev).1.getD e.deal.toNat false = true) := by
  unfold Xb
  split
  ·exact ⟨h.pw, hpre⟩
  ·exact Zmi hd6 h.pw hpre 6 (Nat.le_refl _)
 have hmem : ∀ e ∈ (Xb s m M.ev).2, e ∈ M.ev ∨ (e.site = s ∧ 0 ≤ e.deal ∧ e.deal < 6 ∧ fin e.ph) := fun e he => by
  rcases Zv2 he with he | ⟨j, ref, d, -, e2, rfl, e4⟩
  ·exact .inl he
  ·exact .inr ⟨rfl, by simp, by simp only; omega, e4⟩
 refine ⟨key.1, fun e he => ?_, fun e he => ?_⟩
 ·rcases hmem e he with h2 | ⟨e1, e2, e3, e4⟩
  ·exact h.rg e h2
  ·exact ⟨by omega, by rw [e1]; show s < (M.w.length : Int); omega, e2, e3, e4⟩
 ·show (Zd (Yp M s m') e.site).done.getD _ _ = true
  by_cases hes : e.site = s
  ·rw [hes, Zbi h0 h1, hm']
   exact (key.2 e he hes).2
  ·rcases hmem e he with h2 | ⟨e1, -⟩
   ·rw [Zcs (by have := (h.rg e h2).1; omega)]
    exact h.dn e h2
   ·exact absurd e1 hes
theorem EvW.set {M : Wm} (h : EvW M) {s : Int} {m : Nd} (h0 : 0 ≤ s) (h1 : s < M.n.length) (hm : m.done = (Zd M s).done) : EvW (Yp M s m) := by
 refine ⟨h.pw, h.rg, fun e he => ?_⟩
 by_cases hes : e.site = s
 ·rw [hes, Zbi h0 h1, hm, ← hes]
  exact h.dn e he
 ·rw [Zcs (by have := (h.rg e he).1; omega)]
  exact h.dn e he
theorem EvW.setL {M : Wm} (h : EvW M) (l : List Fr) : EvW { M with l := l } := ⟨h.pw, h.rg, h.dn⟩
theorem EvW.lead {M : Wm} (h : EvW M) {s : Int} (h0 : 0 ≤ s) (h1 : s < M.n.length) (ls : List (Option Ld)) (l : List Fr) : EvW { Yp M s { Zd M s with leads := ls } with l := l } := (h.set (m := { Zd M s with leads := ls }) h0 h1 rfl).setL l
theorem EvW.hear {M : Wm} (h : EvW M) (hI : WI M) {s : Int} (h0 : 0 ≤ s) (h1 : s < M.n.length) (f : Fr) : EvW (Yo M s f).1 := by
 unfold Yo
 simp only
 have e : (Y7 s (Zd M s) M.ev f).2.1 = M.ev ∧ (Y7 s (Zd M s) M.ev f).1.done = (Zd M s).done ∨ ∃ m : Nd, m.done = (Zd M s).done ∧ (Y7 s (Zd M s) M.ev f).1.done = (Xb s m M.ev).1 ∧ (Y7 s (Zd M s) M.ev f).2.1 = (Xb s m M.ev).2 := by
  unfold Y7
  split
  ·exact .inl ⟨rfl, rfl⟩
  ·rename_i j ref hs
   split
   ·exact .inl ⟨rfl, rfl⟩
   ·exact .inr ⟨⟨(Zp s ref (Zd M s).pl j f).1, some ((Zp s ref (Zd M s).pl j f).2.1, ref), (Zd M s).leads, (Zd M s).done⟩, rfl, rfl, rfl⟩
 rcases e with ⟨e1, e2⟩ | ⟨m, e1, e2, e3⟩
 ·rw [e1]
  exact h.set h0 h1 e2
 ·rw [e3]
  exact h.note hI h0 h1 e1 e2
end Go.HL
end

/-! FvA -/
section
namespace Go.HL
open Go Go.Proofs
set_option linter.unusedVariables false
def FV (T : Nat) (E : Nat → Addr) (v : Value) (code at_ : Int) (c : List Zq) : Prop := (∃ e, okE e ∧ v = eV T E e ∧ code = cdN e ∧ (e = none ∨ at_ = -1) ∧ c = []) ∨ ∃ (pb k : Nat), List.elem k all9 = true ∧ v = .iface 158 (pt pb 0) ∧ code = k ∧ c = faC pb at_ T E (some k)
theorem FV.nil {T : Nat} {E : Nat → Addr} {at_ : Int} : FV T E .nilIface 0 at_ [] := .inl ⟨none, trivial, rfl, rfl, .inl rfl, rfl⟩
theorem FV.at {T : Nat} {E : Nat → Addr} {k : Nat} (h : List.elem k all9 = true) (pb : Nat) (x : Int) : FV T E (.iface 158 (pt pb 0)) k x (faC pb x T E (some k)) := .inr ⟨pb, k, h, rfl, rfl, rfl⟩
theorem FV.zero {T : Nat} {E : Nat → Addr} {v : Value} {at_ : Int} {c : List Zq} (h : FV T E v 0 at_ c) : v = .nilIface ∧ c = [] := by
 rcases h with ⟨e, he, rfl, hc, -, rfl⟩ | ⟨pb, k, hk, -, hc, -⟩
 ·cases e with
  | none => exact ⟨rfl, rfl⟩
  | some k =>
   have : k = 0 := by simp only [cdN] at hc; omega
   subst this
   exact absurd (show List.elem 0 all9 = true from he) (by decide)
 ·have : k = 0 := by omega
  subst this
  exact absurd hk (by decide)
end Go.HL
end

/-! JgA -/
section
namespace Go.HL
open Go Go.Proofs
set_option linter.unusedVariables false
set_option linter.unusedSimpArgs false
structure Ev where
 s : Int
 d : Int
 p : Int
def evc (e : Ev) : List Value := [iv e.s, iv e.d, iv e.p]
def Zdz (p : Int) : Bool := decide (p = 2 ∨ p = 3)
def badE (sites : Int) (e : Ev) : Prop := e.s < 0 ∨ sites ≤ e.s ∨ e.d < 0 ∨ 6 ≤ e.d ∨ Zdz e.p = false
instance (sites : Int) (e : Ev) : Decidable (badE sites e) := by unfold badE; infer_instance
def spl (e : Ev) (a : Ev) : Bool := decide (a.d = e.d ∧ a.p ≠ e.p)
def twi (e : Ev) (a : Ev) : Bool := decide (a.d = e.d ∧ a.s = e.s)
def evM (sites : Int) (e : Ev) (l : List Ev) : Option Nat := if badE sites e then some 2 else if l.any (spl e) then some 9 else if l.any (twi e) then some 8 else none
def Zp4 (sites : Int) (xs : List Ev) : Nat → Option (Nat × Nat)
 | i => if h : i < xs.length then (match evM sites xs[i] (xs.take i) with
   | some c => some (i, c)
   | none => Zp4 sites xs (i + 1)) else none
 termination_by i => xs.length - i
theorem Zvm {sites : Int} {xs : List Ev} {i : Nat} (h : i < xs.length) (hc : evM sites xs[i] (xs.take i) = none) : Zp4 sites xs i = Zp4 sites xs (i + 1) := by
 rw [Zp4, dif_pos h, hc]
theorem chkM_end {sites : Int} {xs : List Ev} {i : Nat} (h : xs.length ≤ i) : Zp4 sites xs i = none := by
 rw [Zp4, dif_neg (by omega)]
set_option maxHeartbeats 2000000 attribute [local irreducible] HW HO HQ HD HC QOp Has Upd Zt Gets Yb Z6 Zr Xr Z4 Zm Xx Zy
theorem Rd.cut {α : Type} {enc : α → List Value} {sz : Nat} {L : Zb} {a : Option Addr} {l : List α} (h : Rd enc sz L a l) (i : Nat) : Rd enc sz L a (l.take i) := Rd.take h
def cfl (x : St) (a : St) : Bool := Zdz x.ph && (Zdz a.ph && decide (x.ph ≠ a.ph))
def AgI (l : List St) (ph : Int) : Prop := (ph = 0 ∧ ∀ a ∈ l, Zdz a.ph = false) ∨ (Zdz ph = true ∧ (∃ a ∈ l, a.ph = ph) ∧ ∀ a ∈ l, Zdz a.ph = true → a.ph = ph)
theorem finP_ne {p : Int} (h : Zdz p = true) : p ≠ 0 := by
 unfold Zdz at h
 have := of_decide_eq_true h
 omega
theorem AgI.first {l : List St} (h : AgI l 0) {x : St} (hx : Zdz x.ph = true) : AgI (l ++ [x]) x.ph ∧ l.any (cfl x) = false := by
 have h1 : ∀ a ∈ l, Zdz a.ph = false := by
  rcases h with ⟨_, h⟩ | ⟨h, _⟩
  ·exact h
  ·exact absurd rfl (finP_ne h)
 refine ⟨.inr ⟨hx, ⟨x, by simp, rfl⟩, fun a ha hf => ?_⟩, ?_⟩
 ·rcases List.mem_append.1 ha with ha | ha
  ·rw [h1 a ha] at hf; cases hf
  ·rw [List.mem_singleton.1 ha]
 ·rw [List.any_eq_false]
  intro a ha
  simp [cfl, h1 a ha]
theorem AgI.same {l : List St} {ph : Int} (h : AgI l ph) (h0 : ph ≠ 0) {x : St} (hx : ph = x.ph) : AgI (l ++ [x]) ph ∧ l.any (cfl x) = false := by
 rcases h with ⟨h1, _⟩ | ⟨hf, ⟨a, ha, e⟩, h2⟩
 ·exact absurd h1 h0
 refine ⟨.inr ⟨hf, ⟨a, List.mem_append_left _ ha, e⟩, fun b hb hfb => ?_⟩, ?_⟩
 ·rcases List.mem_append.1 hb with hb | hb
  ·exact h2 b hb hfb
  ·rw [List.mem_singleton.1 hb, hx]
 ·rw [List.any_eq_false]
  intro b hb
  simp only [cfl, Bool.and_eq_true, decide_eq_true_eq, not_and]
  intro _ hfb hne
  exact hne (by rw [← hx, h2 b hb hfb])
end Go.HL
end

/-! SfH -/
section
namespace Go.HL
open Go Go.Proofs
set_option linter.unusedVariables false
set_option linter.unusedSimpArgs false
theorem Zlo {sites : Int} {xs : List Ev} (h : ∀ i (hi : i < xs.length), evM sites xs[i] (xs.take i) = none) : ∀ k i, k = xs.length - i → Zp4 sites xs i = none
 | 0, i, hk => chkM_end (by omega)
 | k + 1, i, hk => by
  have hi : i < xs.length := by omega
  rw [Zvm hi (h i hi)]
  exact Zlo h k (i + 1) (by omega)
theorem take_mem {α : Type} {xs : List α} {i : Nat} {x : α} (h : x ∈ xs.take i) : ∃ k, ∃ hk : k < xs.length, k < i ∧ xs[k] = x := by
 obtain ⟨k, hk, e⟩ := List.mem_iff_getElem.1 h
 rw [List.length_take] at hk
 refine ⟨k, by omega, by omega, ?_⟩
 rw [← e, List.getElem_take]
structure WellE (n : Nat) (xs : List Ev) : Prop where
 rg : ∀ e ∈ xs, 0 ≤ e.s ∧ e.s < n ∧ 0 ≤ e.d ∧ e.d < 6 ∧ Zdz e.p = true
 pw : xs.Pairwise fun a b => ¬ (a.s = b.s ∧ a.d = b.d)
 ag : ∀ a ∈ xs, ∀ b ∈ xs, a.d = b.d → a.p = b.p
theorem evM_well {n : Nat} {xs : List Ev} (h1 : ∀ e ∈ xs, 0 ≤ e.s ∧ e.s < n ∧ 0 ≤ e.d ∧ e.d < 6 ∧ Zdz e.p = true) (h2 : xs.Pairwise fun a b => ¬ (a.s = b.s ∧ a.d = b.d)) {i : Nat} (hi : i < xs.length) (h3 : ∀ a ∈ xs.take i, a.d = xs[i].d → a.p = xs[i].p) : evM n xs[i] (xs.take i) = none := by
 have hr := h1 xs[i] (List.getElem_mem hi)
 unfold evM
 rw [if_neg (by unfold badE; rw [hr.2.2.2.2]; simp; omega)]
 rw [if_neg, if_neg]
 ·rw [Bool.not_eq_true, List.any_eq_false]
  intro a ha
  obtain ⟨k, hk, hki, rfl⟩ := take_mem ha
  have := List.pairwise_iff_getElem.1 h2 k i hk hi hki
  unfold twi
  simp only [decide_eq_true_eq]
  exact fun e => this ⟨e.2, e.1⟩
 ·rw [Bool.not_eq_true, List.any_eq_false]
  intro a ha
  unfold spl
  simp only [decide_eq_true_eq]
  exact fun e => e.2 (h3 a ha e.1)
theorem WellE.chk {n : Nat} {xs : List Ev} (h : WellE n xs) (i : Nat) : Zp4 n xs i = none :=
 Zlo (fun i hi => evM_well h.rg h.pw hi fun a ha e => h.ag a (List.mem_of_mem_take ha) xs[i] (List.getElem_mem hi) e) _ i rfl
end Go.HL
end

/-! SfI -/
section
namespace Go.HL
open Go Go.Proofs
set_option linter.unusedVariables false
set_option linter.unusedSimpArgs false
structure StpS where
 kd : List UInt8
 s : Int
 d : Int
 n : Int
def stpL (x : StpS) : List Value := [bs x.kd, iv x.s, iv x.d, iv x.n]
def Zdu (M : Wm) (x : StpS) : Wm × Option Nat :=
 if x.kd = [98, 101, 103, 105, 110] then Xk M x.s x.d else
 if x.kd = [114, 101, 102, 117, 115, 101] then Wp M x.s x.d else
 if x.kd = [116, 105, 99, 107] then Wt M x.s else
 if x.kd = [100, 111, 119, 110] then Qb M x.s else
 if x.kd = [117, 112] then Zl5 M x.s else
 if x.kd = [100, 114, 111, 112] then Uy M x.n else
 if x.kd = [116, 119, 105, 99, 101] then Vv M x.n else
 if x.kd = [108, 105, 110, 107] then Ue M x.s x.d true else
 if x.kd = [98, 114, 101, 97, 107] then Ue M x.s x.d false else
 if x.kd = [99, 117, 116] then Zdw M x.s x.n else Zw M x.n
theorem act_ok {M : Wm} (h : WI M) (x : StpS) (hn : x.n ≤ 9223372036854775807) : StepOk M (Zdu M x).1 84 := by
 unfold Zdu
 split
 ·exact (Zji h _ _).mono (by omega)
 split
 ·exact (Zlx h _ _).mono (by omega)
 split
 ·exact (Zm4 h _).mono (by omega)
 split
 ·exact (Zt3 h _).mono (by omega)
 split
 ·exact (up_ok h _).mono (by omega)
 split
 ·exact (Zt4 h _).mono (by omega)
 split
 ·exact (Zp2 h _).mono (by omega)
 split
 ·exact (Zni h _ _ _).mono (by omega)
 split
 ·exact (Zni h _ _ _).mono (by omega)
 split
 ·exact (cut_ok h _ _ hn).mono (by omega)
 ·exact (Ve h _).mono (by omega)
def RiseW (M M' : Wm) : Prop := ∀ s d : Nat, s < M.w.length → d < 6 → Zn2 (Xe (Zd M (s : Int)).pl d) (Xe (Zd M' (s : Int)).pl d)
theorem Zsq {a b c : Int} (h : Zre a b = true) (h' : Zre b c = true) : Zre a c = true := by
 unfold Zre at *
 have h1 := of_decide_eq_true h
 have h2 := of_decide_eq_true h'
 exact decide_eq_true (by omega)
theorem Zq5 {a b c : St} (h : Zn2 a b) (h' : Zn2 b c) : Zn2 a c := ⟨Int.le_trans h.1 h'.1, Int.le_trans h.2.1 h'.2.1, Zsq h.2.2 h'.2.2⟩
theorem st_ok {M : Wm} (h : WI M) {s d : Nat} (hs : s < M.w.length) (hd : d < 6) : Zlk (Xe (Zd M (s : Int)).pl d) := by
 have := (h.at (s := (s : Int)) (by omega) (by rw [h.wn]; omega)).si.st d hd
 exact this
theorem RiseW.same {M M' : Wm} (h : WI M) (hst : ∀ s d : Nat, Xe (Zd M' (s : Int)).pl d = Xe (Zd M (s : Int)).pl d) : RiseW M M' := fun s d hs hd => by
 rw [hst]
 exact V8 (st_ok h hs hd)
theorem RiseW.trans {A B C : Wm} (hw : B.w.length = A.w.length) (h : RiseW A B) (h' : RiseW B C) : RiseW A C := fun s d hs hd => Zq5 (h s d hs hd) (h' s d (by omega) hd)
theorem RiseW.left {M M1 M' : Wm} (h : RiseW M1 M') (hw : M1.w = M.w) (hst : ∀ s d : Nat, Xe (Zd M1 (s : Int)).pl d = Xe (Zd M (s : Int)).pl d) : RiseW M M' := fun s d hs hd => by
 rw [← hst]
 exact h s d (by rw [hw]; exact hs) hd
def stsW (M : Wm) (d : Nat) : List St := (List.range M.w.length).map fun (s : Nat) => Xe (Zd M (s : Int)).pl d
end Go.HL
end

/-! RlA -/
section
namespace Go.HL
open Go Go.Proofs
set_option linter.unusedVariables false
set_option linter.unusedSimpArgs false
def Zwl (aw : Option Addr) (capw : Nat) (hv : Value) (m : Ld) : List Value := [iv m.id, iv m.deal, iv m.att, .slice aw m.w.length capw, bs m.state, iv m.wait, hv, iv m.phase, iv m.seen]
def Up (lp : Nat) (aw : Option Addr) (capw : Nat) (hv : Value) (hc : List Zq) (m : Ld) : List Zq := (lp, .cells ⟨Zwl aw capw hv m⟩ 217) :: hc
def Wv (hs : List Fr) (i : Int) : Option Fr := hs.find? fun f => decide (f.fr = i)
theorem Zuy {hs : List Fr} {i : Int} {k : Nat} (h : Wv (hs.take k) i = none) (hk : k < hs.length) (hn : (hs[k]).fr ≠ i) : Wv (hs.take (k + 1)) i = none := by
 unfold Wv at *
 rw [List.take_succ_eq_append_getElem hk, List.find?_append, h]
 simp [hn]
theorem from_hit {hs : List Fr} {i : Int} {k : Nat} (h : Wv (hs.take k) i = none) (hk : k < hs.length) (hn : (hs[k]).fr = i) : Wv hs i = some hs[k] := by
 unfold Wv at *
 have e : hs.take k ++ hs.drop k = hs := List.take_append_drop _ _
 have e2 : (hs.take k ++ hs.drop k).find? (fun f => decide (f.fr = i)) = some hs[k] := by
  rw [List.find?_append, h, List.drop_eq_getElem_cons hk, List.find?_cons_of_pos (by simp [hn])]
  rfl
 rwa [e] at e2
set_option maxHeartbeats 2000000 attribute [local irreducible] HW HO HQ HD HC QOp Has Upd Zt Gets Yb Z6 Zr Xr Z4 Zm Xx Zy
theorem Qc (lp : Nat) (aw : Option Addr) (capw : Nat) (hv : Value) (hc : List Zq) (m : Ld) (kind phase : Int) (its : Bool) (L : Zb) (hw : m.w.length ≤ 7) (hits : its = decide (kind ≠ 3)) : HC Tryz.prog 145 [pt lp 0, iv kind, iv phase, .bool its] (Up lp aw capw hv hc m :: L)
  (fun v L' => ∃ c, Zx v (Zbr m kind phase) c ∧ L' = c :: Up lp aw capw hv hc m :: L) := by
 refine Za (fun _ _ => Tryz.call145 _ _) Tryz.func145 rfl Tryz.ntmps145 (Nat.le_of_ble_eq_true rfl) ?_; simp only [Zc, Nat.reduceAdd]
 repeat' (first | refine uN ?_ | refine Z7 S ?_ | refine Yt S ?_ | (refine uB ?_; intro b) | (refine uP ?_ ?_ <;> (intro h; ((try simp only [zs, ne_eq, and_true, true_and, eq_self, reduceCtorEq] at h); try exact zx))) | refine da 101 ?_ | fail)
 refine Zie ?_
 refine Zn (σ := Nat × Value × List Zq) (fun q => [(0, pt lp 0), (1, iv kind), (2, iv phase), (3, .bool its), (9, q.2.1), (10, iv q.1)]) (fun q => q.2.2 :: Up lp aw capw hv hc m :: L) (fun q => q.1 ≤ m.w.length ∧ Zx q.2.1 ((List.range q.1).flatMap (Za0 m kind phase)) q.2.2) (fun q => m.w.length - q.1) (0, Y4, []) uS (List.Sublist.refl _) ⟨by simp, Zu⟩ ?_
 rintro ⟨i, v, c⟩ ⟨hi, hv'⟩
 simp only at hi hv' ⊢
 have hle := Uf (Za0 m kind phase) (Zfe m kind phase) i
 have step : ∀ x, Za0 m kind phase i = x → (List.range (i + 1)).flatMap (Za0 m kind phase) = (List.range i).flatMap (Za0 m kind phase) ++ x := fun x hx => by rw [Zew, hx]
 by_cases hlt : i < m.w.length
 ·by_cases hid : kind = 3 ∧ (i : Int) = m.id
  ·have e : Za0 m kind phase i = [] := if_neg (by omega)
   obtain rfl : its = false := by rw [hits]; simp [hid.1]
   repeat' (first | refine uN ?_ | refine Yc S ?_ | (refine uB ?_; intro b) | (refine uP ?_ ?_ <;> (intro h; ((try simp only [zs, ne_eq, and_true, true_and, eq_self, reduceCtorEq] at h); try exact zx))) | refine da 101 ?_ | fail)
   refine Zk (i + 1, v, c) uS (List.Sublist.refl _) ⟨by simp only; omega, ?_⟩ (by simp only; omega)
   simp only
   rw [step _ e, List.append_nil]
   exact hv'
  ·have e : Za0 m kind phase i = [⟨m.id, i, m.deal, kind, m.att, false, ⟨phase, 0, 0⟩⟩] := if_pos (by omega)
   by_cases hid2 : (i : Int) = m.id
   ·obtain rfl : its = true := by rw [hits]; simp; omega
    repeat' (first | refine uN ?_ | refine Yc S ?_ | (refine uB ?_; intro b) | (refine uP ?_ ?_ <;> (intro h; ((try simp only [zs, ne_eq, and_true, true_and, eq_self, reduceCtorEq] at h); try exact zx))) | refine da 101 ?_ | fail)
    all_goals refine fo 1 ?_
    all_goals refine Zea S ⟨m.id, i, m.deal, kind, m.att, false, ⟨phase, 0, 0⟩⟩ hv' Zi Wb ?_
    all_goals intro v' c' hv2
    all_goals repeat' (first | refine uN ?_ | refine Yc S ?_ | (refine uB ?_; intro b) | (refine uP ?_ ?_ <;> (intro h; ((try simp only [zs, ne_eq, and_true, true_and, eq_self, reduceCtorEq] at h); try exact zx))) | refine da 101 ?_ | fail)
    all_goals refine Zg (i + 1, v', c') uS uL ⟨by simp only; omega, ?_⟩ (by simp only; omega)
    all_goals simp only
    all_goals rw [step _ e]
    all_goals exact hv2
   ·repeat' (first | refine uN ?_ | refine Yc S ?_ | (refine uB ?_; intro b) | (refine uP ?_ ?_ <;> (intro h; ((try simp only [zs, ne_eq, and_true, true_and, eq_self, reduceCtorEq] at h); try exact zx))) | refine da 101 ?_ | fail)
    all_goals refine fo 1 ?_
    all_goals refine Zea S ⟨m.id, i, m.deal, kind, m.att, false, ⟨phase, 0, 0⟩⟩ hv' Zi Wb ?_
    all_goals intro v' c' hv2
    all_goals repeat' (first | refine uN ?_ | refine Yc S ?_ | (refine uB ?_; intro b) | (refine uP ?_ ?_ <;> (intro h; ((try simp only [zs, ne_eq, and_true, true_and, eq_self, reduceCtorEq] at h); try exact zx))) | refine da 101 ?_ | fail)
    all_goals refine Zg (i + 1, v', c') uS uL ⟨by simp only; omega, ?_⟩ (by simp only; omega)
    all_goals simp only
    all_goals rw [step _ e]
    all_goals exact hv2
 ·repeat' (first | refine uN ?_ | refine Yc S ?_ | (refine uB ?_; intro b) | (refine uP ?_ ?_ <;> (intro h; ((try simp only [zs, ne_eq, and_true, true_and, eq_self, reduceCtorEq] at h); try exact zx))) | refine da 101 ?_ | fail)
  have hi2 : i = m.w.length := by omega
  subst hi2
  exact Yi (LS.refl _) ⟨c, hv', rfl⟩
theorem Vn (lp : Nat) (aw : Option Addr) (capw : Nat) (hv : Value) (hc : List Zq) (m : Ld) (hs : List Fr) (i : Int) (L : Zb) (hH : Zx hv hs hc) (hl : hs.length ≤ 7) : HC Tryz.prog 194 [pt lp 0, iv i] (Up lp aw capw hv hc m :: L)
  (fun v L' => v = .tuple ⟨[.agg ⟨fc ((Wv hs i).getD Ys)⟩, .bool (Wv hs i).isSome]⟩ ∧ L' = Up lp aw capw hv hc m :: L) := by
 obtain ⟨ah, caph, rfl, hcap, hR⟩ := Vec.rd hH Zi
 refine Za (fun _ _ => Tryz.call194 _ _) Tryz.func194 rfl Tryz.ntmps194 (Nat.le_of_ble_eq_true rfl) ?_; simp only [Zc, Nat.reduceAdd]
 repeat' (first | refine uN ?_ | (refine uB ?_; intro b) | (refine uP ?_ ?_ <;> (intro h; ((try simp only [zs, ne_eq, and_true, true_and, eq_self, reduceCtorEq] at h); try exact zx))) | fail)
 generalize b = b4
 refine Zn (σ := Nat) (fun k => [(0, pt lp 0), (1, iv i), (4, pt b4 0), (6, iv k)]) (fun _ => [(b4, .cells ⟨fc Ys⟩ 131)] :: Up lp aw capw (.slice ah hs.length caph) hc m :: L) (fun k => k ≤ hs.length ∧ Wv (hs.take k) i = none) (fun k => hs.length - k) 0 uS (List.Sublist.refl _) ⟨by omega, rfl⟩ ?_
 rintro k ⟨hk, hn⟩
 by_cases hlt : k < hs.length
 ·obtain ⟨bh, ih, lh, Eh, frh, hah, hbh, hgh⟩ := ((hR L).inn (lp, .cells ⟨Zwl aw capw (.slice ah hs.length caph) m⟩ 217)).at (j := (k : Int)) (by omega) (by omega)
  subst hah
  have hg0 : Gets lh (ih + (k : Int).toNat * 9) (fc hs[k]) := hgh
  by_cases hi : (hs[k]).fr = i
  ·rw [from_hit hn hlt hi]
   generalize hs[k] = x at *
   repeat' (first | refine uN ?_ | (refine uB ?_; intro b) | (refine uP ?_ ?_ <;> (intro h; ((try simp only [zs, ne_eq, and_true, true_and, eq_self, reduceCtorEq] at h); try exact zx))) | fail)
   exact Qh (L' := Up lp aw capw (.slice (some ⟨bh, ih, none⟩) hs.length caph) hc m :: L) uL ⟨rfl, rfl⟩ (hx := Wu S (hg := X1 _))
  ·have hn2 := Zuy hn hlt hi
   generalize hs[k] = x at *
   repeat' (first | refine uN ?_ | (refine uB ?_; intro b) | (refine uP ?_ ?_ <;> (intro h; ((try simp only [zs, ne_eq, and_true, true_and, eq_self, reduceCtorEq] at h); try exact zx))) | fail)
   exact Zg (k + 1) uS uL ⟨by omega, hn2⟩ (by omega)
 ·rw [List.take_of_length_le (by omega)] at hn
  rw [hn]
  repeat' (first | refine uN ?_ | (refine uB ?_; intro b) | (refine uP ?_ ?_ <;> (intro h; ((try simp only [zs, ne_eq, and_true, true_and, eq_self, reduceCtorEq] at h); try exact zx))) | fail)
  exact Qh (L' := Up lp aw capw (.slice ah hs.length caph) hc m :: L) uL ⟨rfl, rfl⟩ (hx := Wu S (hg := X1 _))
end Go.HL
end

/-! RlB -/
section
namespace Go.HL
open Go Go.Proofs
set_option linter.unusedVariables false
set_option linter.unusedSimpArgs false
def Zle (h : Nat) : Nat → Nat
 | 0 => 0
 | n + 1 => Zle h n + h / 2 ^ n % 2
theorem cnt_full : ∀ n < 8, ∀ h < 2 ^ n, Zle h n = n ↔ h = 2 ^ n - 1 := by decide +kernel
theorem cnt_or : ∀ n < 8, ∀ h < 2 ^ n, ∀ k < n, h / 2 ^ k % 2 = 0 → Zle (h ||| 2 ^ k) n = Zle h n + 1 := by decide +kernel
theorem rbit_or : ∀ h < 128, ∀ k < 7, ∀ i < 7, (h ||| 2 ^ k) / 2 ^ i % 2 = if i = k then 1 else h / 2 ^ i % 2 := by decide +kernel
theorem Zpd : ∀ n, Zle 0 n = 0
 | 0 => rfl
 | n + 1 => by simp [Zle, Zpd n]
structure RelH (m : Ld) (hs : List Fr) : Prop where
 w7 : m.w.length ≤ 7
 tl : m.told.length = 7
 lt : m.heard < 2 ^ m.w.length
 bit : ∀ i < m.w.length, m.heard / 2 ^ i % 2 = 1 ↔ (Wv hs i).isSome = true
 told : ∀ i < m.w.length, ∀ f, Wv hs i = some f → m.told.getD i Ww = f.s
 cnt : hs.length = Zle m.heard m.w.length
theorem RelH.of {m m' : Ld} {hs : List Fr} (h : RelH m hs) (e1 : m'.w = m.w) (e2 : m'.told = m.told) (e3 : m'.heard = m.heard) : RelH m' hs := by
 obtain ⟨a, b, c, d, e, f⟩ := h
 exact ⟨by rw [e1]; exact a, by rw [e2]; exact b, by rw [e1, e3]; exact c, by rw [e1, e3]; exact d, by rw [e1, e2]; exact e, by rw [e1, e3]; exact f⟩
theorem RelH.new {m : Ld} (h7 : m.w.length ≤ 7) (ht : m.told.length = 7) (h0 : m.heard = 0) : RelH m [] := by
 refine ⟨h7, ht, by rw [h0]; exact Nat.two_pow_pos _, fun i _ => ?_, fun i _ f h => by simp [Wv] at h, by rw [h0, Zpd]; rfl⟩
 rw [h0]; simp [Wv]
theorem RelH.prep {m : Ld} {hs : List Fr} (h : RelH m hs) (p : Int) : RelH (U3 m p) [] := RelH.new h.w7 h.tl rfl
theorem RelH.le7 {m : Ld} {hs : List Fr} (h : RelH m hs) : hs.length ≤ m.w.length := by
 have key : ∀ n h, Zle h n ≤ n := by
  intro n h
  induction n with
  | zero => simp [Zle]
  | succ n ih => simp only [Zle]; omega
 rw [h.cnt]; exact key _ _
theorem Zg6 (hs : List Fr) (f : Fr) (i : Int) : Wv (hs ++ [f]) i = (Wv hs i).or (if f.fr = i then some f else none) := by
 unfold Wv
 rw [List.find?_append]
 by_cases h : f.fr = i <;> simp [h]
theorem RelH.m2 {m : Ld} {hs : List Fr} {f : Fr} (h : RelH m hs) (hf : Xn m f) : RelH (U2 m f) (hs ++ [f]) := by
 obtain ⟨h1, h2, h3, h4, h5, h6, h7⟩ := hf
 obtain ⟨k, hk⟩ := Int.eq_ofNat_of_zero_le h5
 rw [hk] at h6 h7
 have hkl : k < m.w.length := by omega
 simp only [Int.toNat_natCast] at h7
 have hw : (U2 m f).w = m.w := by unfold U2 Qn; split <;> rfl
 have hh : (U2 m f).heard = m.heard ||| 2 ^ k := by show m.heard ||| 2 ^ f.fr.toNat = _; rw [hk]; rfl
 have ht : (U2 m f).told = m.told.set k f.s := by show m.told.set f.fr.toNat f.s = _; rw [hk]; rfl
 have h128 : m.heard < 128 := Nat.lt_of_lt_of_le h.lt (by have := Nat.pow_le_pow_right (n := 2) (by decide) h.w7; simpa using this)
 have hno : Wv hs k = none := by
  have := (h.bit k hkl)
  cases hq : Wv hs k with
  | none => rfl
  | some g => rw [hq] at this; have := this.2 rfl; omega
 refine ⟨by rw [hw]; exact h.w7, by rw [ht]; simp [h.tl], by rw [hw, hh]; exact Ze5 h.lt hkl, fun i hi => ?_, fun i hi g hg => ?_, ?_⟩
 ·rw [hw] at hi
  rw [hh, rbit_or m.heard h128 k (by have := h.w7; omega) i (by have := h.w7; omega), Zg6, hk]
  by_cases hik : i = k
  ·subst hik; simp
  ·rw [if_neg hik, if_neg (by omega), h.bit i hi]
   simp
 ·rw [hw] at hi
  rw [Zg6, hk] at hg
  rw [ht]
  by_cases hik : i = k
  ·subst hik
   rw [hno] at hg
   simp at hg
   subst hg
   have := h.tl
   have := h.w7
   simp [List.getD, h.tl, show i < 7 by omega]
  ·rw [if_neg (by omega)] at hg
   have := h.told i hi g (by simpa using hg)
   simp only [List.getD] at this ⊢
   rw [List.getElem?_set_ne (by omega)]
   exact this
 ·rw [hw, hh, cnt_or m.w.length (by have := h.w7; omega) m.heard h.lt k hkl h7, List.length_append, h.cnt]
  rfl
def Xq (m : Ld) (hs : List Fr) : List Fr :=
 if m.wait = 2 ∧ m.heard = 2 ^ m.w.length - 1 then [] else
 if m.wait = 2 ∨ (Xt m.w m.heard).1 = false then hs else
 if m.wait = 6 then hs else
 if (Yk (Xg m)).2 then hs else []
def U1 (m : Ld) (hs : List Fr) (f : Fr) : List Fr :=
 if m.wait = 0 ∨ ¬ Xn m f then hs else
 if f.yes = false then hs else Xq (U2 m f) (hs ++ [f])
theorem RelH.done {m : Ld} {hs : List Fr} (h : RelH m hs) : RelH (Vh m) hs := h.of rfl rfl rfl
theorem RelH.count {m : Ld} {hs : List Fr} (h : RelH m hs) : RelH (Z9 m).1 (Xq m hs) := by
 unfold Z9 Xq
 split
 ·exact h.prep _
 split
 ·exact h
 split
 ·exact h.done
 split
 ·exact h.done
 ·exact h.prep _
theorem RelH.hear {m : Ld} {hs : List Fr} (h : RelH m hs) (f : Fr) : RelH (Zs m f).1 (U1 m hs f) := by
 unfold Zs U1
 split
 ·exact h
 ·rename_i hw
  have hfit : Xn m f := Decidable.not_not.1 fun h0 => hw (.inr h0)
  split
  ·unfold Zwh
   have h1 : RelH (Qn m f) hs := by unfold Qn; split; exact h; exact h.of rfl rfl rfl
   split
   ·exact h1.done
   ·exact h1.of rfl rfl rfl
  ·exact (h.m2 hfit).count
set_option maxHeartbeats 2000000 attribute [local irreducible] HW HO HQ HD HC QOp Has Upd Zt Gets Yb Z6 Zr Xr Z4 Zm Xx Zy
theorem Zfk (lp : Nat) (aw : Option Addr) (capw : Nat) (hv : Value) (hc : List Zq) (m : Ld) (L : Zb) (hw : m.w.length ≤ 7) : HC Tryz.prog 142 [pt lp 0] (Up lp aw capw hv hc m :: L)
  (fun v L' => ∃ c, Zx v (Xd m) c ∧ L' = c :: Up lp aw capw hv hc m :: L) := by
 unfold Xd
 refine Za (fun _ _ => Tryz.call142 _ _) Tryz.func142 rfl Tryz.ntmps142 (Nat.le_of_ble_eq_true rfl) ?_; simp only [Zc, Nat.reduceAdd]
 repeat' (first | refine uN ?_ | (refine uP ?_ ?_ <;> (intro h; ((try simp only [zs, ne_eq, and_true, true_and, eq_self, reduceCtorEq] at h); try exact zx))) | fail)
 ·refine gc (Qc lp aw capw hv hc m 1 0 true L hw rfl) ?_
  rintro v L' ⟨c, hv2, rfl⟩
  repeat' (first | refine uN ?_ | (refine uP ?_ ?_ <;> (intro h; ((try simp only [zs, ne_eq, and_true, true_and, eq_self, reduceCtorEq] at h); try exact zx))) | fail)
  exact Yi (LS.refl _) ⟨c, by rw [if_pos h]; exact hv2, rfl⟩
 ·refine gc (Qc lp aw capw hv hc m 3 0 false L hw rfl) ?_
  rintro v L' ⟨c, hv2, rfl⟩
  repeat' (first | refine uN ?_ | (refine uP ?_ ?_ <;> (intro h; ((try simp only [zs, ne_eq, and_true, true_and, eq_self, reduceCtorEq] at h); try exact zx))) | fail)
  exact Yi (LS.refl _) ⟨c, by rw [if_neg h]; exact hv2, rfl⟩
theorem Zaw (lp : Nat) (aw : Option Addr) (capw : Nat) (hv : Value) (hc : List Zq) (m : Ld) (phase : Int) (L : Zb) (hw : m.w.length ≤ 7) : HC Tryz.prog 195 [pt lp 0, iv phase] (Up lp aw capw hv hc m :: L)
  (fun v L' => ∃ c, Zx v (Zbr (Vh m) 7 phase) c ∧ L' = c :: Up lp aw capw hv hc (Vh m) :: L) := by
 refine Za (fun _ _ => Tryz.call195 _ _) Tryz.func195 rfl Tryz.ntmps195 (Nat.le_of_ble_eq_true rfl) ?_; simp only [Zc, Nat.reduceAdd]
 repeat' (first | refine uN ?_)
 refine gc (Qc lp aw capw hv hc (Vh m) 7 phase true L hw rfl) ?_
 rintro v L' ⟨c, hv2, rfl⟩
 repeat' (first | refine uN ?_)
 exact Yi (LS.refl _) ⟨c, hv2, rfl⟩
theorem Q8 (lp : Nat) (aw : Option Addr) (capw : Nat) (hv : Value) (hc : List Zq) (m : Ld) (hs : List Fr) (phase : Int) (L : Zb) (hw : m.w.length ≤ 7) (hH : Zx hv hs hc) : HC Tryz.prog 196 [pt lp 0, iv phase] (Up lp aw capw hv hc m :: L)
  (fun v L' => ∃ c, Zx v (Zbr (U3 m phase) 5 phase) c ∧ L' = c :: Up lp aw capw Y4 [] (U3 m phase) :: L) := by
 obtain ⟨ah, caph, rfl, hcap, hR⟩ := Vec.rd hH Zi
 refine Za (fun _ _ => Tryz.call196 _ _) Tryz.func196 rfl Tryz.ntmps196 (Nat.le_of_ble_eq_true rfl) ?_; simp only [Zc, Nat.reduceAdd]
 repeat' (first | refine uN ?_)
 refine Uk (L' := Up lp aw capw Y4 [] (U3 m phase) :: L) ?_ (LS.both _ (LS.skips hc (LS.refl _)))
 refine gc (Qc lp aw capw Y4 [] (U3 m phase) 5 phase true L hw rfl) ?_
 rintro v L' ⟨c, hv2, rfl⟩
 repeat' (first | refine uN ?_)
 exact Yi (LS.refl _) ⟨c, hv2, rfl⟩
end Go.HL
end

/-! RlC -/
section
namespace Go.HL
open Go Go.Proofs
set_option linter.unusedVariables false
set_option linter.unusedSimpArgs false
theorem Zfg {m : Ld} {hs : List Fr} {f : Fr} (h : RelH m hs) (h0 : 0 ≤ f.fr) (h1 : f.fr < m.w.length) : (Wv hs f.fr).isSome = decide (m.heard / 2 ^ f.fr.toNat % 2 = 1) := by
 obtain ⟨k, hk⟩ := Int.eq_ofNat_of_zero_le h0
 rw [hk] at h1 ⊢
 have := h.bit k (by omega)
 simp only [Int.toNat_natCast]
 by_cases hb : m.heard / 2 ^ k % 2 = 1
 ·rw [decide_eq_true hb, this.1 hb]
 ·rw [decide_eq_false hb]
  cases hq : (Wv hs k).isSome with
  | false => rfl
  | true => exact absurd (this.2 hq) hb
def Zqm (m : Ld) (f : Fr) : Prop := f.kd = m.wait ∧ f.dl = m.deal ∧ f.att = m.att ∧ f.to = m.id ∧ 0 ≤ f.fr ∧ f.fr < m.w.length
theorem LS.rl {x : Zq} {c : List Zq} {L : Zb} : LS (c :: [x] :: L).flatten ((x :: c) :: L).flatten := LS.of_perm (by simp only [List.flatten_cons, List.cons_append, List.nil_append]; exact List.perm_middle)
theorem LS.lr {x : Zq} {c : List Zq} {L : Zb} : LS ((x :: c) :: L).flatten (c :: [x] :: L).flatten := LS.of_perm (by simp only [List.flatten_cons, List.cons_append, List.nil_append]; exact List.perm_middle.symm)
theorem ho_rl {P : Program} {n : Nat} {ops l : List Oper} {Q : Exit → Z3 → Zb → Prop} {ρ : Z3} {x : Zq} {c : List Zq} {L : Zb} (h : HO P n ops Q l ρ (c :: [x] :: L)) : HO P n ops Q l ρ ((x :: c) :: L) := Uk h LS.rl
theorem hw_lr {P : Program} {n : Nat} {k : Code} {Q : Exit → Z3 → Zb → Prop} {ρ : Z3} {x : Zq} {c : List Zq} {L : Zb} (h : HW P n k Q ρ ((x :: c) :: L)) : HW P n k Q ρ (c :: [x] :: L) := Wi h LS.lr
set_option maxHeartbeats 2000000 attribute [local irreducible] HW HO HQ HD HC QOp Has Upd Zt Gets Yb Z6 Zr Xr Z4 Zm Xx Zy
set_option maxHeartbeats 2000000 in
theorem Zot (lp : Nat) (aw : Option Addr) (capw : Nat) (hv : Value) (hc : List Zq) (m : Ld) (hs : List Fr) (f : Fr) (L : Zb) (hR : Rd ic 1 L aw m.w) (hck : Yw m.w = none) (hH : Zx hv hs hc) (rel : RelH m hs) (hq : m.wait = 0 ∨ ¬ Xn m f ∨ f.yes = false) :
  HC Tryz.prog 147 [pt lp 0, .agg ⟨fc f⟩] (Up lp aw capw hv hc m :: L) (fun v L' => ∃ c hv' hc', Zx v (Zs m f).2 c ∧ Zx hv' (U1 m hs f) hc' ∧ L' = c :: Up lp aw capw hv' hc' (Zs m f).1 :: L) := by
 have hw7 := rel.w7
 have hl7 := rel.le7
 by_cases h0 : m.wait = 0 ∨ ¬ Zqm m f
 ·have hn : m.wait = 0 ∨ ¬ Xn m f := h0.imp_right fun h hf => h ⟨hf.1, hf.2.1, hf.2.2.1, hf.2.2.2.1, hf.2.2.2.2.1, hf.2.2.2.2.2.1⟩
  have e1 : Zs m f = (m, []) := if_pos hn
  have e2 : U1 m hs f = hs := if_pos hn
  rw [e1, e2]
  unfold Zqm at h0
  refine Za (fun _ _ => Tryz.call147 _ _) Tryz.func147 rfl Tryz.ntmps147 (Nat.le_of_ble_eq_true rfl) ?_; simp only [Zc, Nat.reduceAdd]
  repeat' (first | refine uN ?_ | refine Z7 S ?_ | refine Yt S ?_ | (refine uB ?_; intro b) | (refine uP ?_ ?_ <;> (intro h; ((try simp only [zs, ne_eq, and_true, true_and, eq_self, reduceCtorEq] at h); try exact zx))) | refine da 101 ?_ | fail)
  all_goals first | exact Yi (L' := [] :: Up lp aw capw hv hc m :: L) uL ⟨[], hv, hc, Zu, hH, rfl⟩ | (exfalso; omega)
 have hw0 : ¬ m.wait = 0 := fun h => h0 (.inl h)
 have hf0 : Zqm m f := Classical.not_not.1 fun h => h0 (.inr h)
 clear h0
 have kf := fun L => Vn lp aw capw hv hc m hs f.fr L hH (by omega)
 have hfb := Zfg rel hf0.2.2.2.2.1 hf0.2.2.2.2.2
 rw [hfb] at kf
 by_cases hb : m.heard / 2 ^ f.fr.toNat % 2 = 1
 ·have hn : m.wait = 0 ∨ ¬ Xn m f := .inr fun hf => by have := hf.2.2.2.2.2.2; omega
  have e1 : Zs m f = (m, []) := if_pos hn
  have e2 : U1 m hs f = hs := if_pos hn
  rw [e1, e2]
  rw [decide_eq_true hb] at kf
  unfold Zqm at hf0
  refine Za (fun _ _ => Tryz.call147 _ _) Tryz.func147 rfl Tryz.ntmps147 (Nat.le_of_ble_eq_true rfl) ?_; simp only [Zc, Nat.reduceAdd]
  repeat' (first | refine uN ?_ | refine Z7 S ?_ | refine Yt S ?_ | refine We (qC (Yx kf 1)) ?_ | refine Qi (qC (Yx kf 1)) ?_ | refine Yd (fun _ => Yx kf 1) ?_ | refine Yf (fun _ => Yx kf 1) ?_ | refine Ye (fun _ => Yx kf 1) ?_ | refine Yh (fun _ => Yx kf 1) ?_ | (refine uB ?_; intro b) | (refine uP ?_ ?_ <;> (intro h; ((try simp only [zs, ne_eq, and_true, true_and, eq_self, reduceCtorEq] at h); try exact zx))) | refine da 101 ?_ | fail)
  exact Yi (L' := [] :: Up lp aw capw hv hc m :: L) uL ⟨[], hv, hc, Zu, hH, rfl⟩
 have hfit : Xn m f := ⟨hf0.1, hf0.2.1, hf0.2.2.1, hf0.2.2.2.1, hf0.2.2.2.2.1, hf0.2.2.2.2.2, by omega⟩
 rw [decide_eq_false hb] at kf
 have hn : ¬ (m.wait = 0 ∨ ¬ Xn m f) := fun h => h.elim hw0 (fun h => h hfit)
 unfold Zqm at hf0
 unfold Zs U1
 rw [if_neg hn, if_neg hn]
 by_cases hy : f.yes = false
 ·rw [if_pos hy, if_pos hy]
  have hm1w : (Qn m f).w = m.w := by unfold Qn; split <;> rfl
  unfold Zwh
  by_cases hk2 : f.kd = 2
  ·have e1 : Qn m f = m := if_pos hk2
   rw [e1, if_pos (by omega)]
   have kd := fun L => Zaw lp aw capw hv hc m 3 L hw7
   refine Za (fun _ _ => Tryz.call147 _ _) Tryz.func147 rfl Tryz.ntmps147 (Nat.le_of_ble_eq_true rfl) ?_; simp only [Zc, Nat.reduceAdd]
   repeat' (first | refine uN ?_ | refine Z7 S ?_ | refine Yt S ?_ | refine We (qC (Yx kf 1)) ?_ | refine Qi (qC (Yx kf 1)) ?_ | refine Yd (fun _ => Yx kf 1) ?_ | refine Yf (fun _ => Yx kf 1) ?_ | refine Ye (fun _ => Yx kf 1) ?_ | refine Yh (fun _ => Yx kf 1) ?_ | (refine uB ?_; intro b) | (refine uP ?_ ?_ <;> (intro h; ((try simp only [zs, ne_eq, and_true, true_and, eq_self, reduceCtorEq] at h); try exact zx))) | refine da 101 ?_ | fail)
   all_goals (try exact absurd (hy.symm.trans (by assumption : f.yes = true)) (by decide))
   refine fo 2 ?_
   refine gc (kd _) ?_
   rintro v L' ⟨c, hv2, rfl⟩
   repeat' (first | refine uN ?_ | refine Z7 S ?_ | refine Yt S ?_ | (refine uB ?_; intro b) | (refine uP ?_ ?_ <;> (intro h; ((try simp only [zs, ne_eq, and_true, true_and, eq_self, reduceCtorEq] at h); try exact zx))) | refine da 101 ?_ | fail)
   exact Yi (L' := c :: Up lp aw capw hv hc (Vh m) :: L) uL ⟨c, hv, hc, hv2, hH, rfl⟩
  ·have hw2 : ¬ (Qn m f).wait = 2 := by unfold Qn; rw [if_neg hk2]; show ¬ m.wait = 2; omega
   rw [if_neg hw2]
   by_cases hgt : m.seen < f.s.pr
   ·have e1 : Qn m f = { m with seen := f.s.pr } := by unfold Qn; rw [if_neg hk2, show max m.seen f.s.pr = f.s.pr by omega]
    rw [e1]
    refine Za (fun _ _ => Tryz.call147 _ _) Tryz.func147 rfl Tryz.ntmps147 (Nat.le_of_ble_eq_true rfl) ?_; simp only [Zc, Nat.reduceAdd]
    repeat' (first | refine uN ?_ | refine Z7 S ?_ | refine Yt S ?_ | refine We (qC (Yx kf 1)) ?_ | refine Qi (qC (Yx kf 1)) ?_ | refine Yd (fun _ => Yx kf 1) ?_ | refine Yf (fun _ => Yx kf 1) ?_ | refine Ye (fun _ => Yx kf 1) ?_ | refine Yh (fun _ => Yx kf 1) ?_ | (refine uB ?_; intro b) | (refine uP ?_ ?_ <;> (intro h; ((try simp only [zs, ne_eq, and_true, true_and, eq_self, reduceCtorEq] at h); try exact zx))) | refine da 101 ?_ | fail)
    all_goals (try exact absurd (hy.symm.trans (by assumption : f.yes = true)) (by decide))
    exact Yi (L' := [] :: Up lp aw capw hv hc { m with state := Qg, wait := 0, seen := f.s.pr } :: L) uL ⟨[], hv, hc, Zu, hH, rfl⟩
   ·have e1 : Qn m f = m := by unfold Qn; rw [if_neg hk2, show max m.seen f.s.pr = m.seen by omega]
    rw [e1]
    refine Za (fun _ _ => Tryz.call147 _ _) Tryz.func147 rfl Tryz.ntmps147 (Nat.le_of_ble_eq_true rfl) ?_; simp only [Zc, Nat.reduceAdd]
    repeat' (first | refine uN ?_ | refine Z7 S ?_ | refine Yt S ?_ | refine We (qC (Yx kf 1)) ?_ | refine Qi (qC (Yx kf 1)) ?_ | refine Yd (fun _ => Yx kf 1) ?_ | refine Yf (fun _ => Yx kf 1) ?_ | refine Ye (fun _ => Yx kf 1) ?_ | refine Yh (fun _ => Yx kf 1) ?_ | (refine uB ?_; intro b) | (refine uP ?_ ?_ <;> (intro h; ((try simp only [zs, ne_eq, and_true, true_and, eq_self, reduceCtorEq] at h); try exact zx))) | refine da 101 ?_ | fail)
    all_goals (try exact absurd (hy.symm.trans (by assumption : f.yes = true)) (by decide))
    exact Yi (L' := [] :: Up lp aw capw hv hc { m with state := Qg, wait := 0 } :: L) uL ⟨[], hv, hc, Zu, hH, rfl⟩
 ·exact absurd (hq.elim (fun h => absurd (.inl h) hn) (fun h => h.elim (fun h => absurd (.inr h) hn) id)) hy
end Go.HL
end

/-! RlD -/
section
namespace Go.HL
open Go Go.Proofs
set_option linter.unusedVariables false
set_option linter.unusedSimpArgs false
theorem Zku (h i : Nat) : h % 2 ^ (i + 1) = h % 2 ^ i + 2 ^ i * (h / 2 ^ i % 2) := by
 rw [Nat.pow_succ, Nat.mod_mul]
set_option maxHeartbeats 2000000 attribute [local irreducible] HW HO HQ HD HC QOp Has Upd Zt Gets Yb Z6 Zr Xr Z4 Zm Xx Zy
set_option maxHeartbeats 2000000 in
theorem Zss (lp : Nat) (aw : Option Addr) (capw : Nat) (hv : Value) (hc : List Zq) (m : Ld) (hs : List Fr) (f : Fr) (L : Zb) (hR : Rd ic 1 L aw m.w) (hck : Yw m.w = none) (hH : Zx hv hs hc) (rel : RelH m hs) (hw : m.wait ≠ 0) (hfit : Xn m f) (hy : f.yes = true) (hkd : f.kd = 2) :
  HC Tryz.prog 147 [pt lp 0, .agg ⟨fc f⟩] (Up lp aw capw hv hc m :: L) (fun v L' => ∃ c hv' hc', Zx v (Zs m f).2 c ∧ Zx hv' (U1 m hs f) hc' ∧ L' = c :: Up lp aw capw hv' hc' (Zs m f).1 :: L) := by
 have rel2 := rel.m2 hfit
 have hl2 := rel2.le7
 have hw72 := rel2.w7
 have e0 : Qn m f = m := if_pos hkd
 have hm2 : U2 m f = { m with heard := m.heard ||| 2 ^ f.fr.toNat, told := m.told.set f.fr.toNat f.s } := by unfold U2; rw [e0]
 have eh : Zs m f = Z9 (U2 m f) := by unfold Zs; rw [if_neg (fun h => h.elim hw (fun h => h hfit)), if_neg (by rw [hy]; decide)]
 have eh2 : U1 m hs f = Xq (U2 m f) (hs ++ [f]) := by unfold U1; rw [if_neg (fun h => h.elim hw (fun h => h hfit)), if_neg (by rw [hy]; decide)]
 rw [eh, eh2]
 have kf := fun L => Vn lp aw capw hv hc m hs f.fr L hH (by have := rel.le7; have := rel.w7; omega)
 rw [Zfg rel hfit.2.2.2.2.1 hfit.2.2.2.2.2.1, decide_eq_false (by have := hfit.2.2.2.2.2.2; omega)] at kf
 have hf0 := hfit
 unfold Xn at hf0
 have hw7 := rel.w7
 have hl7 := rel.le7
 generalize hM : U2 m f = m2 at *
 have em : ∀ v' c', Up lp aw capw v' c' m2 = (lp, .cells ⟨Zwl aw capw v' m⟩ 217) :: c' := fun v' c' => by rw [hm2]; rfl
 have ew : m2.w = m.w := by rw [hm2]
 have ek : m2.wait = 2 := by rw [hm2]; show m.wait = 2; omega
 refine Za (fun _ _ => Tryz.call147 _ _) Tryz.func147 rfl Tryz.ntmps147 (Nat.le_of_ble_eq_true rfl) ?_; simp only [Zc, Nat.reduceAdd]
 repeat apply Ziq
 apply Zba
 refine wb (fun b3 => ?_)
 repeat' (first | refine uN ?_ | refine Z7 S ?_ | refine Yt S ?_ | refine We (qC (Yx kf 1)) ?_ | refine Qi (qC (Yx kf 1)) ?_ | refine Yd (fun _ => Yx kf 1) ?_ | refine Yf (fun _ => Yx kf 1) ?_ | refine Ye (fun _ => Yx kf 1) ?_ | refine Yh (fun _ => Yx kf 1) ?_ | (refine uB ?_; intro b) | (refine uP ?_ ?_ <;> (intro h; ((try simp only [zs, ne_eq, and_true, true_and, eq_self, reduceCtorEq] at h); try exact zx))) | refine da 101 ?_ | fail)
 all_goals (try exact absurd ((by assumption : f.yes = false).symm.trans hy) (by decide))
 refine fo 3 ?_
 refine ho_rl ?_
 refine Zea S f hH Zi Wb ?_
 intro v1 c1 hv1
 obtain ⟨a1, p1, rfl, -, -⟩ := Vec.rd hv1 Zi
 repeat' (first | refine uN ?_ | refine Z7 S ?_ | refine Yt S ?_ | (refine uB ?_; intro b) | (refine uP ?_ ?_ <;> (intro h; ((try simp only [zs, ne_eq, and_true, true_and, eq_self, reduceCtorEq] at h); try exact zx))) | refine da 101 ?_ | fail)
 refine Wi (L' := c1 :: [(lp, .cells ⟨Zwl aw capw (.slice a1 (hs ++ [f]).length p1) m⟩ 217)] :: [] :: [(b3, .cells ⟨fc f⟩ 131)] :: L) ?_ uL
 refine hw_lr ?_
 rw [← em]
 generalize hvv : Value.slice a1 (hs ++ [f]).length p1 = v1 at *
 have kf2 := fun i L => Vn lp aw capw v1 c1 m2 (hs ++ [f]) i L hv1 (by omega)
 refine Wi (L' := [] :: Up lp aw capw v1 c1 m2 :: [(b3, .cells ⟨fc f⟩ 131)] :: L) ?_ uL
 refine Zn (σ := Nat × Value × List Zq) (fun q => [(0, pt lp 0), (3, pt b3 0), (8, iv ((m2.heard % 2 ^ q.1 : Nat) : Int)), (9, q.2.1), (10, iv q.1)]) (fun q => q.2.2 :: Up lp aw capw v1 c1 m2 :: [(b3, .cells ⟨fc f⟩ 131)] :: L) (fun q => q.1 ≤ m2.w.length ∧ Vec 43 3 sc q.2.1 ((List.range q.1).flatMap (Wj m2)) q.2.2) (fun q => m2.w.length - q.1) (0, Y4, []) ?_ (List.Sublist.refl _) ⟨by simp, Zu⟩ ?_
 ·simp only [Nat.pow_zero, Nat.mod_one]
  exact uS
 rintro ⟨i, vS, cS⟩ ⟨hi, hS⟩
 simp only at hi hS ⊢
 have hle := Wh (Wj m2) (Zbz m2) i
 have hms := Zku m2.heard i
 have hmlt : m2.heard % 2 ^ i < 2 ^ i := Nat.mod_lt _ (Nat.two_pow_pos i)
 by_cases hlt : i < m2.w.length
 ·have kt := fun L => Za7 i (by omega) L
  have et : (2 : Int) ^ i = ((2 ^ i : Nat) : Int) := by simp
  rw [et] at kt
  have hp7 : 2 ^ i ≤ 128 := by
   have := Nat.pow_le_pow_right (n := 2) (by decide) (show i ≤ 7 by omega)
   simpa using this
  have hbi := rel2.bit i hlt
  by_cases hb : m2.heard / 2 ^ i % 2 = 1
  ·obtain ⟨g, hg⟩ := Option.isSome_iff_exists.1 (hbi.1 hb)
   have hgs := rel2.told i hlt g hg
   have kfi := fun L => kf2 i L
   rw [hg] at kfi
   have e1 : Wj m2 i = [g.s] := by unfold Wj; rw [if_pos hb, hgs]
   have e2 : (List.range (i + 1)).flatMap (Wj m2) = (List.range i).flatMap (Wj m2) ++ [g.s] := by rw [Wf, e1]
   rw [hb, Nat.mul_one] at hms
   generalize 2 ^ i = z at *
   simp only [Option.getD_some, Option.isSome_some] at kfi
   repeat' (first | refine uN ?_ | refine Z7 S ?_ | refine Yt S ?_ | refine We (qC (Yx kfi 1)) ?_ | refine Qi (qC (Yx kfi 1)) ?_ | refine uC (kt _) ?_ | refine Yd (fun _ => Yx kfi 1) ?_ | refine Yf (fun _ => Yx kfi 1) ?_ | refine Ye (fun _ => Yx kfi 1) ?_ | refine Yh (fun _ => Yx kfi 1) ?_ | refine Yd (fun _ => kt _) ?_ | refine Yf (fun _ => kt _) ?_ | refine Ye (fun _ => kt _) ?_ | refine Yh (fun _ => kt _) ?_ | (refine uB ?_; intro b) | (refine uP ?_ ?_ <;> (intro h; ((try simp only [zs, ne_eq, and_true, true_and, eq_self, reduceCtorEq] at h); try exact zx))) | refine da 101 ?_ | fail)
   refine fo 2 ?_
   refine Zea S g.s hS Q3 Zn3 ?_
   intro v' c' hv'
   rw [← e2] at hv'
   repeat' (first | refine uN ?_ | refine Z7 S ?_ | refine Yt S ?_ | (refine uB ?_; intro b) | (refine uP ?_ ?_ <;> (intro h; ((try simp only [zs, ne_eq, and_true, true_and, eq_self, reduceCtorEq] at h); try exact zx))) | refine da 101 ?_ | fail)
   refine Zg (i + 1, v', c') ?_ uL ⟨by simp only; omega, hv'⟩ (by simp only; omega)
   simp only
   rw [hms, Int.natCast_add]
   exact uS
  ·have hno : Wv (hs ++ [f]) i = none := by
    cases hq : Wv (hs ++ [f]) i with
    | none => rfl
    | some g => exact absurd (hbi.2 (by rw [hq]; rfl)) hb
   have kfi := fun L => kf2 i L
   rw [hno] at kfi
   have e1 : Wj m2 i = [] := by unfold Wj; rw [if_neg hb]
   have e2 : (List.range (i + 1)).flatMap (Wj m2) = (List.range i).flatMap (Wj m2) := by rw [Wf, e1, List.append_nil]
   rw [show m2.heard / 2 ^ i % 2 = 0 by omega, Nat.mul_zero, Nat.add_zero] at hms
   simp only [Option.getD_none, Option.isSome_none] at kfi
   repeat' (first | refine uN ?_ | refine Z7 S ?_ | refine Yt S ?_ | refine We (qC (Yx kfi 1)) ?_ | refine Qi (qC (Yx kfi 1)) ?_ | refine uC (kt _) ?_ | refine Yd (fun _ => Yx kfi 1) ?_ | refine Yf (fun _ => Yx kfi 1) ?_ | refine Ye (fun _ => Yx kfi 1) ?_ | refine Yh (fun _ => Yx kfi 1) ?_ | refine Yd (fun _ => kt _) ?_ | refine Yf (fun _ => kt _) ?_ | refine Ye (fun _ => kt _) ?_ | refine Yh (fun _ => kt _) ?_ | (refine uB ?_; intro b) | (refine uP ?_ ?_ <;> (intro h; ((try simp only [zs, ne_eq, and_true, true_and, eq_self, reduceCtorEq] at h); try exact zx))) | refine da 101 ?_ | fail)
   refine Zg (i + 1, vS, cS) ?_ uL ⟨by simp only; omega, by simp only; rw [e2]; exact hS⟩ (by simp only; omega)
   simp only
   rw [hms]
   exact uS
 ·obtain rfl : i = m2.w.length := by omega
  subst hvv
  have hcn := cnt_full m2.w.length (by omega) m2.heard rel2.lt
  rw [← rel2.cnt] at hcn
  by_cases hfull : m2.heard = 2 ^ m2.w.length - 1
  ·have ec : Z9 m2 = Zlf m2 4 := by unfold Z9; rw [if_pos ⟨ek, hfull⟩]
   have ec2 : Xq m2 (hs ++ [f]) = [] := by unfold Xq; rw [if_pos ⟨ek, hfull⟩]
   rw [ec, ec2]
   have hle2 := hcn.2 hfull
   have kp := fun L => Q8 lp aw capw _ c1 m2 (hs ++ [f]) 4 L (by omega) hv1
   repeat' (first | refine uN ?_ | refine Z7 S ?_ | refine Yt S ?_ | (refine uB ?_; intro b) | (refine uP ?_ ?_ <;> (intro h; ((try simp only [zs, ne_eq, and_true, true_and, eq_self, reduceCtorEq] at h); try exact zx))) | refine da 101 ?_ | fail)
   refine fo 1 ?_
   refine gc (kp _) ?_
   rintro v L' ⟨c, hv2, rfl⟩
   repeat' (first | refine uN ?_ | refine Z7 S ?_ | refine Yt S ?_ | (refine uB ?_; intro b) | (refine uP ?_ ?_ <;> (intro h; ((try simp only [zs, ne_eq, and_true, true_and, eq_self, reduceCtorEq] at h); try exact zx))) | refine da 101 ?_ | fail)
   exact Yi (L' := c :: Up lp aw capw Y4 [] (U3 m2 4) :: L) uL ⟨c, Y4, [], hv2, Zu, rfl⟩
  ·have ec : Z9 m2 = (m2, []) := by unfold Z9; rw [if_neg (fun h => hfull h.2), if_pos (.inl ek)]
   have ec2 : Xq m2 (hs ++ [f]) = hs ++ [f] := by unfold Xq; rw [if_neg (fun h => hfull h.2), if_pos (.inl ek)]
   rw [ec, ec2]
   have hle2 : (hs ++ [f]).length ≠ m2.w.length := fun h => hfull (hcn.1 h)
   repeat' (first | refine uN ?_ | refine Z7 S ?_ | refine Yt S ?_ | (refine uB ?_; intro b) | (refine uP ?_ ?_ <;> (intro h; ((try simp only [zs, ne_eq, and_true, true_and, eq_self, reduceCtorEq] at h); try exact zx))) | refine da 101 ?_ | fail)
   exact Yi (L' := [] :: Up lp aw capw _ c1 m2 :: L) uL ⟨[], _, c1, Zu, hv1, rfl⟩
end Go.HL
end
