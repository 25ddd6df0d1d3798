/- Texts laid into one, without what the claim does not use. Conditions: none. -/
import Derived.Test.YtkookaogdkdegacGreatDoorMStE
/-! MwD -/
section
namespace Go.HL
open Go Go.Proofs
set_option linter.unusedVariables false
set_option linter.unusedSimpArgs false
theorem put_off {m : Pl} {j : Jn} (h : JI m j) (ho : m.off = false) (deal : Int) (s : St) : (Xo m j deal s).2.2 = some 6 ↔ (Xo m j deal s).1.off = true := by
 have hd : j.dead = false := by rw [h.off, ho]
 rcases (Zfz h deal s).2.2 with ⟨-, ⟨h1, h2⟩ | ⟨h1, h2⟩ | ⟨h1, h2⟩⟩ | ⟨-, h1, -, h2, -⟩
 ·simp [h1, h2]
 ·have : Xo m j deal s = (m, j, some 2) := by unfold Xo; rw [hd]; simp [h2]
  rw [this]; simp [ho]
 ·rw [h1]
  have : (Xo m j deal s).1 = m := by
   unfold Xo at h1 ⊢
   rw [hd] at h1 ⊢
   simp only [Bool.false_eq_true, if_false] at h1 ⊢
   split
   ·rfl
   ·split
    ·rfl
    ·rfl
  rw [this, ho]; simp
 ·rw [h1, h2]; simp
theorem site_off {m : Pl} {j : Jn} (h : JI m j) (ho : m.off = false) (id : Int) (ref : Int → Bool) (f : Fr) : (Zp id ref m j f).2.2.2 = some 6 ↔ (Zp id ref m j f).1.off = true := by
 unfold Zp
 split
 ·simp [ho]
 split
 ·simp [ho]
 have := put_off h ho f.dl (Z8 ref f (j.l.getD f.dl.toNat Zl).s).1
 split
 ·rename_i e he
  rw [he] at this
  exact this
 ·rename_i he
  rw [he] at this
  exact this
theorem Zwc {m : Pl} {j : Jn} (h : JI m j) (ho : m.off = false) (id : Int) (ref : Int → Bool) (f : Fr) (hb : ¬ Xv f) (hto : f.to = id) (hn : (j.l.getD f.dl.toNat Zl).n + 1 < 4294967296) (hp : ¬ V2 f.dl (Z8 ref f (j.l.getD f.dl.toNat Zl).s).1) :
  (Zp id ref m j f).2.2.2.isNone = !(Zp id ref m j f).1.off := by
 unfold Zp
 rw [if_neg hb, if_neg (by simpa using hto)]
 rcases (Zfz h f.dl (Z8 ref f (j.l.getD f.dl.toNat Zl).s).1).2.2 with ⟨-, ⟨h1, h2⟩ | ⟨h1, h2⟩ | ⟨h1, h2⟩⟩ | ⟨-, h1, -, h2, -⟩
 ·simp only [h1]; rw [h2]; rfl
 ·exact absurd h2 hp
 ·omega
 ·simp only [h1]; rw [h2]; rfl
theorem Zm5 {G : RwG} {M : Wm} (h : RwOk G M) {s : Int} (h0 : 0 ≤ s) (h1 : s < M.n.length) {H : Zb} (hH : ∀ b o, (b, o) ∈ G.nc → Has H b o) : NpIn H G.nv M.n.length s (Yg G s).np := by
 have hl := h.ndl
 obtain ⟨a, cap, hnv, -, hR⟩ := h.nodes.rd Wq
 have hR2 := (hR []).mono (L' := H) fun b o hb => hH b o (by simpa [Has] using hb)
 obtain ⟨b, i, l, F, fr, rfl, hb, hg⟩ := hR2.at1 (j := s) h0 (by simp; omega)
 refine ⟨⟨b, i, l, F, fr, cap, by rw [hnv, List.length_map, hl], hb, ?_⟩, h0, h1⟩
 have e : (G.nd.map (·.np))[s.toNat]'(by simp; omega) = (Yg G s).np := by
  rw [List.getElem_map]
  unfold Yg
  rw [List.getD, List.getElem?_eq_getElem (by omega)]
  rfl
 rw [e] at hg
 exact hg 0 _ rfl
theorem rjC_in {g : NrG} {j : Jn} {H : Zb} (h : ∀ p ∈ Qj g.r j, Has H p.1 p.2) : Has H g.r.rj (.cells ⟨Zfl g.r j.dead⟩ 214) ∧ Has H g.r.bS (.cells ⟨((j.l.map Ent.s).map sc).flatten ++ g.r.spS⟩ 43) :=
 ⟨h (g.r.rj, _) (by simp [Qj]), h (g.r.bS, _) (by simp [Qj])⟩
theorem rsC_in {g : NrG} {s : Int} {ref : Int → Bool} {H : Zb} (h : ∀ p ∈ Zeo g.rs g.r.rj g.bR s ref, Has H p.1 p.2) : ∃ bR, Has H g.rs (.cells ⟨[iv s, pt g.r.rj 0, bR]⟩ 208) := ⟨sl g.bR 0 6 6, h (g.rs, .cells ⟨[iv s, pt g.r.rj 0, sl g.bR 0 6 6]⟩ 208) (by simp [Zeo])⟩
theorem Zn7 {g : NrG} {s : Int} {ref : Int → Bool} {j : Jn} {H : Zb} (h1 : ∀ p ∈ Zeo g.rs g.r.rj g.bR s ref, Has H p.1 p.2) (h2 : ∀ p ∈ Qj g.r j, Has H p.1 p.2) : RsIn H g s j := ⟨rsC_in h1, (rjC_in h2).1, (rjC_in h2).2⟩
def Zrv (G : RwG) (s : Int) (g : NrG) (m : Nd) (ref : Int → Bool) (ev : List Evt) (r : Pl × Jn × List Fr × Option Nat) (L : Zb) (v : Value) (L' : Zb) : Prop :=
 ∃ left, (r.1.cut ≠ -1 → left = r.1.cut) ∧ if r.1.off then ∃ bl, v = .tuple ⟨[Y4, .bool false]⟩ ∧ L' = [(G.wp, Vt G)] :: G.ec :: Zds { g with bl := bl } ⟨r.1, none, noLeads, m.done⟩ :: Zg4 { g with bl := bl } ⟨r.1, none, noLeads, m.done⟩ :: Zjh g m :: Wd g.rp r.1 left :: L
 else ∃ fv c evv c2, Zx fv r.2.2.1 c ∧ Vec 162 3 ec evv (Xb s ⟨r.1, some (r.2.1, ref), m.leads, m.done⟩ ev).2 c2 ∧ v = .tuple ⟨[fv, .bool true]⟩ ∧
  L' = [(G.wp, Vt { G with ev := evv, ec := c2 })] :: c2 :: Zds g m :: Zg4 g m :: Zjh g ⟨r.1, some (r.2.1, ref), m.leads, (Xb s ⟨r.1, some (r.2.1, ref), m.leads, m.done⟩ ev).1⟩ :: Zeo g.rs g.r.rj g.bR s ref :: Qj g.r r.2.1 :: Wd g.rp r.1 left :: c :: L
set_option maxHeartbeats 2000000 attribute [local irreducible] HW HO HQ HD HC QOp Has Upd Zt Gets Yb Z6 Zr Xr Z4 Zm Xx Zy
attribute [local irreducible] Zo Zp Qj Zeo Wd
theorem Zoh (G : RwG) (s : Int) (g : NrG) (m : Nd) (f : Fr) (ev : List Evt) (n : Nat) (j : Jn) (ref : Int → Bool) (L : Zb) (hp : NpIn L G.nv n s g.np) (hv : Vec 162 3 ec G.ev ev G.ec) (hl : ev.length ≤ 500)
  (hN : NrOk g m) (w : List Int) (sn : Nat) (hI : NdI w sn m) (hs : m.site = some (j, ref)) (hj' : (Zp s ref m.pl j f).2.1.l.length = 6) : HC Tryz.prog 146 [pt G.wp 0, iv s, .agg ⟨fc f⟩] ([(G.wp, Vt G)] :: G.ec :: Zds g m :: Zg4 g m :: Zjh g m :: Zeo g.rs g.r.rj g.bR s ref :: Qj g.r j :: Wd g.rp m.pl g.left :: L)
  (Zrv G s g m ref ev (Zp s ref m.pl j f) L) := by
 have hJ := (hI.jn hs).ji
 have kh := fun L => Zog g.rs g.bR s ref g.r m.pl j g.left f L hJ.pl hJ.jn hN.left
 have hso := site_off hJ (hI.up j ref hs).2 s ref f
 rw [hN.rp] at kh
 generalize Zp s ref m.pl j f = r at kh hj' hso ⊢
 obtain ⟨pl', j', fs, er⟩ := r
 simp only at kh hj' hso ⊢
 have kf := fun L => Zhk g m L hN.ld
 unfold Zrv
 obtain ⟨pl, site, leads, done⟩ := m
 simp only at hs kh kf ⊢
 subst hs
 obtain ⟨wp, aw, cw, wl, nv, nc, bv, bc, bl, lv, lc, evv, evc, nd⟩ := G
 simp only at hv hp ⊢
 have hp0 := hp
 obtain ⟨⟨nb, i, l, F, fr, cap, rfl, hb, hg⟩, h0, h1⟩ := hp
 cases hoff : pl'.off with
 | true =>
  have her : er = some 6 := hso.2 hoff
  subst her
  simp only [if_true, Vt, Zds, Za1, Zdx, cdN] at kh kf ⊢
  refine Za (fun _ _ => Tryz.call146 _ _) Tryz.func146 rfl Tryz.ntmps146 (Nat.le_of_ble_eq_true rfl) ?_; simp only [Zc, Nat.reduceAdd]
  repeat' (first | refine uN ?_ | refine Yc S ?_ | (refine uB ?_; intro b) | (refine uP ?_ ?_ <;> (intro h; ((try simp only [zs, ne_eq, and_true, true_and, eq_self, reduceCtorEq] at h); try exact zx))) | refine da 101 ?_ | fail)
  refine fo 8 ?_
  refine fo 8 ?_
  refine fo 8 ?_
  refine gc (kh _) ?_
  rintro v L' ⟨fv, c, left', rfl, hfv, hl', rfl⟩
  repeat' (first | refine uN ?_ | refine Yc S ?_ | (refine uB ?_; intro b) | (refine uP ?_ ?_ <;> (intro h; ((try simp only [zs, ne_eq, and_true, true_and, eq_self, reduceCtorEq] at h); try exact zx))) | refine da 101 ?_ | fail)
  refine fo 7 ?_
  refine gc (kf _) ?_
  rintro v L' ⟨bl', rfl, rfl⟩
  repeat' (first | refine uN ?_ | refine Yc S ?_ | (refine uB ?_; intro b) | (refine uP ?_ ?_ <;> (intro h; ((try simp only [zs, ne_eq, and_true, true_and, eq_self, reduceCtorEq] at h); try exact zx))) | refine da 101 ?_ | fail)
  exact Qh (L' := [(wp, .cells ⟨[.slice aw wl cw, sl nb i n cap, bv, lv, evv]⟩ 94)] :: evc :: Zds { g with bl := bl' } ⟨pl', none, noLeads, done⟩ :: Zg4 { g with bl := bl' } ⟨pl', none, noLeads, done⟩ :: Zjh g ⟨pl, some (j, ref), leads, done⟩ :: Wd g.rp pl' left' :: L) (by simp only [Zds, Za1, Zdx]; exact uL) ⟨left', hl', bl', rfl, rfl⟩
 | false =>
  have her : cdN er ≠ 6 := by
   intro h
   have : er = some 6 := by
    cases er with
    | none => cases h
    | some e => simp only [cdN] at h; congr 1; omega
   rw [hso.1 this] at hoff; cases hoff
  generalize cdN er = z at her kh
  have hkn := fun (M1 : Nd) (hM : M1 = ⟨pl', some (j', ref), leads, done⟩) (G1 : RwG) (hG1 : G1 = ⟨wp, aw, cw, wl, sl nb i n cap, nc, bv, bc, bl, lv, lc, evv, evc, nd⟩) L (hq : NpIn L (sl nb i n cap) n s g.np) (hN2 : Has L g.np (Za1 g M1)) (hsi : RsIn L g s j') => Zhq G1 s g M1 ev n L (by subst hG1; exact hv) hl (by subst hG1; exact hq) hN2 (by subst hM; exact hI.done) (by subst hM; intro j2 r2 h2; cases h2; exact ⟨hsi, hj'⟩)
  have hkn := fun L hq hN2 hsi => hkn _ rfl _ rfl L hq hN2 hsi
  simp only [Bool.false_eq_true, if_false, Vt, Zds, Za1, Zdx] at hkn kh ⊢
  refine Za (fun _ _ => Tryz.call146 _ _) Tryz.func146 rfl Tryz.ntmps146 (Nat.le_of_ble_eq_true rfl) ?_; simp only [Zc, Nat.reduceAdd]
  repeat' (first | refine uN ?_ | refine Yc S ?_ | (refine uB ?_; intro b) | (refine uP ?_ ?_ <;> (intro h; ((try simp only [zs, ne_eq, and_true, true_and, eq_self, reduceCtorEq] at h); try exact zx))) | refine da 101 ?_ | fail)
  refine fo 8 ?_
  refine fo 8 ?_
  refine fo 8 ?_
  refine gc (kh _) ?_
  rintro v L' ⟨fv, c, left', rfl, hfv, hl', rfl⟩
  repeat' (first | refine uN ?_ | refine Yc S ?_ | (refine uB ?_; intro b) | (refine uP ?_ ?_ <;> (intro h; ((try simp only [zs, ne_eq, and_true, true_and, eq_self, reduceCtorEq] at h); try exact zx))) | refine da 101 ?_ | fail)
  refine fo 9 ?_
  refine fo 7 ?_
  refine fo 7 ?_
  refine gc (hkn _ ?_ ?_ ?_) ?_
  ·exact (((((((⟨⟨nb, i, l, F, fr, cap, rfl, hb, hg⟩, h0, h1⟩ : NpIn L (sl nb i n cap) n s g.np).cons _).cons _).cons _).cons _).cons _).cons _).cons _
  ·exact Zf (Zf (Zf (Zf (Zf Zv))))
  ·exact Zn7 (fun p hp => Yu hp) (fun p hp => Zf (Yu hp))
  rintro v L' ⟨evv', c2, hv2, rfl, rfl⟩
  obtain ⟨af, capf, rfl, -, -⟩ := hfv.rd Zi
  repeat' (first | refine uN ?_ | refine Yc S ?_ | (refine uB ?_; intro b) | (refine uP ?_ ?_ <;> (intro h; ((try simp only [zs, ne_eq, and_true, true_and, eq_self, reduceCtorEq] at h); try exact zx))) | refine da 101 ?_ | fail)
  exact Qh (L' := [(wp, .cells ⟨[.slice aw wl cw, sl nb i n cap, bv, lv, evv']⟩ 94)] :: c2 :: Zds g ⟨pl, some (j, ref), leads, done⟩ :: Zg4 g ⟨pl, some (j, ref), leads, done⟩ :: Zjh g ⟨pl', some (j', ref), leads, (Xb s ⟨pl', some (j', ref), leads, done⟩ ev).1⟩ :: Zeo g.rs g.r.rj g.bR s ref :: Qj g.r j' :: Wd g.rp pl' left' :: c :: L) (by simp only [Zds, Za1, Zdx]; exact uL) ⟨left', hl', _, c, evv', c2, hfv, hv2, rfl, rfl⟩
def Zin (s : Int) (m : Nd) (f : Fr) : Bool := match m.site with
 | none => false
 | some (j, ref) => !(Zp s ref m.pl j f).1.off
theorem NrOk.fall {g : NrG} {m : Nd} (h : NrOk g m) (pl : Pl) (dn : List Bool) (bl : Nat) {left : Int} (hl : pl.cut ≠ -1 → left = pl.cut) : NrOk { g with bl := bl, left := left } ⟨pl, none, noLeads, dn⟩ := by
 refine ⟨h.ld, h.rp, hl, fun d x hx => ?_⟩
 simp only [noLeads, List.getElem?_replicate] at hx
 split at hx <;> cases hx
theorem NrOk.same {g : NrG} {m : Nd} (h : NrOk g m) (st : Option (Jn × (Int → Bool))) (pl : Pl) (dn : List Bool) {left : Int} (hl : pl.cut ≠ -1 → left = pl.cut) : NrOk { g with left := left } ⟨pl, st, m.leads, dn⟩ := ⟨h.ld, h.rp, hl, h.lok⟩
theorem Zsx {aw : Option Addr} {cw : Nat} {g : NrG} (h : g.ld.length = 6) {pl : Pl} {st : Option (Jn × (Int → Bool))} {dn : List Bool} : Zdv aw cw g ⟨pl, st, noLeads, dn⟩ = [] := by
 unfold Zdv noLeads
 obtain ⟨a, b, c, d, e, f, hh⟩ : ∃ a b c d e f, g.ld = [a, b, c, d, e, f] := by
  match g.ld, h with
  | [a, b, c, d, e, f], _ => exact ⟨_, _, _, _, _, _, rfl⟩
 rw [hh]; rfl
theorem Zfm (G : RwG) (M : Wm) (s : Int) (f : Fr) (L : Zb) (h : RwOk G M) (hI : WI M) (h0 : 0 ≤ s) (h1 : s < M.n.length) (hs : (Zd M s).site ≠ none) :
  HC Tryz.prog 146 [pt G.wp 0, iv s, .agg ⟨fc f⟩] (Xs G M ++ L) (fun v L' => ∃ c, (∃ fv, Zx fv (Yo M s f).2.1 c ∧ v = .tuple ⟨[fv, .bool (Zin s (Zd M s) f)]⟩) ∧ Zh9 G (Yo M s f).1 (c :: L) L') := by
 refine HC.nodeR h h0 h1 ?_
 have hN := Un h h0 h1
 have hi := Ws hI h0 h1
 have hnp := Zm5 h h0 h1 (H := Zdv G.aw G.cw (Yg G s) (Zd M s) :: G.lc :: G.nc :: G.bc :: W9 G.aw G.cw G.nd M.n 0 s.toNat :: L) fun b o hb => Zf (Zf (Yu hb))
 unfold Yo Y7 Zin
 generalize W9 G.aw G.cw G.nd M.n 0 s.toNat = X at *
 generalize hm : Zd M s = m at *
 generalize hg : Yg G s = g at *
 obtain ⟨pl, site, leads, done⟩ := m
 cases site with
 | none => exact absurd rfl hs
 | some q =>
  obtain ⟨j, ref⟩ := q
  have hsj := Zcy (id := s) (ref := ref) (hi.jn rfl) f
  have hj6 : (Zp s ref pl j f).2.1.l.length = 6 := hsj.1.ji.jn.len
  have kh := Zoh G s g ⟨pl, some (j, ref), leads, done⟩ f M.ev M.n.length j ref (Zdv G.aw G.cw g ⟨pl, some (j, ref), leads, done⟩ :: G.lc :: G.nc :: G.bc :: X :: L) hnp h.ev hI.evl hN M.w s.toNat hi rfl hj6
  refine HC.post kh ?_
  intro v L' hq
  unfold Zrv at hq
  obtain ⟨left', hl', hq⟩ := hq
  simp only at hq hl' ⊢
  generalize Zp s ref pl j f = r at *
  split at hq
  ·rename_i hoff
   obtain ⟨bl', rfl, rfl⟩ := hq
   have e := Zsx (aw := G.aw) (cw := G.cw) (g := { g with bl := bl', left := left' }) hN.ld (pl := r.1) (st := none) (dn := done)
   refine ⟨Wr G s { g with bl := bl', left := left' } ⟨r.1, none, noLeads, done⟩ X ([] :: L), ?_, [], ?_, G, M, { g with bl := bl', left := left' }, ⟨r.1, none, noLeads, done⟩, h, rfl, rfl, .refl G, hN.fall _ _ _ hl', rfl, ?_, rfl⟩
   ·simp only [Wr, Zk8, Zk7, e]
    exact uL
   ·rw [if_pos hoff, hoff]
    exact ⟨_, Zu, rfl⟩
   ·rw [if_pos hoff]; rfl
  ·rename_i hoff
   obtain ⟨fv, c, evv, c2, hfv, hev, rfl, rfl⟩ := hq
   have hoff2 : r.1.off = false := by simpa using hoff
   refine ⟨Wr { G with ev := evv, ec := c2 } s { g with left := left' } ⟨r.1, some (r.2.1, ref), leads, (Xb s ⟨r.1, some (r.2.1, ref), leads, done⟩ M.ev).1⟩ X (c :: L), ?_, c, ?_, { G with ev := evv, ec := c2 }, { M with ev := (Xb s ⟨r.1, some (r.2.1, ref), leads, done⟩ M.ev).2 }, { g with left := left' }, ⟨r.1, some (r.2.1, ref), leads, (Xb s ⟨r.1, some (r.2.1, ref), leads, done⟩ M.ev).1⟩, h.setE hev, rfl, rfl, ⟨rfl, rfl, rfl, rfl, rfl⟩, hN.same _ _ _ hl', rfl, ?_, rfl⟩
   ·simp only [Wr, Zk8, Zk7]
    exact uL
   ·rw [if_neg hoff, hoff2]
    exact ⟨_, hfv, rfl⟩
   ·rw [if_neg hoff]; rfl
end Go.HL
end

/-! MwE -/
section
namespace Go.HL
open Go Go.Proofs
set_option linter.unusedVariables false
set_option linter.unusedSimpArgs false
theorem Zvt (xs : List Fr) (k : Nat) : xs.take k ++ xs.drop (k + 1) = xs.eraseIdx k := (List.eraseIdx_eq_take_drop_succ ..).symm
set_option maxHeartbeats 2000000 attribute [local irreducible] HW HO HQ HD HC QOp Has Upd Zt Gets Yb Z6 Zr Xr Z4 Zm Xx Zy
attribute [local irreducible] Zo Zp Qj Zeo Wd
theorem Uq (G : RwG) (xs ys : List Fr) (a : Option Addr) (cap : Nat) (L : Zb) (hv : Zx G.lv xs G.lc) (hR : Rd fc 9 L a ys) (hl : xs.length + ys.length ≤ 100000000) :
  HC Tryz.prog 141 [pt G.wp 0, .slice a ys.length cap] ([(G.wp, Vt G)] :: G.lc :: L) (fun v L' => ∃ lv lc, Zx lv (xs ++ ys) lc ∧ v = .tuple ⟨[]⟩ ∧ L' = [(G.wp, Vt { G with lv := lv, lc := lc })] :: lc :: L) := by
 obtain ⟨wp, aw, cw, wl, nv, nc, bv, bc, bl, lv, lc, evv, evc, nd⟩ := G
 simp only [Vt] at hv ⊢
 refine Za (fun _ _ => Tryz.call141 _ _) Tryz.func141 rfl Tryz.ntmps141 (Nat.le_of_ble_eq_true rfl) ?_; simp only [Zc, Nat.reduceAdd]
 repeat' (first | refine uN ?_)
 refine fo 1 ?_
 refine Ztl S hv (Rd.cons (hR.cons _) _) Zi Wb ?_ (hby := by omega) (hmax := by omega)
 intro v' c' hv'
 obtain ⟨a9, cap9, rfl, -, -⟩ := hv'.rd Zi
 repeat' (first | refine uN ?_)
 exact spn (L' := [(wp, .cells ⟨[.slice aw wl cw, nv, bv, .slice a9 (xs ++ ys).length cap9, evv]⟩ 94)] :: c' :: L) uL ⟨_, c', hv', rfl, rfl⟩
theorem Zg3 (G : RwG) (xs : List Fr) (k : Int) (L : Zb) (hv : Zx G.lv xs G.lc) (hl : xs.length ≤ 99999999) :
  HC Tryz.prog 151 [pt G.wp 0, iv k] ([(G.wp, Vt G)] :: G.lc :: L) (fun v L' => if k < 0 ∨ xs.length ≤ k then v = .tuple ⟨[.agg ⟨fc Ys⟩, .bool false]⟩ ∧ L' = [(G.wp, Vt G)] :: G.lc :: L
   else ∃ lv lc, Zx lv (xs.eraseIdx k.toNat) lc ∧ v = .tuple ⟨[.agg ⟨fc (xs.getD k.toNat Ys)⟩, .bool true]⟩ ∧ L' = [(G.wp, Vt { G with lv := lv, lc := lc })] :: lc :: L) := by
 obtain ⟨wp, aw, cw, wl, nv, nc, bv, bc, bl, lv, lc, evv, evc, nd⟩ := G
 simp only [Vt] at hv ⊢
 obtain ⟨a5, cap5, rfl, hcap, hR5⟩ := hv.rd Zi
 by_cases h : k < 0 ∨ xs.length ≤ k
 ·simp only [if_pos h]
  refine Za (fun _ _ => Tryz.call151 _ _) Tryz.func151 rfl Tryz.ntmps151 (Nat.le_of_ble_eq_true rfl) ?_; simp only [Zc, Nat.reduceAdd]
  repeat' (first | refine uN ?_ | (refine uB ?_; intro b) | (refine uP ?_ ?_ <;> (intro h; ((try simp only [zs, ne_eq, and_true, true_and, eq_self, reduceCtorEq] at h); try exact zx))) | fail)
  all_goals exact Qh (L' := [(wp, .cells ⟨[.slice aw wl cw, nv, bv, .slice a5 xs.length cap5, evv]⟩ 94)] :: lc :: L) uL ⟨rfl, rfl⟩ (hx := Wu S (hg := X1 _))
 ·simp only [if_neg h]
  obtain ⟨b9, i9, l, F, fr, rfl, hb, hg⟩ := (hR5 L).at (j := k) (by omega) (by omega)
  have hgk : xs[k.toNat]'(by omega) = xs.getD k.toNat Ys := by
   rw [List.getD, List.getElem?_eq_getElem (by omega)]; rfl
  have hlt : k.toNat < xs.length := by omega
  have e1 : (xs.take k.toNat).length = k.toNat := by rw [List.length_take]; omega
  rw [hgk] at hg
  have hT := fun L => (hR5 L).take (n := k.toNat)
  have hD := fun L => (hR5 L).drop (l := (k + 1).toNat) hcap
  have eD : xs.take k.toNat ++ xs.drop (k + 1).toNat = xs.eraseIdx k.toNat := by rw [← Zvt]; congr 2; omega
  have eL : (xs.drop (k + 1).toNat).length = xs.length - (k + 1).toNat := List.length_drop ..
  generalize xs.getD k.toNat Ys = f at *
  refine Za (fun _ _ => Tryz.call151 _ _) Tryz.func151 rfl Tryz.ntmps151 (Nat.le_of_ble_eq_true rfl) ?_; simp only [Zc, Nat.reduceAdd]
  repeat' (first | refine uN ?_ | (refine uB ?_; intro b) | (refine uP ?_ ?_ <;> (intro h; ((try simp only [zs, ne_eq, and_true, true_and, eq_self, reduceCtorEq] at h); try exact zx))) | fail)
  refine Zh3 ?_
  refine Ztl S (xs := []) Zu (ys := xs.take k.toNat) (a := some ⟨b9, i9, none⟩) (cap := cap5) (Rd.cons ((hT []).mono fun x o hb => ?_) _) Zi Wb ?_ (hy := by rw [e1]; exact rfl) (hby := by simp only [List.length_nil]; omega) (hmax := by simp only [List.length_nil]; omega)
  ·exact Zf (Zf (Zf (Yu (by simpa [Has] using hb))))
  intro v' c' hv'
  simp only [List.nil_append] at hv'
  obtain ⟨a6, cap6, rfl, -, -⟩ := hv'.rd Zi
  repeat' (first | refine uN ?_ | (refine uB ?_; intro b) | (refine uP ?_ ?_ <;> (intro h; ((try simp only [zs, ne_eq, and_true, true_and, eq_self, reduceCtorEq] at h); try exact zx))) | fail)
  refine Ztl S hv' (ys := xs.drop (k + 1).toNat) (a := cut (some ⟨b9, i9, none⟩) cap5 (k + 1).toNat 9) (cap := cap5 - (k + 1).toNat) (Rd.cons ((hD []).mono fun x o hb => ?_) _) Zi Wb ?_ (hy := by rw [eL]; exact rfl) (hby := by rw [e1, eL]; omega) (hmax := by rw [e1, eL]; omega)
  ·exact Zf (Zf (Zf (Yu (by simpa [Has] using hb))))
  intro v' c'' hv''
  rw [eD] at hv''
  obtain ⟨a7, cap7, rfl, -, -⟩ := hv''.rd Zi
  repeat' (first | refine uN ?_ | (refine uB ?_; intro b) | (refine uP ?_ ?_ <;> (intro h; ((try simp only [zs, ne_eq, and_true, true_and, eq_self, reduceCtorEq] at h); try exact zx))) | fail)
  exact Qh (L' := [(wp, .cells ⟨[.slice aw wl cw, nv, bv, .slice a7 (xs.eraseIdx k.toNat).length cap7, evv]⟩ 94)] :: c'' :: L) uL ⟨_, c'', hv'', rfl, rfl⟩ (hx := Wu S (hg := X1 _))
theorem Zk9 (G : RwG) (xs : List Fr) (k : Int) (L : Zb) (hv : Zx G.lv xs G.lc) (hl : xs.length ≤ 99999999) :
  HC Tryz.prog 89 [pt G.wp 0, iv k] ([(G.wp, Vt G)] :: G.lc :: L) (fun v L' => if k < 0 ∨ xs.length ≤ k then v = iv 4 ∧ L' = [(G.wp, Vt G)] :: G.lc :: L
   else ∃ lv lc, Zx lv (xs.take (k + 1).toNat ++ xs.getD k.toNat Ys :: xs.drop (k + 1).toNat) lc ∧ v = iv 0 ∧ L' = [(G.wp, Vt { G with lv := lv, lc := lc })] :: lc :: L) := by
 obtain ⟨wp, aw, cw, wl, nv, nc, bv, bc, bl, lv, lc, evv, evc, nd⟩ := G
 simp only [Vt] at hv ⊢
 obtain ⟨a5, cap5, rfl, hcap, hR5⟩ := hv.rd Zi
 by_cases h : k < 0 ∨ xs.length ≤ k
 ·simp only [if_pos h]
  refine Za (fun _ _ => Tryz.call89 _ _) Tryz.func89 rfl Tryz.ntmps89 (Nat.le_of_ble_eq_true rfl) ?_; simp only [Zc, Nat.reduceAdd]
  repeat' (first | refine uN ?_ | (refine uB ?_; intro b) | (refine uP ?_ ?_ <;> (intro h; ((try simp only [zs, ne_eq, and_true, true_and, eq_self, reduceCtorEq] at h); try exact zx))) | fail)
  all_goals exact Yi uL ⟨rfl, rfl⟩
 ·simp only [if_neg h]
  obtain ⟨b9, i9, l, F, fr, rfl, hb, hg⟩ := (hR5 L).at (j := k) (by omega) (by omega)
  have hgk : xs[k.toNat]'(by omega) = xs.getD k.toNat Ys := by
   rw [List.getD, List.getElem?_eq_getElem (by omega)]; rfl
  have hb5 : ∀ H, Has (lc :: H) b9 (.cells ⟨l⟩ F fr) → True := fun _ _ => trivial
  have hlt : k.toNat < xs.length := by omega
  have e1 : (xs.take (k + 1).toNat).length = (k + 1).toNat := by rw [List.length_take]; omega
  rw [hgk] at hg
  have hT := fun L => (hR5 L).take (n := (k + 1).toNat)
  have hD := fun L => (hR5 L).drop (l := (k + 1).toNat) hcap
  have eL : (xs.drop (k + 1).toNat).length = xs.length - (k + 1).toNat := List.length_drop ..
  have eA : ∀ f : Fr, (xs.take (k + 1).toNat ++ [f]) ++ xs.drop (k + 1).toNat = xs.take (k + 1).toNat ++ f :: xs.drop (k + 1).toNat := fun f => by simp
  have eB : ∀ f : Fr, (xs.take (k + 1).toNat ++ [f]).length = (k + 1).toNat + 1 := fun f => by simp only [List.length_append, e1, List.length_singleton]
  generalize xs.getD k.toNat Ys = f at *
  refine Za (fun _ _ => Tryz.call89 _ _) Tryz.func89 rfl Tryz.ntmps89 (Nat.le_of_ble_eq_true rfl) ?_; simp only [Zc, Nat.reduceAdd]
  repeat' (first | refine uN ?_ | (refine uB ?_; intro b) | (refine uP ?_ ?_ <;> (intro h; ((try simp only [zs, ne_eq, and_true, true_and, eq_self, reduceCtorEq] at h); try exact zx))) | fail)
  refine Zh3 ?_
  refine Ztl S (xs := []) Zu (ys := xs.take (k + 1).toNat) (a := some ⟨b9, i9, none⟩) (cap := cap5) (Rd.cons ((hT []).mono fun x o hb => ?_) _) Zi Wb ?_ (hy := by rw [e1]; exact rfl) (hby := by simp only [List.length_nil]; omega) (hmax := by simp only [List.length_nil]; omega)
  ·exact Zf (Yu (by simpa [Has] using hb))
  intro v' c' hv'
  simp only [List.nil_append] at hv'
  obtain ⟨a6, cap6, rfl, -, -⟩ := hv'.rd Zi
  repeat' (first | refine uN ?_ | (refine uB ?_; intro b) | (refine uP ?_ ?_ <;> (intro h; ((try simp only [zs, ne_eq, and_true, true_and, eq_self, reduceCtorEq] at h); try exact zx))) | fail)
  refine fo 1 ?_
  refine Zea S f hv' Zi Wb ?_ (hby := by rw [e1]; omega) (hmax := by rw [e1]; omega)
  intro v'' c'' hv''
  obtain ⟨a7, cap7, rfl, -, -⟩ := hv''.rd Zi
  repeat' (first | refine uN ?_ | (refine uB ?_; intro b) | (refine uP ?_ ?_ <;> (intro h; ((try simp only [zs, ne_eq, and_true, true_and, eq_self, reduceCtorEq] at h); try exact zx))) | fail)
  refine Ztl S hv'' (ys := xs.drop (k + 1).toNat) (a := cut (some ⟨b9, i9, none⟩) cap5 (k + 1).toNat 9) (cap := cap5 - (k + 1).toNat) (Rd.cons ((hD []).mono fun x o hb => ?_) _) Zi Wb ?_ (hy := by rw [eL]; exact rfl) (hby := by rw [eB, eL]; omega) (hmax := by rw [eB, eL]; omega)
  ·exact Zf (Zf (Yu (by simpa [Has] using hb)))
  intro v3 c3 hv3
  rw [eA] at hv3
  obtain ⟨a8, cap8, rfl, -, -⟩ := hv3.rd Zi
  repeat' (first | refine uN ?_ | (refine uB ?_; intro b) | (refine uP ?_ ?_ <;> (intro h; ((try simp only [zs, ne_eq, and_true, true_and, eq_self, reduceCtorEq] at h); try exact zx))) | fail)
  exact Yi (L' := [(wp, .cells ⟨[.slice aw wl cw, nv, bv, .slice a8 (xs.take (k + 1).toNat ++ f :: xs.drop (k + 1).toNat).length cap8, evv]⟩ 94)] :: c3 :: L) uL ⟨_, c3, hv3, rfl, rfl⟩
theorem Zig {G G' : RwG} {M' : Wm} {L : Zb} (h : RwOk G' M') (e : RwS G G') : Zh9 G M' L (Xs G' M' ++ L) := ⟨G', e, h, rfl⟩
theorem Zi5 {G : RwG} {lv : Value} {lc : List Zq} : RwS G { G with lv := lv, lc := lc } := ⟨rfl, rfl, rfl, rfl, rfl⟩
theorem Zhr (G : RwG) (M : Wm) (k : Int) (L : Zb) (hW : RwOk G M) (hl : M.l.length ≤ 99999999) :
  HC Tryz.prog 87 [pt G.wp 0, iv k] (Xs G M ++ L) (fun v L' => v = iv (cdN (Uy M k).2) ∧ Zh9 G (Uy M k).1 L L') := by
 have hself := Vl hW L
 have kt := fun L => Zg3 G M.l k L hW.l hl
 unfold Uy Zk1
 by_cases h : k < 0 ∨ M.l.length ≤ k
 ·simp only [if_pos h, cdN] at kt ⊢
  simp only [Xs, Zd3, List.cons_append, List.nil_append] at hself ⊢
  refine Za (fun _ _ => Tryz.call87 _ _) Tryz.func87 rfl Tryz.ntmps87 (Nat.le_of_ble_eq_true rfl) ?_; simp only [Zc, Nat.reduceAdd]
  repeat' (first | refine uN ?_ | (refine uB ?_; intro b) | (refine uP ?_ ?_ <;> (intro h; ((try simp only [zs, ne_eq, and_true, true_and, eq_self, reduceCtorEq] at h); try exact zx))) | fail)
  refine fo 2 ?_
  refine fo 1 ?_
  refine gc (kt _) ?_
  rintro v L' ⟨rfl, rfl⟩
  repeat' (first | refine uN ?_ | (refine uB ?_; intro b) | (refine uP ?_ ?_ <;> (intro h; ((try simp only [zs, ne_eq, and_true, true_and, eq_self, reduceCtorEq] at h); try exact zx))) | fail)
  exact Yi uL ⟨rfl, hself⟩
 ·simp only [if_neg h, cdN] at kt ⊢
  have key : ∀ lv lc, Zx lv (M.l.eraseIdx k.toNat) lc → Zh9 G { M with l := M.l.eraseIdx k.toNat } L (Xs { G with lv := lv, lc := lc } { M with l := M.l.eraseIdx k.toNat } ++ L) := fun lv lc hv => Zig (hW.setL hv) Zi5
  simp only [Xs, Zd3, List.cons_append, List.nil_append] at key ⊢
  refine Za (fun _ _ => Tryz.call87 _ _) Tryz.func87 rfl Tryz.ntmps87 (Nat.le_of_ble_eq_true rfl) ?_; simp only [Zc, Nat.reduceAdd]
  repeat' (first | refine uN ?_ | (refine uB ?_; intro b) | (refine uP ?_ ?_ <;> (intro h; ((try simp only [zs, ne_eq, and_true, true_and, eq_self, reduceCtorEq] at h); try exact zx))) | fail)
  refine fo 2 ?_
  refine fo 1 ?_
  refine gc (kt _) ?_
  rintro v L' ⟨lv, lc, hv, rfl, rfl⟩
  repeat' (first | refine uN ?_ | (refine uB ?_; intro b) | (refine uP ?_ ?_ <;> (intro h; ((try simp only [zs, ne_eq, and_true, true_and, eq_self, reduceCtorEq] at h); try exact zx))) | fail)
  exact Yi uL ⟨rfl, key lv lc hv⟩
theorem Ze2 (G : RwG) (M : Wm) (k : Int) (L : Zb) (hW : RwOk G M) (hl : M.l.length ≤ 99999999) :
  HC Tryz.prog 89 [pt G.wp 0, iv k] (Xs G M ++ L) (fun v L' => v = iv (cdN (Vv M k).2) ∧ Zh9 G (Vv M k).1 L L') := by
 have hself := Vl hW L
 have kt := fun L => Zk9 G M.l k L hW.l hl
 have e : LS ([(G.wp, Vt G)] :: G.lc :: G.ec :: G.nc :: G.bc :: Q5 G.aw G.cw G.nd M.n 0 :: L : Zb).flatten (Xs G M ++ L).flatten := by
  simp only [Xs, Zd3, List.cons_append, List.nil_append]
  exact uL
 refine HC.post (HC.sp (kt _) e) ?_
 unfold Vv Zk1
 by_cases h : k < 0 ∨ M.l.length ≤ k
 ·simp only [if_pos h, cdN]
  rintro v L' ⟨rfl, rfl⟩
  refine ⟨Xs G M ++ L, ?_, rfl, hself⟩
  simp only [Xs, Zd3, List.cons_append, List.nil_append]
  exact uL
 ·simp only [if_neg h, cdN]
  rintro v L' ⟨lv, lc, hv, rfl, rfl⟩
  refine ⟨Xs { G with lv := lv, lc := lc } { M with l := M.l.take (k + 1).toNat ++ M.l.getD k.toNat Ys :: M.l.drop (k + 1).toNat } ++ L, ?_, rfl, Zig (hW.setL hv) Zi5⟩
  simp only [Xs, Zd3, List.cons_append, List.nil_append]
  exact uL
end Go.HL
end

/-! MwF -/
section
namespace Go.HL
open Go Go.Proofs
set_option linter.unusedVariables false
set_option linter.unusedSimpArgs false
theorem Zv9 {G : RwG} {s : Int} {g : NrG} {m : Nd} {X : List Zq} {L : Zb} : Has (Wr G s g m X L) g.np (Za1 g m) := by
 unfold Wr Zds
 exact Zf (Zf Zv)
theorem Zjy {G : RwG} {M : Wm} (s : Int) (hW : RwOk G M) (L : Zb) : HC Tryz.prog 139 [pt G.wp 0, iv s] (Xs G M ++ L) (fun v L' => v = iv (cdN (Zbm M s)) ∧ L' = Xs G M ++ L) :=
 Zlz G M s _ (Zcz hW L) hW.ndl fun hn => Zfi hW.ndl (Xc hn).1 (Xc hn).2 L
theorem Zq0 {G : RwG} {M : Wm} {s : Int} (hW : RwOk G M) (hu : Zbm M s = none) (X : List Zq) (L : Zb) : HC Tryz.prog 139 [pt G.wp 0, iv s] (Wr G s (Yg G s) (Zd M s) X L) (fun v L' => v = iv 0 ∧ L' = Wr G s (Yg G s) (Zd M s) X L) := by
 have := Zlz G M s _ (rwOp_in hW s (Yg G s) (Zd M s) X L) hW.ndl fun hn => Zv9
 rw [hu] at this
 exact this
theorem Zl9 {G : RwG} {M : Wm} (hW : RwOk G M) {s : Int} (h0 : 0 ≤ s) (h1 : s < M.n.length) : ∃ b i l F fr cap, G.nv = sl b i M.n.length cap ∧ (∀ H, Has (G.nc :: H) b (.cells ⟨l⟩ F fr)) ∧ l[i + s.toNat]? = some (pt (Yg G s).np 0) := by
 obtain ⟨⟨b, i, l, F, fr, cap, e, hb, hg⟩, -, -⟩ := Zm5 hW h0 h1 (H := G.nc :: []) fun b o hb => Yu hb
 refine ⟨b, i, l, F, fr, cap, e, fun H => ?_, hg⟩
 simp only [Has, List.flatten_cons, List.flatten_nil, List.append_nil] at hb
 exact Yu hb
set_option maxHeartbeats 2000000 attribute [local irreducible] HW HO HQ HD HC QOp Has Upd Zt Gets Yb Z6 Zr Xr Z4 Zm Xx Zy
attribute [local irreducible] Zo Zp Qj Wd
theorem Zd9 (G : RwG) (M : Wm) (s d : Int) (L : Zb) (hW : RwOk G M) (hM : WI M) :
  HC Tryz.prog 82 [pt G.wp 0, iv s, iv d] (Xs G M ++ L) (fun v L' => v = iv (cdN (Wp M s d).2) ∧ Zh9 G (Wp M s d).1 L L') := by
 unfold Wp
 have hself := Vl hW L
 by_cases hd : d < 0 ∨ 6 ≤ d
 ·simp only [if_pos hd, cdN]
  generalize Xs G M ++ L = H at *
  refine Za (fun _ _ => Tryz.call82 _ _) Tryz.func82 rfl Tryz.ntmps82 (Nat.le_of_ble_eq_true rfl) ?_; simp only [Zc, Nat.reduceAdd]
  repeat' (first | refine uN ?_ | (refine uP ?_ ?_ <;> (intro h; ((try simp only [zs, ne_eq, and_true, true_and, eq_self, reduceCtorEq] at h); try exact zx))) | fail)
  all_goals exact Vx rfl ⟨rfl, hself⟩
 simp only [if_neg hd]
 rcases Zax (M := M) (s := s) with ⟨e, he⟩ | ⟨he, hn, h0, h1, j, ref, hs⟩
 ·have ku := Zjy s hW L
  have h1 : 1 ≤ e := by
   unfold Zbm at he
   split at he
   ·rename_i x hx
    unfold X0 at hx
    split at hx <;> cases hx
    cases he; decide
   ·split at he <;> cases he
    decide
  generalize Xs G M ++ L = H at *
  simp only [he, cdN] at ku ⊢
  refine Za (fun _ _ => Tryz.call82 _ _) Tryz.func82 rfl Tryz.ntmps82 (Nat.le_of_ble_eq_true rfl) ?_; simp only [Zc, Nat.reduceAdd]
  repeat' (first | refine uN ?_ | refine uC (ku) ?_ | (refine uP ?_ ?_ <;> (intro h; ((try simp only [zs, ne_eq, and_true, true_and, eq_self, reduceCtorEq] at h); try exact zx))) | fail)
  exact Vx rfl ⟨rfl, hself⟩
 ·simp only [he, cdN]
  refine HC.nodeR0 hW h0 h1 ?_
  have ku := Zq0 (X := W9 G.aw G.cw G.nd M.n 0 s.toNat) hW he L
  have hok := Un hW h0 h1
  have hni := Ws hM h0 h1
  obtain ⟨nb, i, l, F, fr, cap, hnv, hb, hg⟩ := Zl9 hW h0 h1
  have hb2 := hb (G.bc :: W9 G.aw G.cw G.nd M.n 0 s.toNat :: L)
  generalize W9 G.aw G.cw G.nd M.n 0 s.toNat = X at *
  generalize Zd M s = m at *
  generalize Yg G s = g at *
  obtain ⟨pl, site, leads, done⟩ := m
  simp only at hs
  subst hs
  obtain ⟨dn, rfl⟩ := Int.eq_ofNat_of_zero_le (show 0 ≤ d by omega)
  have hd6 : dn < 6 := by omega
  have gP := refL_put (ref := ref) hd6
  simp only [Wr, Zds, Za1, Zdx, Zk8, Zk7, Vt, hnv, Zeo] at ku ⊢
  refine Za (fun _ _ => Tryz.call82 _ _) Tryz.func82 rfl Tryz.ntmps82 (Nat.le_of_ble_eq_true rfl) ?_; simp only [Zc, Nat.reduceAdd]
  repeat' (first | refine uN ?_ | refine uC (ku) ?_ | (refine uP ?_ ?_ <;> (intro h; ((try simp only [zs, ne_eq, and_true, true_and, eq_self, reduceCtorEq] at h); try exact zx))) | fail)
  refine Yi (L' := Wr G s g (Ui ⟨pl, some (j, ref), leads, done⟩ dn) X L) ?_ ⟨rfl, G, M, g, Ui ⟨pl, some (j, ref), leads, done⟩ dn, hW, rfl, rfl, .refl G, ⟨hok.ld, hok.rp, hok.left, hok.lok⟩, rfl, rfl, rfl⟩
  simp only [Wr, Zds, Za1, Zdx, Zk8, Zk7, Vt, hnv, Zeo, Ui]
  exact uL
theorem Zid {M : Wm} {s : Int} {e : Nat} (he : Zbm M s = some e) : 1 ≤ e := by
 unfold Zbm at he
 split at he
 ·rename_i x hx
  unfold X0 at hx
  split at hx <;> cases hx
  cases he; decide
 ·split at he <;> cases he
  decide
theorem Zg0 (G : RwG) (M : Wm) (s n : Int) (L : Zb) (hW : RwOk G M) (hM : WI M) :
  HC Tryz.prog 92 [pt G.wp 0, iv s, iv n] (Xs G M ++ L) (fun v L' => v = iv (cdN (Zdw M s n).2) ∧ Zh9 G (Zdw M s n).1 L L') := by
 unfold Zdw
 have hself := Vl hW L
 by_cases hd : n < 0
 ·simp only [if_pos hd, cdN]
  generalize Xs G M ++ L = H at *
  refine Za (fun _ _ => Tryz.call92 _ _) Tryz.func92 rfl Tryz.ntmps92 (Nat.le_of_ble_eq_true rfl) ?_; simp only [Zc, Nat.reduceAdd]
  repeat' (first | refine uN ?_ | (refine uP ?_ ?_ <;> (intro h; ((try simp only [zs, ne_eq, and_true, true_and, eq_self, reduceCtorEq] at h); try exact zx))) | fail)
  all_goals exact Vx rfl ⟨rfl, hself⟩
 simp only [if_neg hd]
 rcases Zax (M := M) (s := s) with ⟨e, he⟩ | ⟨he, hn, h0, h1, j, ref, hs⟩
 ·have ku := Zjy s hW L
  have h1 := Zid he
  generalize Xs G M ++ L = H at *
  simp only [he, cdN] at ku ⊢
  refine Za (fun _ _ => Tryz.call92 _ _) Tryz.func92 rfl Tryz.ntmps92 (Nat.le_of_ble_eq_true rfl) ?_; simp only [Zc, Nat.reduceAdd]
  repeat' (first | refine uN ?_ | refine uC (ku) ?_ | (refine uP ?_ ?_ <;> (intro h; ((try simp only [zs, ne_eq, and_true, true_and, eq_self, reduceCtorEq] at h); try exact zx))) | fail)
  exact Vx rfl ⟨rfl, hself⟩
 ·simp only [he, cdN]
  refine HC.nodeR0 hW h0 h1 ?_
  have ku := Zq0 (X := W9 G.aw G.cw G.nd M.n 0 s.toNat) hW he L
  have hok := Un hW h0 h1
  have hni := Ws hM h0 h1
  obtain ⟨nb, i, l, F, fr, cap, hnv, hb, hg⟩ := Zl9 hW h0 h1
  have hb2 := hb (G.bc :: W9 G.aw G.cw G.nd M.n 0 s.toNat :: L)
  generalize W9 G.aw G.cw G.nd M.n 0 s.toNat = X at *
  generalize hmm : Zd M s = m at *
  generalize Yg G s = g at *
  obtain ⟨pl, site, leads, done⟩ := m
  simp only at hs
  subst hs
  have hoff : pl.off = false := (hni.up j ref rfl).2
  have kr := fun L => Zsh g.rp pl g.left n L
  simp only [if_neg hd, hoff, Bool.false_eq_true, if_false] at kr
  simp only [Wr, Zds, Za1, Zdx, Zk8, Zk7, Vt, hnv] at ku ⊢
  refine Za (fun _ _ => Tryz.call92 _ _) Tryz.func92 rfl Tryz.ntmps92 (Nat.le_of_ble_eq_true rfl) ?_; simp only [Zc, Nat.reduceAdd]
  repeat' (first | refine uN ?_ | refine uC (ku) ?_ | (refine uP ?_ ?_ <;> (intro h; ((try simp only [zs, ne_eq, and_true, true_and, eq_self, reduceCtorEq] at h); try exact zx))) | fail)
  refine fo 7 ?_
  refine gc (kr _) ?_
  rintro v L' ⟨rfl, rfl⟩
  repeat' (first | refine uN ?_ | refine uC (ku) ?_ | (refine uP ?_ ?_ <;> (intro h; ((try simp only [zs, ne_eq, and_true, true_and, eq_self, reduceCtorEq] at h); try exact zx))) | fail)
  refine Yi (L' := Wr G s { g with left := n } ⟨{ pl with cut := n }, some (j, ref), leads, done⟩ X L) ?_ ⟨rfl, G, M, { g with left := n }, ⟨{ pl with cut := n }, some (j, ref), leads, done⟩, hW, rfl, rfl, .refl G, hok.same _ _ _ (fun _ => rfl), rfl, rfl, rfl⟩
  have e1 : Zdv G.aw G.cw { g with left := n } ⟨{ pl with cut := n }, some (j, ref), leads, done⟩ = Zdv G.aw G.cw g ⟨pl, some (j, ref), leads, done⟩ := rfl
  have e2 : Zg4 { g with left := n } ⟨{ pl with cut := n }, some (j, ref), leads, done⟩ = Zg4 g ⟨pl, some (j, ref), leads, done⟩ := rfl
  have e3 : Zjh { g with left := n } ⟨{ pl with cut := n }, some (j, ref), leads, done⟩ = Zjh g ⟨pl, some (j, ref), leads, done⟩ := rfl
  simp only [Wr, Zds, Za1, Zdx, Zk8, Zk7, Vt, hnv]
  rw [e1, e2, e3]
  simp only [hoff]
  exact uL
theorem Zhb (G : RwG) (M : Wm) (s : Int) (L : Zb) (hW : RwOk G M) (hM : WI M) :
  HC Tryz.prog 85 [pt G.wp 0, iv s] (Xs G M ++ L) (fun v L' => v = iv (cdN (Qb M s).2) ∧ Zh9 G (Qb M s).1 L L') := by
 unfold Qb
 have hself := Vl hW L
 rcases Zax (M := M) (s := s) with ⟨e, he⟩ | ⟨he, hn, h0, h1, j, ref, hs⟩
 ·have ku := Zjy s hW L
  have h1 := Zid he
  generalize Xs G M ++ L = H at *
  simp only [he, cdN] at ku ⊢
  refine Za (fun _ _ => Tryz.call85 _ _) Tryz.func85 rfl Tryz.ntmps85 (Nat.le_of_ble_eq_true rfl) ?_; simp only [Zc, Nat.reduceAdd]
  repeat' (first | refine uN ?_ | refine uC (ku) ?_ | (refine uP ?_ ?_ <;> (intro h; ((try simp only [zs, ne_eq, and_true, true_and, eq_self, reduceCtorEq] at h); try exact zx))) | fail)
  exact Vx rfl ⟨rfl, hself⟩
 ·simp only [he, cdN]
  refine HC.nodeR0 hW h0 h1 ?_
  have ku := Zq0 (X := W9 G.aw G.cw G.nd M.n 0 s.toNat) hW he L
  have hok := Un hW h0 h1
  have hni := Ws hM h0 h1
  obtain ⟨nb, i, l, F, fr, cap, hnv, hb, hg⟩ := Zl9 hW h0 h1
  have hb2 := hb (G.bc :: W9 G.aw G.cw G.nd M.n 0 s.toNat :: L)
  generalize W9 G.aw G.cw G.nd M.n 0 s.toNat = X at *
  generalize hmm : Zd M s = m at *
  generalize Yg G s = g at *
  obtain ⟨pl, site, leads, done⟩ := m
  simp only at hs
  subst hs
  have kf := fun L => Zhk g ⟨pl, some (j, ref), leads, done⟩ L hok.ld
  have e0 : Wd g.rp pl g.left = [(g.rp, .cells ⟨[bs pl.b, .bool pl.off, iv g.left, .bool (decide (pl.cut ≠ -1))]⟩ 144)] := by unfold Wd; rfl
  have e1 : Wd g.rp { pl with off := true } g.left = [(g.rp, .cells ⟨[bs pl.b, .bool true, iv g.left, .bool (decide (pl.cut ≠ -1))]⟩ 144)] := by unfold Wd; rfl
  simp only [Wr, Zds, Za1, Zdx, Zk8, Zk7, Vt, hnv, e0] at ku kf ⊢
  refine Za (fun _ _ => Tryz.call85 _ _) Tryz.func85 rfl Tryz.ntmps85 (Nat.le_of_ble_eq_true rfl) ?_; simp only [Zc, Nat.reduceAdd]
  repeat' (first | refine uN ?_ | refine uC (ku) ?_ | (refine uP ?_ ?_ <;> (intro h; ((try simp only [zs, ne_eq, and_true, true_and, eq_self, reduceCtorEq] at h); try exact zx))) | fail)
  refine fo 2 ?_
  refine gc (kf _) ?_
  rintro v L' ⟨bl, rfl, rfl⟩
  repeat' (first | refine uN ?_ | refine uC (ku) ?_ | (refine uP ?_ ?_ <;> (intro h; ((try simp only [zs, ne_eq, and_true, true_and, eq_self, reduceCtorEq] at h); try exact zx))) | fail)
  have e := Zsx (aw := G.aw) (cw := G.cw) (g := { g with bl := bl }) hok.ld (pl := { pl with off := true }) (st := none) (dn := done)
  refine Yi (L' := Wr G s { g with bl := bl } (Zit ⟨pl, some (j, ref), leads, done⟩) X L) ?_ ⟨rfl, G, M, { g with bl := bl }, Zit ⟨pl, some (j, ref), leads, done⟩, hW, rfl, rfl, .refl G, hok.fall _ _ _ hok.left, rfl, rfl, rfl⟩
  have e3 : Zjh { g with bl := bl } ⟨{ pl with off := true }, none, noLeads, done⟩ = Zjh g ⟨pl, some (j, ref), leads, done⟩ := rfl
  have e4 : Zg4 { g with bl := bl } ⟨{ pl with off := true }, none, noLeads, done⟩ = Zg4 { g with bl := bl } ⟨pl, none, noLeads, done⟩ := rfl
  simp only [Wr, Zds, Za1, Zdx, Zk8, Zk7, Vt, hnv, Zit, e, e1]
  rw [e3, e4]
  exact uL
theorem Zkl (G : RwG) (M : Wm) (s : Int) (L : Zb) (hW : RwOk G M) (hM : WI M) :
  HC Tryz.prog 86 [pt G.wp 0, iv s] (Xs G M ++ L) (fun v L' => v = iv (cdN (Zl5 M s).2) ∧ Zh9 G (Zl5 M s).1 L L') := by
 unfold Zl5
 have hself := Vl hW L
 rcases Vm (M := M) s with he | ⟨he, h0, h1⟩
 ·have hI := Zcz hW L
  obtain ⟨a, cap, hnv, hR⟩ := hI.ns
  have hw := hI.wp
  unfold Vt at hw
  rw [hnv] at hw
  have hs : s < 0 ∨ M.n.length ≤ s := by
   unfold X0 at he
   split at he
   ·assumption
   ·cases he
  generalize Xs G M ++ L = H at *
  simp only [he, cdN]
  refine Za (fun _ _ => Tryz.call86 _ _) Tryz.func86 rfl Tryz.ntmps86 (Nat.le_of_ble_eq_true rfl) ?_; simp only [Zc, Nat.reduceAdd]
  repeat' (first | refine uN ?_ | (refine uP ?_ ?_ <;> (intro h; ((try simp only [zs, ne_eq, and_true, true_and, eq_self, reduceCtorEq] at h); try exact zx))) | fail)
  all_goals exact Vx rfl ⟨rfl, hself⟩
 ·simp only [he]
  cases hs : (Zd M s).site with
  | some q =>
   have hI := Zcz hW L
   obtain ⟨b9, i, l, F, fr, cap, hnv, hb, hg⟩ := Zks hI hW.ndl h0 h1
   have hw := hI.wp
   unfold Vt at hw
   rw [hnv] at hw
   have hN := Zfi hW.ndl h0 h1 L
   unfold Za1 at hN
   rw [hs] at hN
   obtain ⟨q1, q2⟩ := q
   simp only [Zdx] at hN
   generalize Xs G M ++ L = H at *
   simp only [Option.isSome_some, if_true, cdN]
   refine Za (fun _ _ => Tryz.call86 _ _) Tryz.func86 rfl Tryz.ntmps86 (Nat.le_of_ble_eq_true rfl) ?_; simp only [Zc, Nat.reduceAdd]
   repeat' (first | refine uN ?_ | (refine uP ?_ ?_ <;> (intro h; ((try simp only [zs, ne_eq, and_true, true_and, eq_self, reduceCtorEq] at h); try exact zx))) | fail)
   exact Vx rfl ⟨rfl, hself⟩
  | none =>
   simp only [Option.isSome_none, Bool.false_eq_true, if_false, cdN]
   refine HC.nodeR0 hW h0 h1 ?_
   have hok := Un hW h0 h1
   have hni := Ws hM h0 h1
   obtain ⟨nb, i, l, F, fr, cap, hnv, hb, hg⟩ := Zl9 hW h0 h1
   have hb2 := hb (G.bc :: W9 G.aw G.cw G.nd M.n 0 s.toNat :: L)
   have hnp := fun H hH => Zm5 hW h0 h1 (H := H) hH
   generalize W9 G.aw G.cw G.nd M.n 0 s.toNat = X at *
   generalize hmm : Zd M s = m at *
   generalize Yg G s = g at *
   obtain ⟨pl, site, leads, done⟩ := m
   simp only at hs
   subst hs
   have hpl : pl.b.length = 512 := hni.b512
   have kon := fun L => Zwd g.rp pl g.left L
   have kne := fun L => Zck s g.rp { pl with off := false, cut := -1 } g.left L (by simp only; omega) (by simp only; omega)
   have e0 : ∀ pl', ∃ q, Wd g.rp pl' g.left = [(g.rp, q)] := fun pl' => ⟨_, by unfold Wd; rfl⟩
   simp only [Wr, Zds, Za1, Zdx, Zk8, Zk7, Vt, hnv]
   refine Za (fun _ _ => Tryz.call86 _ _) Tryz.func86 rfl Tryz.ntmps86 (Nat.le_of_ble_eq_true rfl) ?_; simp only [Zc, Nat.reduceAdd]
   repeat' (first | refine uN ?_ | (refine uP ?_ ?_ <;> (intro h; ((try simp only [zs, ne_eq, and_true, true_and, eq_self, reduceCtorEq] at h); try exact zx))) | fail)
   refine fo 7 ?_
   refine gc (kon _) ?_
   rintro v L' ⟨rfl, rfl⟩
   repeat' (first | refine uN ?_ | (refine uP ?_ ?_ <;> (intro h; ((try simp only [zs, ne_eq, and_true, true_and, eq_self, reduceCtorEq] at h); try exact zx))) | fail)
   refine gc (kne _) ?_
   rintro v L' ⟨rs, bR, r, rfl, hr, rfl⟩
   repeat' (first | refine uN ?_ | (refine uP ?_ ?_ <;> (intro h; ((try simp only [zs, ne_eq, and_true, true_and, eq_self, reduceCtorEq] at h); try exact zx))) | fail)
   refine fo 7 ?_
   refine fo 5 ?_
   refine fo 5 ?_
   have kn := fun L hq hN2 (hsi : ∀ (j2 : Jn) (r2 : Int → Bool), some (j2, r2) = some ((⟨Zo pl.b, false⟩ : Jn), (fun _ => false : Int → Bool)) → RsIn L { g with rs := rs, bR := bR, r := r } s j2) => Zhq G s { g with rs := rs, bR := bR, r := r } (Vy ⟨pl, none, leads, done⟩) M.ev M.n.length L hW.ev hM.evl hq hN2 hni.done (fun j2 r2 h2 => ⟨hsi j2 r2 h2.symm, by cases h2; exact Zgc _⟩)
   simp only [Vt, Zjh, Za1, Zdx, Vy, hnv] at kn ⊢
   refine gc (kn _ ?_ ?_ ?_) ?_
   ·refine ⟨⟨nb, i, l, F, fr, cap, rfl, ?_, hg⟩, h0, h1⟩
    exact Zf (Zf (Zf (Zf (Zf (Zf (Zf (Zf (Zf (hb _)))))))))
   ·exact Zf (Zf (Zf Zv))
   ·intro j2 r2 h2
    cases h2
    exact Zn7 (g := { g with rs := rs, bR := bR, r := r }) (ref := fun _ => false) (fun p hp => Yu hp) (fun p hp => Zf (Yu hp))
   rintro v L' ⟨evv, c, hv, rfl, rfl⟩
   repeat' (first | refine uN ?_ | (refine uP ?_ ?_ <;> (intro h; ((try simp only [zs, ne_eq, and_true, true_and, eq_self, reduceCtorEq] at h); try exact zx))) | fail)
   refine Yi (L' := Wr { G with ev := evv, ec := c } s { g with rs := rs, bR := bR, r := r } { Vy ⟨pl, none, leads, done⟩ with done := (Xb s (Vy ⟨pl, none, leads, done⟩) M.ev).1 } X L) ?_ ⟨rfl, { G with ev := evv, ec := c }, { M with ev := (Xb s (Vy ⟨pl, none, leads, done⟩) M.ev).2 }, { g with rs := rs, bR := bR, r := r }, { Vy ⟨pl, none, leads, done⟩ with done := (Xb s (Vy ⟨pl, none, leads, done⟩) M.ev).1 }, hW.setE hv, rfl, rfl, ⟨rfl, rfl, rfl, rfl, rfl⟩, ⟨hok.ld, hr, fun h => absurd rfl h, hok.lok⟩, rfl, rfl, rfl⟩
   have e1 : ∀ dn, Zdv G.aw G.cw { g with rs := rs, bR := bR, r := r } ⟨{ pl with off := false, cut := -1 }, some (⟨Zo pl.b, false⟩, fun _ => false), leads, dn⟩ = Zdv G.aw G.cw g ⟨pl, none, leads, done⟩ := fun _ => rfl
   have e2 : ∀ dn, Zg4 { g with rs := rs, bR := bR, r := r } ⟨{ pl with off := false, cut := -1 }, some (⟨Zo pl.b, false⟩, fun _ => false), leads, dn⟩ = Zg4 g ⟨pl, none, leads, done⟩ := fun _ => rfl
   simp only [Wr, Zds, Za1, Zdx, Zk8, Zk7, Vt, Zjh, hnv, Vy, e1, e2]
   exact uL
end Go.HL
end

/-! MwG -/
section
namespace Go.HL
open Go Go.Proofs
set_option linter.unusedVariables false
set_option linter.unusedSimpArgs false
def Zbd (a b : Int) (l : List (Int × Int)) : List (Int × Int) := l.filter fun p => decide (p ≠ (a, b)) && decide (p ≠ (b, a))
def Zfc (a b : Int) (whole : Bool) (l : List (Int × Int)) : List (Int × Int) := if (!whole && decide (a ≠ b)) = true then Zbd a b l ++ [(a, b)] else Zbd a b l
theorem fltB_mem {a b : Int} {l : List (Int × Int)} {p : Int × Int} : p ∈ Zbd a b l ↔ p ∈ l ∧ p ≠ (a, b) ∧ p ≠ (b, a) := by
 unfold Zbd
 rw [List.mem_filter]
 simp
theorem lnkB_mem {a b : Int} {whole : Bool} {l : List (Int × Int)} {p : Int × Int} : p ∈ Zfc a b whole l ↔ (p ∈ l ∧ p ≠ (a, b) ∧ p ≠ (b, a)) ∨ ((!whole && decide (a ≠ b)) = true ∧ p = (a, b)) := by
 unfold Zfc
 split
 ·rename_i h
  rw [List.mem_append, fltB_mem, List.mem_singleton]
  simp only [h, true_and]
 ·rename_i h
  rw [fltB_mem]
  simp only [h, Bool.false_eq_true, false_and, or_false]
theorem br_link {l : List (Int × Int)} {f : Int × Int → Bool} (h : BrOk l f) (a b : Int) (whole : Bool) : BrOk (Zfc a b whole l) (fun x => if x = (min a b, max a b) then (!whole && decide (a ≠ b)) else f x) := by
 intro c d
 simp only
 by_cases hs : (c = a ∧ d = b) ∨ (c = b ∧ d = a)
 ·have e : (min c d, max c d) = (min a b, max a b) := by
   refine Prod.ext ?_ ?_ <;> simp only <;> omega
  rw [if_pos e]
  cases hv : (!whole && decide (a ≠ b)) with
  | true =>
   symm
   refine decide_eq_true ?_
   rcases hs with ⟨rfl, rfl⟩ | ⟨rfl, rfl⟩
   ·exact .inl (lnkB_mem.2 (.inr ⟨hv, rfl⟩))
   ·exact .inr (lnkB_mem.2 (.inr ⟨hv, rfl⟩))
  | false =>
   symm
   refine decide_eq_false ?_
   rintro (k | k)
   ·rcases lnkB_mem.1 k with ⟨-, h1, h2⟩ | ⟨h1, -⟩
    ·rcases hs with ⟨rfl, rfl⟩ | ⟨rfl, rfl⟩
     ·exact h1 rfl
     ·exact h2 rfl
    ·rw [hv] at h1; cases h1
   ·rcases lnkB_mem.1 k with ⟨-, h1, h2⟩ | ⟨h1, -⟩
    ·rcases hs with ⟨rfl, rfl⟩ | ⟨rfl, rfl⟩
     ·exact h2 rfl
     ·exact h1 rfl
    ·rw [hv] at h1; cases h1
 ·have e : (min c d, max c d) ≠ (min a b, max a b) := by
   intro e
   have e1 := congrArg Prod.fst e
   have e2 := congrArg Prod.snd e
   simp only at e1 e2
   omega
  rw [if_neg e, h c d]
  have hne : ∀ x y : Int, ¬ (x = a ∧ y = b) → (x, y) ≠ (a, b) := fun x y k q => k ⟨congrArg Prod.fst q, congrArg Prod.snd q⟩
  have hne2 : ∀ x y : Int, ¬ (x = b ∧ y = a) → (x, y) ≠ (b, a) := fun x y k q => k ⟨congrArg Prod.fst q, congrArg Prod.snd q⟩
  have key : ∀ x y : Int, ¬ (x = a ∧ y = b) → ¬ (x = b ∧ y = a) → ((x, y) ∈ Zfc a b whole l ↔ (x, y) ∈ l) := fun x y k1 k2 => by
   rw [lnkB_mem]
   constructor
   ·rintro (⟨k, -⟩ | ⟨-, k⟩)
    ·exact k
    ·exact absurd k (hne x y k1)
   ·exact fun k => .inl ⟨k, hne x y k1, hne2 x y k2⟩
  have k1 := key c d (fun q => hs (.inl q)) (fun q => hs (.inr q))
  have k2 := key d c (fun q => hs (.inr ⟨q.2, q.1⟩)) (fun q => hs (.inl ⟨q.2, q.1⟩))
  simp only [k1, k2]
theorem Zsl {a b : Int} {whole : Bool} {l : List (Int × Int)} (h : l.Nodup) : (Zfc a b whole l).Nodup := by
 have hf : (Zbd a b l).Nodup := h.sublist List.filter_sublist
 unfold Zfc
 split
 ·refine List.nodup_append.2 ⟨hf, by simp, fun x hx y hy => ?_⟩
  rw [List.mem_singleton] at hy
  subst hy
  exact (fltB_mem.1 hx).2.1
 ·exact hf
theorem Zql {a b : Int} {l : List (Int × Int)} : (Zbd a b l).length ≤ l.length := List.length_filter_le ..
set_option maxHeartbeats 2000000 attribute [local irreducible] HW HO HQ HD HC QOp Has Upd Zt Gets Yb Z6 Zr Xr Z4 Zm Xx Zy
attribute [local irreducible] Zo Zp Qj Wd
theorem Zob (G : RwG) (n : Nat) (a z : Int) (whole : Bool) (L : Zb) (an : Option Addr) (capn : Nat) (hnv : G.nv = .slice an n capn) (hv : Vec 133 2 bc2 G.bv G.bl G.bc) (hbl : G.bl.length ≤ 49) (h : ¬ (a < 0 ∨ n ≤ a ∨ z < 0 ∨ n ≤ z)) :
  HC Tryz.prog 90 [pt G.wp 0, iv a, iv z, .bool whole] ([(G.wp, Vt G)] :: G.bc :: L) (fun v L' => ∃ bv bc, Vec 133 2 bc2 bv (Zfc a z whole G.bl) bc ∧ v = iv 0 ∧ L' = [(G.wp, Vt { G with bv := bv, bc := bc, bl := Zfc a z whole G.bl })] :: bc :: L) := by
 obtain ⟨wp, aw, cw, wl, nv, nc, bv, bc, bl, lv, lc, evv, evc, nd⟩ := G
 simp only [Vt] at hv hnv hbl ⊢
 subst hnv
 obtain ⟨ab, cap, rfl, hcap, hR⟩ := hv.rd Zdi
 have hfl := fun k => Zql (a := a) (b := z) (l := bl.take k)
 have hl9 : (Zbd a z bl).length ≤ 49 := Nat.le_trans Zql hbl
 refine Za (fun _ _ => Tryz.call90 _ _) Tryz.func90 rfl Tryz.ntmps90 (Nat.le_of_ble_eq_true rfl) ?_; simp only [Zc, Nat.reduceAdd]
 repeat' (first | refine uN ?_ | (refine uB ?_; intro b) | (refine uP ?_ ?_ <;> (intro h; ((try simp only [zs, ne_eq, and_true, true_and, eq_self, reduceCtorEq] at h); try exact zx))) | fail)
 refine Zie ?_
 refine Zn (σ := Nat × Value × List Zq) (fun q => [(0, pt wp 0), (1, iv a), (2, iv z), (3, .bool whole), (9, q.2.1), (10, iv q.1)]) (fun q => q.2.2 :: [(wp, .cells ⟨[.slice aw wl cw, .slice an n capn, .slice ab bl.length cap, lv, evv]⟩ 94)] :: bc :: L) (fun q => q.1 ≤ bl.length ∧ Vec 133 2 bc2 q.2.1 (Zbd a z (bl.take q.1)) q.2.2) (fun q => bl.length - q.1) (0, Y4, []) uS (List.Sublist.refl _) ⟨by simp, Zu⟩ ?_
 rintro ⟨k, v, c⟩ ⟨hk, hv'⟩
 simp only at hk hv' ⊢
 have hfk := hfl k
 have hlen : (bl.take k).length ≤ 49 := by rw [List.length_take]; omega
 by_cases hlt : k < bl.length
 ·obtain ⟨bh, ih, lh, Eh, frh, hah, hbh, hgh⟩ := (hR L).at (j := (k : Int)) (by omega) (by omega)
  subst hah
  have hg0 : Gets lh (ih + (k : Int).toNat * 2) (bc2 bl[k]) := hgh
  have hs : bl.take (k + 1) = bl.take k ++ [bl[k]] := List.take_succ_eq_append_getElem hlt
  generalize bl[k] = x at *
  obtain ⟨x1, x2⟩ := x
  have hbh2 : Has (c :: [(wp, .cells ⟨[.slice aw wl cw, .slice an n capn, .slice (some ⟨bh, ih, none⟩) bl.length cap, lv, evv]⟩ 94)] :: bc :: L) bh (.cells ⟨lh⟩ Eh frh) := Zf (Zf hbh)
  by_cases h1 : (x1, x2) = (a, z) ∨ (x1, x2) = (z, a)
  ·have e2 : Zbd a z (bl.take (k + 1)) = Zbd a z (bl.take k) := by
    rw [hs]; unfold Zbd
    rw [List.filter_append, List.filter_cons_of_neg (by rcases h1 with h1 | h1 <;> simp [h1]), List.filter_nil, List.append_nil]
   rcases h1 with h1 | h1
   ·cases h1
    repeat' (first | refine uN ?_ | (refine uB ?_; intro b) | (refine uP ?_ ?_ <;> (intro h; ((try simp only [zs, ne_eq, and_true, true_and, eq_self, reduceCtorEq] at h); try exact zx))) | fail)
    all_goals refine Zg (k + 1, v, c) uS uL ⟨by simp only; omega, by simp only; rw [e2]; exact hv'⟩ (by simp only; omega)
   ·cases h1
    repeat' (first | refine uN ?_ | (refine uB ?_; intro b) | (refine uP ?_ ?_ <;> (intro h; ((try simp only [zs, ne_eq, and_true, true_and, eq_self, reduceCtorEq] at h); try exact zx))) | fail)
    all_goals refine Zg (k + 1, v, c) uS uL ⟨by simp only; omega, by simp only; rw [e2]; exact hv'⟩ (by simp only; omega)
  ·have h1a : ¬ (x1 = a ∧ x2 = z) := fun q => h1 (.inl (Prod.ext q.1 q.2))
   have h1b : ¬ (x1 = z ∧ x2 = a) := fun q => h1 (.inr (Prod.ext q.1 q.2))
   have e2 : Zbd a z (bl.take (k + 1)) = Zbd a z (bl.take k) ++ [(x1, x2)] := by
    rw [hs]; unfold Zbd
    rw [List.filter_append, List.filter_cons_of_pos (by rw [Bool.and_eq_true]; exact ⟨decide_eq_true (fun q => h1 (.inl q)), decide_eq_true (fun q => h1 (.inr q))⟩), List.filter_nil]
   repeat' (first | refine uN ?_ | (refine uB ?_; intro b) | (refine uP ?_ ?_ <;> (intro h; ((try simp only [zs, ne_eq, and_true, true_and, eq_self, reduceCtorEq] at h); try exact zx))) | fail)
   all_goals try exact absurd (by assumption : x1 = a ∧ x2 = z) h1a
   all_goals try exact absurd (by assumption : x1 = z ∧ x2 = a) h1b
   all_goals refine fo 1 ?_
   all_goals refine Zea S (x1, x2) hv' Zdi Ztw ?_
   all_goals intro v' c' hv2
   all_goals repeat' (first | refine uN ?_ | (refine uB ?_; intro b) | (refine uP ?_ ?_ <;> (intro h; ((try simp only [zs, ne_eq, and_true, true_and, eq_self, reduceCtorEq] at h); try exact zx))) | fail)
   all_goals refine Zg (k + 1, v', c') uS uL ⟨by simp only; omega, by simp only; rw [e2]; exact hv2⟩ (by simp only; omega)
 ·obtain rfl : k = bl.length := by omega
  rw [List.take_length] at hv'
  obtain ⟨a7, cap7, rfl, -, -⟩ := hv'.rd Zdi
  cases whole with
  | true =>
   have e3 : Zfc a z true bl = Zbd a z bl := rfl
   rw [e3]
   repeat' (first | refine uN ?_ | (refine uB ?_; intro b) | (refine uP ?_ ?_ <;> (intro h; ((try simp only [zs, ne_eq, and_true, true_and, eq_self, reduceCtorEq] at h); try exact zx))) | fail)
   all_goals exact Yi (L' := [(wp, .cells ⟨[.slice aw wl cw, .slice an n capn, .slice a7 (Zbd a z bl).length cap7, lv, evv]⟩ 94)] :: c :: L) uL ⟨_, c, hv', rfl, rfl⟩
  | false =>
   by_cases hab : a = z
   ·have e3 : Zfc a z false bl = Zbd a z bl := by unfold Zfc; rw [if_neg (by simp [hab])]
    rw [e3]
    repeat' (first | refine uN ?_ | (refine uB ?_; intro b) | (refine uP ?_ ?_ <;> (intro h; ((try simp only [zs, ne_eq, and_true, true_and, eq_self, reduceCtorEq] at h); try exact zx))) | fail)
    all_goals exact Yi (L' := [(wp, .cells ⟨[.slice aw wl cw, .slice an n capn, .slice a7 (Zbd a z bl).length cap7, lv, evv]⟩ 94)] :: c :: L) uL ⟨_, c, hv', rfl, rfl⟩
   ·have e3 : Zfc a z false bl = Zbd a z bl ++ [(a, z)] := by unfold Zfc; rw [if_pos (by simp [hab])]
    rw [e3]
    repeat' (first | refine uN ?_ | (refine uB ?_; intro b) | (refine uP ?_ ?_ <;> (intro h; ((try simp only [zs, ne_eq, and_true, true_and, eq_self, reduceCtorEq] at h); try exact zx))) | fail)
    all_goals refine fo 1 ?_
    all_goals refine Zea S (a, z) hv' Zdi Ztw ?_
    all_goals intro v' c' hv2
    all_goals obtain ⟨a8, cap8, rfl, -, -⟩ := hv2.rd Zdi
    all_goals repeat' (first | refine uN ?_ | (refine uB ?_; intro b) | (refine uP ?_ ?_ <;> (intro h; ((try simp only [zs, ne_eq, and_true, true_and, eq_self, reduceCtorEq] at h); try exact zx))) | fail)
    all_goals exact Yi (L' := [(wp, .cells ⟨[.slice aw wl cw, .slice an n capn, .slice a8 (Zbd a z bl ++ [(a, z)]).length cap8, lv, evv]⟩ 94)] :: c' :: L) uL ⟨_, c', hv2, rfl, rfl⟩
theorem Zg8 (G : RwG) (M : Wm) (a z : Int) (whole : Bool) (L : Zb) (hW : RwOk G M) (hM : WI M) :
  HC Tryz.prog 90 [pt G.wp 0, iv a, iv z, .bool whole] (Xs G M ++ L) (fun v L' => v = iv (cdN (Ue M a z whole).2) ∧ Zh9 G (Ue M a z whole).1 L L') := by
 unfold Ue
 have hself := Vl hW L
 have hI := Zcz hW L
 obtain ⟨an, capn, hnv, hnr⟩ := hI.ns
 by_cases h : a < 0 ∨ M.n.length ≤ a ∨ z < 0 ∨ M.n.length ≤ z
 ·simp only [if_pos h, cdN]
  have hw := hI.wp
  unfold Vt at hw
  rw [hnv] at hw
  generalize Xs G M ++ L = H at *
  refine Za (fun _ _ => Tryz.call90 _ _) Tryz.func90 rfl Tryz.ntmps90 (Nat.le_of_ble_eq_true rfl) ?_; simp only [Zc, Nat.reduceAdd]
  repeat' (first | refine uN ?_ | (refine uB ?_; intro b) | (refine uP ?_ ?_ <;> (intro h; ((try simp only [zs, ne_eq, and_true, true_and, eq_self, reduceCtorEq] at h); try exact zx))) | fail)
  all_goals exact Vx rfl ⟨rfl, hself⟩
 ·simp only [if_neg h, cdN]
  have hn := hM.wn
  have hwl := hM.wl
  have e : LS ([(G.wp, Vt G)] :: G.bc :: G.ec :: G.lc :: G.nc :: Q5 G.aw G.cw G.nd M.n 0 :: L : Zb).flatten (Xs G M ++ L).flatten := by
   simp only [Xs, Zd3, List.cons_append, List.nil_append]
   exact uL
  refine HC.post (HC.sp (Zob G M.n.length a z whole _ an capn hnv hW.br hW.bll h) e) ?_
  rintro v L' ⟨bv, bc, hv, rfl, rfl⟩
  refine ⟨Xs { G with bv := bv, bc := bc, bl := Zfc a z whole G.bl } { M with br := fun x => if x = (min a z, max a z) then (!whole && decide (a ≠ z)) else M.br x } ++ L, ?_, rfl, Zig (hW.setB hv (br_link hW.bro a z whole) (Zsl hW.bln) ?_) ⟨rfl, rfl, rfl, rfl, rfl⟩⟩
  ·simp only [Xs, Zd3, List.cons_append, List.nil_append]
   exact uL
  ·intro p hp
   rcases lnkB_mem.1 hp with ⟨k, -⟩ | ⟨-, rfl⟩
   ·exact hW.blr p k
   ·exact prs_in (by omega) (by omega) (by omega) (by omega)
theorem Zh5 {g : NrG} {m : Nd} {d : Nat} {o : Option Ld} {q : Nat × Value × List Zq} (h1 : m.leads[d]? = some o) (h2 : g.ld[d]? = some q) : (Ur g m)[d]? = some (Zed o q) := by
 unfold Ur
 rw [List.getElem?_zipWith, h1, h2]
theorem Zpk {aw : Option Addr} {cw : Nat} {g : NrG} {m : Nd} {d : Nat} {x : Ld} {q : Nat × Value × List Zq} (h1 : m.leads[d]? = some (some x)) (h2 : g.ld[d]? = some q) {y : Zq} (hy : y ∈ Up q.1 aw cw q.2.1 q.2.2 x) : y ∈ Zdv aw cw g m := by
 unfold Zdv
 refine List.mem_flatten.2 ⟨Up q.1 aw cw q.2.1 q.2.2 x, ?_, hy⟩
 refine List.mem_iff_getElem?.2 ⟨d, ?_⟩
 rw [List.getElem?_zipWith, h1, h2]
 rfl
theorem Zk5 (G : RwG) (M : Wm) (s : Int) (d : Nat) (L : Zb) (hW : RwOk G M) (hM : WI M) (h0 : 0 ≤ s) (h1 : s < M.n.length) (hd : d < 6) :
  HC Tryz.prog 96 [pt G.wp 0, iv s, iv d] (Xs G M ++ L) (fun v L' => v = bs (Zae M s d).1 ∧ L' = Xs G M ++ L) := by
 have hI := Zcz hW L
 obtain ⟨b9, i, l, F, fr, cap, hnv, hb, hg⟩ := Zks hI hW.ndl h0 h1
 have hw := hI.wp
 unfold Vt at hw
 rw [hnv] at hw
 have hN := Zfi hW.ndl h0 h1 L
 have hA := fun {b o} (hb : (b, o) ∈ Zf2 G.aw G.cw (Yg G s) s (Zd M s)) => Zfh hW.ndl h0 h1 hb L
 have hok := Un hW h0 h1
 have hni := Ws hM h0 h1
 generalize Xs G M ++ L = H at *
 unfold Zae
 rw [if_neg (by omega)]
 generalize Zd M s = m at *
 generalize Yg G s = g at *
 simp only [Int.toNat_natCast]
 have hm1 : m.leads[d]? = some (m.leads.getD d none) := getD_some (by rw [hni.leads]; exact hd)
 obtain ⟨q, hq⟩ : ∃ q, g.ld[d]? = some q := ⟨_, List.getElem?_eq_getElem (by rw [hok.ld]; exact hd)⟩
 have hv := Zh5 hm1 hq
 have hL : Has H g.bl (.cells ⟨Ur g m⟩ 209) := hA (by simp [Zf2, Zg4])
 unfold Za1 at hN
 have gL : (Ur g m)[0 + (d : Int).toNat]? = some (Zed (m.leads.getD d none) q) := by rw [Nat.zero_add, Int.toNat_natCast]; exact hv
 cases hx : m.leads.getD d none with
 | none =>
  rw [hx] at gL
  simp only [Zed] at gL
  refine Za (fun _ _ => Tryz.call96 _ _) Tryz.func96 rfl Tryz.ntmps96 (Nat.le_of_ble_eq_true rfl) ?_; simp only [Zc, Nat.reduceAdd]
  repeat' (first | refine uN ?_ | (refine uP ?_ ?_ <;> (intro h; ((try simp only [zs, ne_eq, and_true, true_and, eq_self, reduceCtorEq] at h); try exact zx))) | fail)
  exact Vx rfl ⟨rfl, rfl⟩
 | some x =>
  rw [hx] at gL hm1
  simp only [Zed] at gL
  have hLd : Has H q.1 (.cells ⟨Zwl G.aw G.cw q.2.1 x⟩ 217) := hA (by
   unfold Zf2
   exact List.mem_append_right _ (List.mem_append_right _ (List.mem_append_right _ (List.mem_append_right _ (List.mem_append_right _ (List.mem_append_right _ (Zpk hm1 hq (by simp [Up]))))))))
  unfold Zwl at hLd
  refine Za (fun _ _ => Tryz.call96 _ _) Tryz.func96 rfl Tryz.ntmps96 (Nat.le_of_ble_eq_true rfl) ?_; simp only [Zc, Nat.reduceAdd]
  repeat' (first | refine uN ?_ | (refine uP ?_ ?_ <;> (intro h; ((try simp only [zs, ne_eq, and_true, true_and, eq_self, reduceCtorEq] at h); try exact zx))) | fail)
  exact Vx rfl ⟨rfl, rfl⟩
end Go.HL
end

/-! MwH -/
section
namespace Go.HL
open Go Go.Proofs
set_option linter.unusedVariables false
set_option linter.unusedSimpArgs false
theorem Zgw {aw : Option Addr} {cw : Nat} {g : NrG} {m : Nd} {d : Nat} {o : Option Ld} {q : Nat × Value × List Zq} (h1 : m.leads[d]? = some o) (h2 : g.ld[d]? = some q) :
  ∃ A B, Zdv aw cw g m = A ++ (rlB aw cw o q ++ B) ∧ ∀ o' q' (m' : Nd) (g' : NrG), m'.leads = m.leads.set d o' → g'.ld = g.ld.set d q' → Zdv aw cw g' m' = A ++ (rlB aw cw o' q' ++ B) := by
 obtain ⟨A, B, e1, e2⟩ := Zi8 (rlB aw cw) h1 h2
 refine ⟨A, B, e1, fun o' q' m' g' h3 h4 => ?_⟩
 unfold Zdv
 rw [h3, h4]
 exact e2 o' q'
theorem Ziw {g g' : NrG} {m m' : Nd} {d : Nat} {o' : Option Ld} {q' : Nat × Value × List Zq} (h3 : m'.leads = m.leads.set d o') (h4 : g'.ld = g.ld.set d q') : Ur g' m' = (Ur g m).set d (Zed o' q') := by
 have := Ze3 (g := ⟨0, 0, 0, 0, 0, 0, [], 0, g.ld⟩) (g' := ⟨0, 0, 0, 0, 0, 0, [], 0, g'.ld⟩) (m := m) (m' := m') h3 h4
 exact this
theorem NrOk.lead {g : NrG} {m : Nd} (h : NrOk g m) {d : Nat} {x : Ld} {q : Nat × Value × List Zq} {hs : List Fr} (hx : Zx q.2.1 hs q.2.2) (hr : RelH x hs) : NrOk { g with ld := g.ld.set d q } { m with leads := m.leads.set d (some x) } := by
 refine ⟨by simp [h.ld], h.rp, h.left, fun e y hy p hp => ?_⟩
 simp only [List.getElem?_set] at hy hp
 by_cases hde : d = e
 ·rw [if_pos hde] at hy hp
  split at hy
  ·split at hp
   ·cases hy; cases hp; exact ⟨hs, hx, hr⟩
   ·cases hp
  ·cases hy
 ·rw [if_neg hde] at hy hp
  exact h.lok e y hy p hp
theorem LS.has {L H : Zb} (h : LS L.flatten H.flatten) {b : Nat} {o : Obj} (hb : Has L b o) : Has H b o := h.mem hb
theorem Has.app {L : Zb} (T : Zb) {b : Nat} {o : Obj} (hb : Has L b o) : Has (L ++ T) b o := by
 unfold Has at *
 rw [List.flatten_append]
 exact List.mem_append_left _ hb
theorem ls8 {x0 x1 x2 x3 x4 x5 x6 x7 c A B : List Zq} {D : Zb} : LS (x0 :: x1 :: x2 :: x3 :: x4 :: x5 :: x6 :: x7 :: (A ++ (c ++ B)) :: D).flatten (x0 :: x1 :: x2 :: x3 :: x4 :: x5 :: x6 :: x7 :: c :: A :: B :: D).flatten := LS.k (LS.k (LS.k (LS.k (LS.k (LS.k (LS.k (LS.k ls_mid')))))))
theorem ls8' {x0 x1 x2 x3 x4 x5 x6 x7 c A B : List Zq} {D : Zb} : LS (x0 :: x1 :: x2 :: x3 :: x4 :: x5 :: x6 :: x7 :: c :: A :: B :: D).flatten (x0 :: x1 :: x2 :: x3 :: x4 :: x5 :: x6 :: x7 :: (A ++ (c ++ B)) :: D).flatten := LS.k (LS.k (LS.k (LS.k (LS.k (LS.k (LS.k (LS.k ls_mid)))))))
theorem Rd.up {α : Type} {enc : α → List Value} {sz : Nat} {L : Zb} {a : Option Addr} {xs : List α} (h : Rd enc sz L a xs) (T : Zb) : Rd enc sz (T ++ L) a xs := h.mono fun b o hb => by
 unfold Has at *
 rw [List.flatten_append]
 exact List.mem_append_right _ hb
theorem hearU_no {M : Wm} {s : Int} {f : Fr} (h : Zin s (Zd M s) f = false) : (Yo M s f).2.1 = [] := by
 unfold Zin at h
 unfold Yo Y7
 split at h
 ·rename_i hs
  simp only [hs]
 ·rename_i j ref hs
  have ho : (Zp s ref (Zd M s).pl j f).1.off = true := by simpa using h
  simp only [hs, if_pos ho]
set_option maxHeartbeats 2000000 attribute [local irreducible] HW HO HQ HD HC QOp Has Upd Zt Gets Yb Z6 Zr Xr Z4 Zm Xx Zy
attribute [local irreducible] Zo Zp Qj Wd Zeo
set_option maxHeartbeats 1000000 in
theorem Q7 (G : RwG) (M : Wm) (k : Int) (L : Zb) (hRw : Rd ic 1 L G.aw M.w) (hW : RwOk G M) (hM : WI M) (hl : M.l.length ≤ 99999000) :
  HC Tryz.prog 93 [pt G.wp 0, iv k] (Xs G M ++ L) (fun v L' => v = iv (cdN (Zw M k).2) ∧ Zh9 G (Zw M k).1 L L') := by
 have hself := Vl hW L
 have kt := fun L => Zg3 G M.l k L hW.l (by omega)
 unfold Zw Zk1
 by_cases h : k < 0 ∨ M.l.length ≤ k
 ·simp only [if_pos h, cdN] at kt ⊢
  simp only [Xs, Zd3, List.cons_append, List.nil_append] at hself ⊢
  refine Za (fun _ _ => Tryz.call93 _ _) Tryz.func93 rfl Tryz.ntmps93 (Nat.le_of_ble_eq_true rfl) ?_; simp only [Zc, Nat.reduceAdd]
  repeat' (first | refine uN ?_ | refine Yc S ?_ | (refine uB ?_; intro b) | (refine uP ?_ ?_ <;> (intro h; ((try simp only [zs, ne_eq, and_true, true_and, eq_self, reduceCtorEq] at h); try exact zx))) | refine da 101 ?_ | fail)
  refine fo 2 ?_
  refine fo 1 ?_
  refine gc (kt _) ?_
  rintro v L' ⟨rfl, rfl⟩
  repeat' (first | refine uN ?_ | refine Yc S ?_ | (refine uB ?_; intro b) | (refine uP ?_ ?_ <;> (intro h; ((try simp only [zs, ne_eq, and_true, true_and, eq_self, reduceCtorEq] at h); try exact zx))) | refine da 101 ?_ | fail)
  exact Yi uL ⟨rfl, hself⟩
 ·simp only [if_neg h] at kt ⊢
  have hgk : M.l[k.toNat]'(by omega) = M.l.getD k.toNat Ys := by
   rw [List.getD, List.getElem?_eq_getElem (by omega)]; rfl
  obtain ⟨hbad, hto, hfr⟩ := hM.fr (M.l.getD k.toNat Ys) (by rw [← hgk]; exact List.getElem_mem _)
  have hM1 := hM.erase k.toNat
  have hW1 : ∀ lv lc, Zx lv (M.l.eraseIdx k.toNat) lc → RwOk { G with lv := lv, lc := lc } { M with l := M.l.eraseIdx k.toNat } := fun lv lc hv => hW.setL hv
  have hcl : ∀ lv lc, Zx lv (M.l.eraseIdx k.toNat) lc → Zh9 G { M with l := M.l.eraseIdx k.toNat } L (Xs { G with lv := lv, lc := lc } { M with l := M.l.eraseIdx k.toNat } ++ L) := fun lv lc hv => Zig (hW1 lv lc hv) Zi5
  have hn0 : 0 ≤ (M.l.getD k.toNat Ys).to := by unfold Xv at hbad; omega
  have hn1 : (M.l.getD k.toNat Ys).to < M.n.length := by rw [hM.wn]; exact hto
  have hd0 : 0 ≤ (M.l.getD k.toNat Ys).dl ∧ (M.l.getD k.toNat Ys).dl < 6 := by unfold Xv at hbad; omega
  have hno := fun L => Zm9 hW.ndl hn0 hn1 (b := (Yg G (M.l.getD k.toNat Ys).to).np) (o := Za1 (Yg G (M.l.getD k.toNat Ys).to) (Zd M (M.l.getD k.toNat Ys).to)) (by simp [Zf2, Zds]) L
  have hnl := fun L => Zm9 hW.ndl hn0 hn1 (b := (Yg G (M.l.getD k.toNat Ys).to).bl) (o := .cells ⟨Ur (Yg G (M.l.getD k.toNat Ys).to) (Zd M (M.l.getD k.toNat Ys).to)⟩ 209) (by simp [Zf2, Zg4]) L
  have e8 : ∀ l, (Zd { M with l := l } (M.l.getD k.toNat Ys).to) = Zd M (M.l.getD k.toNat Ys).to := fun l => rfl
  have hel : (M.l.eraseIdx k.toNat).length ≤ 99999000 := by rw [List.length_eraseIdx]; split <;> omega
  rw [e8]
  have hni := Ws hM hn0 hn1
  have hok := Un hW hn0 hn1
  obtain ⟨nb, ni, nl, nF, nfr, ncap, hnv, hnb, hng⟩ := Zl9 hW hn0 hn1
  have hA := fun {b o} (hb : (b, o) ∈ Zf2 G.aw G.cw (Yg G (M.l.getD k.toNat Ys).to) (M.l.getD k.toNat Ys).to (Zd M (M.l.getD k.toNat Ys).to)) => Zm9 hW.ndl hn0 hn1 hb L
  have kb := fun lv lc H (hI : RwIn H { G with lv := lv, lc := lc } { M with l := M.l.eraseIdx k.toNat }) => Zsi { G with lv := lv, lc := lc } { M with l := M.l.eraseIdx k.toNat } (M.l.getD k.toNat Ys).fr (M.l.getD k.toNat Ys).to H hI hW.bro hW.bll
  generalize hf : M.l.getD k.toNat Ys = f at *
  have hIn : ∀ lv lc, Zx lv (M.l.eraseIdx k.toNat) lc → ∀ H T : Zb, LS ([(G.wp, Vt { G with lv := lv, lc := lc })] :: G.ec :: lc :: G.nc :: G.bc :: T : Zb).flatten H.flatten → RwIn H { G with lv := lv, lc := lc } { M with l := M.l.eraseIdx k.toNat } := fun lv lc hv H T hls => rwIn (hW1 lv lc hv) fun b o hb => hls.has (hb.app T)
  have hbr0 : ∀ b, M.br (Zjv f) = b → M.br (min f.fr f.to, max f.fr f.to) = b := fun b h => h
  simp only [Vt, hnv] at kt hIn kb
  have hnba := hnb (G.bc :: Q5 G.aw G.cw G.nd M.n 0 :: L)
  rcases hsc : (Zd M f.to).site with _ | ⟨j, ref⟩
  ·rw [if_pos (.inl rfl)]
   have hN := hno L
   unfold Za1 at hN
   rw [hsc] at hN
   simp only [Zdx] at hN
   obtain ⟨ffr, fto, fdl, fkd, fatt, fys, fs⟩ := f
   simp only at hbad hto hfr hng hn0 hn1 hN kb hbr0 ⊢
   simp only [cdN]
   simp only [Xs, Zd3, Vt, List.cons_append, List.nil_append, hnv] at hcl ⊢
   refine Za (fun _ _ => Tryz.call93 _ _) Tryz.func93 rfl Tryz.ntmps93 (Nat.le_of_ble_eq_true rfl) ?_; simp only [Zc, Nat.reduceAdd]
   repeat' (first | refine uN ?_ | refine Yc S ?_ | (refine uB ?_; intro b) | (refine uP ?_ ?_ <;> (intro h; ((try simp only [zs, ne_eq, and_true, true_and, eq_self, reduceCtorEq] at h); try exact zx))) | refine da 101 ?_ | fail)
   refine fo 2 ?_
   refine fo 1 ?_
   refine gc (kt _) ?_
   rintro v L' ⟨lv, lc, hv, rfl, rfl⟩
   repeat' (first | refine uN ?_ | refine Yc S ?_ | (refine uB ?_; intro b) | (refine uP ?_ ?_ <;> (intro h; ((try simp only [zs, ne_eq, and_true, true_and, eq_self, reduceCtorEq] at h); try exact zx))) | refine da 101 ?_ | fail)
   refine gc (kb lv lc _ (hIn lv lc hv _ (Q5 G.aw G.cw G.nd M.n 0 :: L) ?_)) ?_
   ·exact uL
   rintro v L' ⟨rfl, rfl⟩
   repeat' (first | refine uN ?_ | refine Yc S ?_ | (refine uB ?_; intro b) | (refine uP ?_ ?_ <;> (intro h; ((try simp only [zs, ne_eq, and_true, true_and, eq_self, reduceCtorEq] at h); try exact zx))) | refine da 101 ?_ | fail)
   all_goals exact Yi uL ⟨rfl, hcl _ lc hv⟩
  ·by_cases hbr : M.br (Zjv f) = true
   ·rw [if_pos (.inr hbr)]
    have hbr' := hbr0 _ hbr
    have hN := hno L
    unfold Za1 at hN
    rw [hsc] at hN
    simp only [Zdx] at hN
    obtain ⟨ffr, fto, fdl, fkd, fatt, fys, fs⟩ := f
    simp only at hbad hto hfr hng hn0 hn1 hN kb hbr' ⊢
    rw [hbr'] at kb
    simp only [cdN]
    simp only [Xs, Zd3, Vt, List.cons_append, List.nil_append, hnv] at hcl ⊢
    refine Za (fun _ _ => Tryz.call93 _ _) Tryz.func93 rfl Tryz.ntmps93 (Nat.le_of_ble_eq_true rfl) ?_; simp only [Zc, Nat.reduceAdd]
    repeat' (first | refine uN ?_ | refine Yc S ?_ | (refine uB ?_; intro b) | (refine uP ?_ ?_ <;> (intro h; ((try simp only [zs, ne_eq, and_true, true_and, eq_self, reduceCtorEq] at h); try exact zx))) | refine da 101 ?_ | fail)
    refine fo 2 ?_
    refine fo 1 ?_
    refine gc (kt _) ?_
    rintro v L' ⟨lv, lc, hv, rfl, rfl⟩
    repeat' (first | refine uN ?_ | refine Yc S ?_ | (refine uB ?_; intro b) | (refine uP ?_ ?_ <;> (intro h; ((try simp only [zs, ne_eq, and_true, true_and, eq_self, reduceCtorEq] at h); try exact zx))) | refine da 101 ?_ | fail)
    refine gc (kb lv lc _ (hIn lv lc hv _ (Q5 G.aw G.cw G.nd M.n 0 :: L) ?_)) ?_
    ·exact uL
    rintro v L' ⟨rfl, rfl⟩
    repeat' (first | refine uN ?_ | refine Yc S ?_ | (refine uB ?_; intro b) | (refine uP ?_ ?_ <;> (intro h; ((try simp only [zs, ne_eq, and_true, true_and, eq_self, reduceCtorEq] at h); try exact zx))) | refine da 101 ?_ | fail)
    all_goals exact Yi uL ⟨rfl, hcl _ lc hv⟩
   ·have hbrf : M.br (Zjv f) = false := by simpa using hbr
    rw [if_neg (by simp [hbrf])]
    have hbr' := hbr0 _ hbrf
    by_cases hkd : f.kd = 2 ∨ f.kd = 4 ∨ f.kd = 6
    ·rw [if_pos hkd]
     obtain ⟨dn, hdn⟩ := Int.eq_ofNat_of_zero_le hd0.1
     have hd6 : dn < 6 := by omega
     have hm1 : (Zd M f.to).leads[dn]? = some ((Zd M f.to).leads.getD dn none) := getD_some (by rw [hni.leads]; exact hd6)
     obtain ⟨q, hq⟩ : ∃ q, (Yg G f.to).ld[dn]? = some q := ⟨_, List.getElem?_eq_getElem (by rw [hok.ld]; exact hd6)⟩
     have hv0 := Zh5 hm1 hq
     rw [show f.dl.toNat = dn by omega]
     have gL : (Ur (Yg G f.to) (Zd M f.to))[0 + (dn : Int).toNat]? = some (Zed ((Zd M f.to).leads.getD dn none) q) := by rw [Nat.zero_add, Int.toNat_natCast]; exact hv0
     cases hx : (Zd M f.to).leads.getD dn none with
     | none =>
      rw [hx] at gL
      simp only [Zed] at gL
      have hN := hno L
      have hNL := hnl L
      unfold Za1 at hN
      rw [hsc] at hN
      simp only [Zdx] at hN
      obtain ⟨ffr, fto, fdl, fkd, fatt, fys, fs⟩ := f
      simp only at hbad hto hfr hng hn0 hn1 hN hNL gL hdn hkd kb hbr' ⊢
      subst hdn
      rw [hbr'] at kb
      simp only [cdN]
      simp only [Xs, Zd3, Vt, List.cons_append, List.nil_append, hnv] at hcl ⊢
      refine Za (fun _ _ => Tryz.call93 _ _) Tryz.func93 rfl Tryz.ntmps93 (Nat.le_of_ble_eq_true rfl) ?_; simp only [Zc, Nat.reduceAdd]
      repeat' (first | refine uN ?_ | refine Yc S ?_ | (refine uB ?_; intro b) | (refine uP ?_ ?_ <;> (intro h; ((try simp only [zs, ne_eq, and_true, true_and, eq_self, reduceCtorEq] at h); try exact zx))) | refine da 101 ?_ | fail)
      refine fo 2 ?_
      refine fo 1 ?_
      refine gc (kt _) ?_
      rintro v L' ⟨lv, lc, hv, rfl, rfl⟩
      repeat' (first | refine uN ?_ | refine Yc S ?_ | (refine uB ?_; intro b) | (refine uP ?_ ?_ <;> (intro h; ((try simp only [zs, ne_eq, and_true, true_and, eq_self, reduceCtorEq] at h); try exact zx))) | refine da 101 ?_ | fail)
      refine gc (kb lv lc _ (hIn lv lc hv _ (Q5 G.aw G.cw G.nd M.n 0 :: L) ?_)) ?_
      ·exact uL
      rintro v L' ⟨rfl, rfl⟩
      repeat' (first | refine uN ?_ | refine Yc S ?_ | (refine uB ?_; intro b) | (refine uP ?_ ?_ <;> (intro h; ((try simp only [zs, ne_eq, and_true, true_and, eq_self, reduceCtorEq] at h); try exact zx))) | refine da 101 ?_ | fail)
      all_goals exact Yi uL ⟨rfl, hcl _ lc hv⟩
     | some x =>
      simp only
      rw [hx] at hm1 gL hv0
      simp only [Zed] at gL hv0
      have hLI := hni.ldi dn x hm1
      obtain ⟨hs, hH, hrel⟩ := hok.lok dn x hm1 q hq
      have hxw := hLI.ww
      have hwl := hM.wl
      have hck : Yw x.w = none := by rw [hxw]; exact hM.w0
      have hRx : Rd ic 1 L G.aw x.w := by rw [hxw]; exact hRw
      have hhl := Zaf x f
      rw [hxw] at hhl
      have hrel2 := hrel.hear f
      have kh := fun L hR => Zg9 q.1 G.aw G.cw q.2.1 q.2.2 x hs f L hR hck hH hrel
      refine HC.nodeR0 (M' := { Yp { M with l := M.l.eraseIdx k.toNat } f.to { (Zd M f.to) with site := some (j, ref), leads := (Zd M f.to).leads.set dn (some (Zs x f).1) } with l := M.l.eraseIdx k.toNat ++ (Zs x f).2 }) hW hn0 hn1 ?_
      obtain ⟨A, B, eA, eB⟩ := Zgw (aw := G.aw) (cw := G.cw) hm1 hq
      have hnba := hnb (G.bc :: W9 G.aw G.cw G.nd M.n 0 f.to.toNat :: L)
      clear hno hnl hA hcl
      generalize W9 G.aw G.cw G.nd M.n 0 f.to.toNat = X at *
      generalize hmm : Zd M f.to = m at *
      generalize Yg G f.to = g at *
      have eVs : ∀ q', Zed (some (Zs x f).1) q' = Zed (some x) q → Ur { g with ld := g.ld.set dn q' } { m with leads := m.leads.set dn (some (Zs x f).1) } = Ur g m := fun q' e => by
       rw [Ziw (g := g) (m := m) (g' := { g with ld := g.ld.set dn q' }) (m' := { m with leads := m.leads.set dn (some (Zs x f).1) }) rfl rfl, e]
       exact Za8 hv0
      have eBs := fun q' => eB (some (Zs x f).1) q' { m with leads := m.leads.set dn (some (Zs x f).1) } { g with ld := g.ld.set dn q' } rfl rfl
      have hokD := fun hv' hc' (h1 : Zx hv' (U1 x hs f) hc') => hok.lead (d := dn) (q := (q.1, hv', hc')) h1 hrel2
      obtain ⟨pl, site, leads, done⟩ := m
      simp only at hsc
      subst hsc
      obtain ⟨ffr, fto, fdl, fkd, fatt, fys, fs⟩ := f
      simp only at hbad hto hfr hng hn0 hn1 hdn hkd kb hbr' kh hhl hrel2 eVs eBs hokD ⊢
      subst hdn
      rw [hbr'] at kb
      generalize Zs x ⟨ffr, fto, dn, fkd, fatt, fys, fs⟩ = R at *
      simp only [cdN]
      refine HC.sp (L' := [(G.wp, .cells ⟨[.slice G.aw G.wl G.cw, sl nb ni M.n.length ncap, G.bv, G.lv, G.ev]⟩ 94)] :: G.ec :: [(g.np, .cells ⟨[pt g.rs 0, pt g.rp 0, sl g.bl 0 6 6, sl g.bd 0 6 6]⟩ 150)] :: [(g.bl, .cells ⟨Ur g ⟨pl, some (j, ref), leads, done⟩⟩ 209)] :: Zjh g ⟨pl, some (j, ref), leads, done⟩ :: Zeo g.rs g.r.rj g.bR fto ref :: Qj g.r j :: Wd g.rp pl g.left :: Up q.1 G.aw G.cw q.2.1 q.2.2 x :: A :: B :: G.lc :: G.nc :: G.bc :: X :: L) ?_ ?_
      ·refine Za (fun _ _ => Tryz.call93 _ _) Tryz.func93 rfl Tryz.ntmps93 (Nat.le_of_ble_eq_true rfl) ?_; simp only [Zc, Nat.reduceAdd]
       repeat' (first | refine uN ?_ | refine Yc S ?_ | (refine uB ?_; intro b) | (refine uP ?_ ?_ <;> (intro h; ((try simp only [zs, ne_eq, and_true, true_and, eq_self, reduceCtorEq] at h); try exact zx))) | refine da 101 ?_ | fail)
       refine fo 11 ?_
       refine fo 1 ?_
       refine gc (kt _) ?_
       rintro v L' ⟨lv, lc, hv, rfl, rfl⟩
       obtain ⟨a6, cap6, rfl, -, -⟩ := hv.rd Zi
       repeat' (first | refine uN ?_ | refine Yc S ?_ | (refine uB ?_; intro b) | (refine uP ?_ ?_ <;> (intro h; ((try simp only [zs, ne_eq, and_true, true_and, eq_self, reduceCtorEq] at h); try exact zx))) | refine da 101 ?_ | fail)
       refine gc (kb _ lc _ (hIn _ lc hv _ ([(g.np, .cells ⟨[pt g.rs 0, pt g.rp 0, sl g.bl 0 6 6, sl g.bd 0 6 6]⟩ 150)] :: [(g.bl, .cells ⟨Ur g ⟨pl, some (j, ref), leads, done⟩⟩ 209)] :: Zjh g ⟨pl, some (j, ref), leads, done⟩ :: Zeo g.rs g.r.rj g.bR fto ref :: Qj g.r j :: Wd g.rp pl g.left :: Up q.1 G.aw G.cw q.2.1 q.2.2 x :: A :: B :: X :: L) ?_)) ?_
       ·exact uL
       rintro v L' ⟨rfl, rfl⟩
       repeat' (first | refine uN ?_ | refine Yc S ?_ | (refine uB ?_; intro b) | (refine uP ?_ ?_ <;> (intro h; ((try simp only [zs, ne_eq, and_true, true_and, eq_self, reduceCtorEq] at h); try exact zx))) | refine da 101 ?_ | fail)
       all_goals refine fo 10 ?_
       all_goals refine gc (kh _ (Rd.up hRx [_, _, _, _, _, _, _, _, _, _, _, _, _, _, _])) ?_
       all_goals rintro v L' ⟨c2, hv', hc', hv2, hH', rfl⟩
       all_goals obtain ⟨a7, cap7, rfl, -, hR7⟩ := hv2.rd Zi
       all_goals have ks := fun L hR => Uq { G with lv := .slice a6 (M.l.eraseIdx k.toNat).length cap6, lc := lc } (M.l.eraseIdx k.toNat) R.2 a7 cap7 L hv hR (by omega)
       all_goals simp only [Vt, hnv] at ks
       all_goals repeat' (first | refine uN ?_ | refine Yc S ?_ | (refine uB ?_; intro b) | (refine uP ?_ ?_ <;> (intro h; ((try simp only [zs, ne_eq, and_true, true_and, eq_self, reduceCtorEq] at h); try exact zx))) | refine da 101 ?_ | fail)
       all_goals refine fo 4 ?_
       all_goals refine fo 4 ?_
       all_goals refine gc (ks _ (hR7 _)) ?_
       all_goals rintro v L' ⟨lv3, lc3, hv3, rfl, rfl⟩
       all_goals repeat' (first | refine uN ?_ | refine Yc S ?_ | (refine uB ?_; intro b) | (refine uP ?_ ?_ <;> (intro h; ((try simp only [zs, ne_eq, and_true, true_and, eq_self, reduceCtorEq] at h); try exact zx))) | refine da 101 ?_ | fail)
       all_goals refine Yi (L' := Wr { G with lv := lv3, lc := lc3 } fto { g with ld := g.ld.set dn (q.1, hv', hc') } ⟨pl, some (j, ref), leads.set dn (some R.1), done⟩ X L) ?_ ⟨rfl, { G with lv := lv3, lc := lc3 }, { M with l := M.l.eraseIdx k.toNat ++ R.2 }, { g with ld := g.ld.set dn (q.1, hv', hc') }, ⟨pl, some (j, ref), leads.set dn (some R.1), done⟩, hW.setL hv3, rfl, rfl, Zi5, hokD hv' hc' hH', rfl, rfl, rfl⟩
       all_goals simp only [Wr, Zds, Za1, Zdx, Zg4, Zk8, Zk7, Vt, hnv]
       all_goals rw [eBs (q.1, hv', hc'), eVs (q.1, hv', hc') rfl]
       all_goals exact LS.trans ls8 uL
      ·simp only [Wr, Zds, Za1, Zdx, Zg4, Zk8, Zk7, Vt, hnv]
       rw [eA]
       exact ls8'
    ·rw [if_neg hkd]
     have kh := fun lv lc hv L => Zfm { G with lv := lv, lc := lc } { M with l := M.l.eraseIdx k.toNat } f.to f L (hW1 lv lc hv) hM1 hn0 hn1 (by rw [e8, hsc]; simp)
     have hhl := Zdr { M with l := M.l.eraseIdx k.toNat } f.to f
     have hml : (Yo { M with l := M.l.eraseIdx k.toNat } f.to f).1.l = M.l.eraseIdx k.toNat := rfl
     have hun := hearU_no (M := { M with l := M.l.eraseIdx k.toNat }) (s := f.to) (f := f)
     have hN := hno L
     unfold Za1 at hN
     rw [hsc] at hN
     simp only [Zdx] at hN
     obtain ⟨ffr, fto, fdl, fkd, fatt, fys, fs⟩ := f
     simp only at hbad hto hfr hng hn0 hn1 hN hkd kb hbr' kh hhl hml hun ⊢
     rw [hbr'] at kb
     clear hno hnl hA
     generalize Yo { M with l := M.l.eraseIdx k.toNat } fto ⟨ffr, fto, fdl, fkd, fatt, fys, fs⟩ = R at *
     generalize Zin fto (Zd { M with l := M.l.eraseIdx k.toNat } fto) ⟨ffr, fto, fdl, fkd, fatt, fys, fs⟩ = u at *
     simp only [cdN]
     simp only [Xs, Zd3, Vt, List.cons_append, List.nil_append, hnv] at hcl ⊢
     refine Za (fun _ _ => Tryz.call93 _ _) Tryz.func93 rfl Tryz.ntmps93 (Nat.le_of_ble_eq_true rfl) ?_; simp only [Zc, Nat.reduceAdd]
     repeat' (first | refine uN ?_ | refine Yc S ?_ | (refine uB ?_; intro b) | (refine uP ?_ ?_ <;> (intro h; ((try simp only [zs, ne_eq, and_true, true_and, eq_self, reduceCtorEq] at h); try exact zx))) | refine da 101 ?_ | fail)
     refine fo 2 ?_
     refine fo 1 ?_
     refine gc (kt _) ?_
     rintro v L' ⟨lv, lc, hv, rfl, rfl⟩
     repeat' (first | refine uN ?_ | refine Yc S ?_ | (refine uB ?_; intro b) | (refine uP ?_ ?_ <;> (intro h; ((try simp only [zs, ne_eq, and_true, true_and, eq_self, reduceCtorEq] at h); try exact zx))) | refine da 101 ?_ | fail)
     refine gc (kb lv lc _ (hIn lv lc hv _ (Q5 G.aw G.cw G.nd M.n 0 :: L) ?_)) ?_
     ·exact uL
     rintro v L' ⟨rfl, rfl⟩
     repeat' (first | refine uN ?_ | refine Yc S ?_ | (refine uB ?_; intro b) | (refine uP ?_ ?_ <;> (intro h; ((try simp only [zs, ne_eq, and_true, true_and, eq_self, reduceCtorEq] at h); try exact zx))) | refine da 101 ?_ | fail)
     refine Uk (L' := Xs { G with lv := lv, lc := lc } { M with l := M.l.eraseIdx k.toNat } ++ L) ?_ ?_
     ·refine gc (kh _ _ hv _) ?_
      rintro v L' ⟨c2, ⟨fv, hfv, rfl⟩, G2, eS, hW2, rfl⟩
      obtain ⟨a7, cap7, rfl, -, hR7⟩ := hfv.rd Zi
      have hv2 := hW2.l
      rw [hml] at hv2
      have hcl2 : ∀ lv lc, Zx lv (M.l.eraseIdx k.toNat ++ R.2.1) lc → Zh9 G { R.1 with l := M.l.eraseIdx k.toNat ++ R.2.1 } L (Xs { G2 with lv := lv, lc := lc } { R.1 with l := M.l.eraseIdx k.toNat ++ R.2.1 } ++ L) := fun lv lc hv => ⟨{ G2 with lv := lv, lc := lc }, ⟨eS.wp, eS.aw, eS.cw, eS.wl, eS.np⟩, hW2.setL hv, rfl⟩
      have ks := fun L hR => Uq G2 _ R.2.1 a7 cap7 L hv2 hR (by omega)
      have ewp : G2.wp = G.wp := eS.wp
      cases u with
      | false =>
       have hnil := hun rfl
       rw [hnil] at hcl2
       have hcl3 := hcl2 G2.lv G2.lc (by rw [List.append_nil]; exact hv2)
       simp only [hnil, Xs, Zd3, List.cons_append, List.nil_append, ewp] at hcl3 ⊢
       repeat' (first | refine uN ?_ | refine Yc S ?_ | (refine uB ?_; intro b) | (refine uP ?_ ?_ <;> (intro h; ((try simp only [zs, ne_eq, and_true, true_and, eq_self, reduceCtorEq] at h); try exact zx))) | refine da 101 ?_ | fail)
       exact Yi uL ⟨rfl, hcl3⟩
      | true =>
       simp only [Xs, Zd3, List.cons_append, List.nil_append, ewp] at hcl2 ks ⊢
       repeat' (first | refine uN ?_ | refine Yc S ?_ | (refine uB ?_; intro b) | (refine uP ?_ ?_ <;> (intro h; ((try simp only [zs, ne_eq, and_true, true_and, eq_self, reduceCtorEq] at h); try exact zx))) | refine da 101 ?_ | fail)
       refine fo 2 ?_
       refine fo 1 ?_
       refine gc (ks _ ((hR7 []).mono fun x o hb => ?_)) ?_
       ·exact Zf (Zf (Zf (Zf (Yu (by simpa [Has] using hb)))))
       rintro v L' ⟨lv3, lc3, hv3, rfl, rfl⟩
       repeat' (first | refine uN ?_ | refine Yc S ?_ | (refine uB ?_; intro b) | (refine uP ?_ ?_ <;> (intro h; ((try simp only [zs, ne_eq, and_true, true_and, eq_self, reduceCtorEq] at h); try exact zx))) | refine da 101 ?_ | fail)
       exact Yi uL ⟨rfl, hcl2 _ lc3 hv3⟩
     ·simp only [Xs, Zd3, Vt, List.cons_append, List.nil_append, hnv]
      exact uL
end Go.HL
end

/-! MwI -/
section
namespace Go.HL
open Go Go.Proofs
set_option linter.unusedVariables false
set_option linter.unusedSimpArgs false
theorem Zqb {G G' : RwG} {M M1 : Wm} {s : Int} {g' : NrG} {m' : Nd} (L : Zb) (hl : G.nd.length = M.n.length) (h0 : 0 ≤ s) (h1 : s < M.n.length) (hW : RwOk G' M1) (e1 : G'.nd = G.nd) (e2 : M1.n = M.n) (e3 : RwS G G') (hN : NrOk g' m') (e4 : g'.np = (Yg G s).np) :
  ∃ L', Zh9 G (Yp M1 s m') L L' ∧ LS L'.flatten (Wr G' s g' m' (W9 G.aw G.cw G.nd M.n 0 s.toNat) L).flatten := by
 have hnp : g'.np = (Yg G' s).np := by rw [e4]; unfold Yg; rw [e1]
 have eaw := e3.aw
 have ecw := e3.cw
 have hps := Zh7 (G := G') (g := g') h0 (by rw [e1]; omega) hnp
 refine ⟨Xs { G' with nd := G'.nd.set s.toNat g' } (Yp M1 s m') ++ L, ⟨{ G' with nd := G'.nd.set s.toNat g' }, ⟨e3.wp, e3.aw, e3.cw, e3.wl, hps.trans e3.np⟩, hW.put h0 (by rw [e2]; exact h1) hN hnp, rfl⟩, ?_⟩
 simp only [Xs, Yp, e1, e2]
 rw [← eaw, ← ecw]
 exact Zkh (G := G') (gs := G.nd) (ms := M.n) (s := s) (g := g') (m := m') h0 (by omega) (by omega) L
theorem ls8n {x0 x1 x2 x3 x4 x5 x6 x7 c A B : List Zq} {D : Zb} : LS (x0 :: x1 :: x2 :: x3 :: x4 :: x5 :: x6 :: x7 :: A :: B :: D).flatten (x0 :: x1 :: x2 :: x3 :: x4 :: x5 :: x6 :: x7 :: (A ++ (c ++ B)) :: D).flatten := by
 iterate 8 refine LS.k ?_
 simp only [List.flatten_cons, List.append_assoc]
 exact LS.boths A (LS.skips c (LS.refl _))
theorem rl_put {g : NrG} {m : Nd} {d : Nat} (v : Value) (h : d < (Ur g m).length) : Zt (Ur g m) (0 + (d : Int).toNat) [v] ((Ur g m).set d v) := by
 have e : (Ur g m).set d v = (Ur g m).set (0 + (d : Int).toNat) v := by rw [Nat.zero_add, Int.toNat_natCast]
 rw [e]
 exact W4 (by omega)
theorem Zpb {g : NrG} {m : Nd} (h1 : m.leads.length = 6) (h2 : g.ld.length = 6) : (Ur g m).length = 6 := by simp [Ur, h1, h2]
set_option maxHeartbeats 2000000 attribute [local irreducible] HW HO HQ HD HC QOp Has Upd Zt Gets Yb Z6 Zr Xr Z4 Zm Xx Zy
attribute [local irreducible] Zo Zp Qj Wd Zeo
theorem Ze4 (G : RwG) (M : Wm) (s d : Int) (L : Zb) (hW : RwOk G M) (hM : WI M) (hl : M.l.length ≤ 99999000) :
  HC Tryz.prog 81 [pt G.wp 0, iv s, iv d] (Xs G M ++ L) (fun v L' => v = iv (cdN (Xk M s d).2) ∧ Zh9 G (Xk M s d).1 L L') := by
 unfold Xk
 have hself := Vl hW L
 have hI := Zcz hW L
 have hwn := hM.wn
 have hwl := hM.wl
 obtain ⟨an, capn, hnv, hnr⟩ := hI.ns
 have hw := hI.wp
 unfold Vt at hw
 rw [hnv] at hw
 by_cases h : d < 0 ∨ 6 ≤ d ∨ s < 0 ∨ M.n.length ≤ s
 ·simp only [if_pos h, cdN]
  generalize Xs G M ++ L = H at *
  refine Za (fun _ _ => Tryz.call81 _ _) Tryz.func81 rfl Tryz.ntmps81 (Nat.le_of_ble_eq_true rfl) ?_; simp only [Zc, Nat.reduceAdd]
  repeat' (first | refine uN ?_ | (refine uP ?_ ?_ <;> (intro h; ((try simp only [zs, ne_eq, and_true, true_and, eq_self, reduceCtorEq] at h); try exact zx))) | fail)
  all_goals exact Vx rfl ⟨rfl, hself⟩
 simp only [if_neg h]
 rcases Zax (M := M) (s := s) with ⟨e, he⟩ | ⟨he, hn, h0, h1, j, ref, hs⟩
 ·have ku := Zjy s hW L
  have h1 := Zid he
  generalize Xs G M ++ L = H at *
  simp only [he, cdN] at ku ⊢
  refine Za (fun _ _ => Tryz.call81 _ _) Tryz.func81 rfl Tryz.ntmps81 (Nat.le_of_ble_eq_true rfl) ?_; simp only [Zc, Nat.reduceAdd]
  repeat' (first | refine uN ?_ | refine uC (ku) ?_ | (refine uP ?_ ?_ <;> (intro h; ((try simp only [zs, ne_eq, and_true, true_and, eq_self, reduceCtorEq] at h); try exact zx))) | fail)
  exact Vx rfl ⟨rfl, hself⟩
 ·simp only [he]
  have ku := Zjy s hW L
  generalize hH : Xs G M ++ L = H at *
  simp only [he, cdN] at ku
  obtain ⟨dn, rfl⟩ := Int.eq_ofNat_of_zero_le (show 0 ≤ d by omega)
  have hd6 : dn < 6 := by omega
  refine Za (fun _ _ => Tryz.call81 _ _) Tryz.func81 rfl Tryz.ntmps81 (Nat.le_of_ble_eq_true rfl) ?_; simp only [Zc, Nat.reduceAdd]
  repeat' (first | refine uN ?_ | refine uC (ku) ?_ | (refine uP ?_ ?_ <;> (intro h; ((try simp only [zs, ne_eq, and_true, true_and, eq_self, reduceCtorEq] at h); try exact zx))) | fail)
  have hB : ∀ {i : Int} (h0 : 0 ≤ i) (h1 : i < M.n.length) {b : Nat} {o : Obj}, (b, o) ∈ Zf2 G.aw G.cw (Yg G i) i (Zd M i) → Has H b o := fun {i} h0 h1 {b o} hb => by
   subst hH
   exact Zfh hW.ndl h0 h1 hb L
  refine Zn (σ := Nat) (fun i => [(0, pt G.wp 0), (1, iv s), (2, iv dn), (8, iv i)]) (fun _ => H) (fun i => i ≤ M.n.length ∧ ∀ k, k < i → Wn dn (Zd M (k : Int)) = false) (fun i => M.n.length - i) 0 uS (List.Sublist.refl _) ⟨by simp, fun k hk => by omega⟩ ?_
  rintro i ⟨hi, hfree⟩
  by_cases hlt : i < M.n.length
  ·have hBi := fun {b o} => hB (i := (i : Int)) (by omega) (by omega) (b := b) (o := o)
   have hni := Ws hM (s := (i : Int)) (by omega) (by omega)
   have hok := Un hW (s := (i : Int)) (by omega) (by omega)
   obtain ⟨b9, bi, l, F, fr, cap2, e7, hb, hg2⟩ := Zks hI hW.ndl (s := (i : Int)) (by omega) (by omega)
   rw [hnv] at e7
   obtain ⟨rfl, -, rfl⟩ := Value.slice.inj e7
   have hNi : Has H (Yg G i).np (Za1 (Yg G i) (Zd M i)) := hBi (by simp [Zf2, Zds])
   have hLi : Has H (Yg G i).bl (.cells ⟨Ur (Yg G i) (Zd M i)⟩ 209) := hBi (by simp [Zf2, Zg4])
   have kst := Ze9 G M i dn H hI hW.ndl (by omega) (by omega) hd6 hni.b512 hNi (fun p hp => hBi (by simp [Zf2, hp]))
   have hm1 : (Zd M i).leads[dn]? = some ((Zd M i).leads.getD dn none) := getD_some (by rw [hni.leads]; exact hd6)
   obtain ⟨q, hq⟩ : ∃ q, (Yg G i).ld[dn]? = some q := ⟨_, List.getElem?_eq_getElem (by rw [hok.ld]; exact hd6)⟩
   have hv := Zh5 hm1 hq
   have gL : (Ur (Yg G i) (Zd M i))[0 + (dn : Int).toNat]? = some (Zed ((Zd M i).leads.getD dn none) q) := by rw [Nat.zero_add, Int.toNat_natCast]; exact hv
   have hbz : Wn dn (Zd M i) = (decide (Xe (Zd M i).pl dn ≠ Ww) || ((Zd M i).leads.getD dn none).isSome) := rfl
   have hbu := Zp9 (M := M) (d := dn) hlt
   unfold Za1 at hNi
   generalize hmi : Zd M i = m at *
   generalize Yg G i = g at *
   generalize Xe m.pl dn = st at *
   obtain ⟨ph, pr, att⟩ := st
   cases hx : m.leads.getD dn none with
   | some x =>
    rw [hx] at gL hbz
    simp only [Zed] at gL
    have hb1 : Wn dn m = true := by rw [hbz]; simp
    rw [if_pos (hbu hb1)]
    simp only [cdN]
    repeat' (first | refine uN ?_ | refine uC (kst) ?_ | (refine uP ?_ ?_ <;> (intro h; ((try simp only [zs, ne_eq, and_true, true_and, eq_self, reduceCtorEq] at h); try exact zx))) | fail)
    all_goals exact Yi (LS.refl _) ⟨rfl, hself⟩
   | none =>
    rw [hx] at gL hbz
    simp only [Zed] at gL
    by_cases hz : ph = 0 ∧ pr = 0 ∧ att = 0
    ·obtain ⟨rfl, rfl, rfl⟩ := hz
     have hb0 : Wn dn m = false := by rw [hbz]; rfl
     repeat' (first | refine uN ?_ | refine uC (kst) ?_ | (refine uP ?_ ?_ <;> (intro h; ((try simp only [zs, ne_eq, and_true, true_and, eq_self, reduceCtorEq] at h); try exact zx))) | fail)
     all_goals refine Zg (i + 1) uS (LS.refl _) ⟨by omega, fun k hk => ?_⟩ (by omega)
     all_goals by_cases e : k = i
     all_goals first | (subst e; rw [hmi]; exact hb0; done) | exact hfree k (by omega)
    ·have hb1 : Wn dn m = true := by
      rw [hbz, decide_eq_true]
      ·rfl
      ·intro e
       cases e
       exact hz ⟨rfl, rfl, rfl⟩
     rw [if_pos (hbu hb1)]
     simp only [cdN]
     repeat' (first | refine uN ?_ | refine uC (kst) ?_ | (refine uP ?_ ?_ <;> (intro h; ((try simp only [zs, ne_eq, and_true, true_and, eq_self, reduceCtorEq] at h); try exact zx))) | fail)
     all_goals first | exact Yi (LS.refl _) ⟨rfl, hself⟩ | (exfalso; simp_all; done)
  ·obtain rfl : i = M.n.length := by omega
   have hany : M.n.any (Wn (dn : Int)) = false := Zmg hfree
   simp only [hany, Bool.false_eq_true, if_false, cdN]
   subst hH
   clear hB
   have hok := Un hW h0 h1
   have hni := Ws hM h0 h1
   have hwlG := hW.wl
   have hm1 : (Zd M s).leads[dn]? = some ((Zd M s).leads.getD dn none) := getD_some (by rw [hni.leads]; exact hd6)
   obtain ⟨q, hq⟩ : ∃ q, (Yg G s).ld[dn]? = some q := ⟨_, List.getElem?_eq_getElem (by rw [hok.ld]; exact hd6)⟩
   obtain ⟨A, B, eA, eB⟩ := Zgw (aw := G.aw) (cw := G.cw) hm1 hq
   have kb := fun L => Zag s dn G.aw G.cw M.w 0 L
   rw [show Zi6 0 = 2 from rfl] at kb
   have kst := fun lp L => Zfk lp G.aw G.cw Y4 [] (Zh s dn M.w 0 2) L hwl
   obtain ⟨al, capl, hlv5, -, hlr⟩ := hW.l.rd Zi
   have hvl := hW.l
   have hsl := Zbs (Zh s dn M.w 0 2)
   have hslw : (Zh s dn M.w 0 2).w = M.w := rfl
   rw [hslw] at hsl
   have ks := fun a7 cap7 L hR => Uq G M.l (Xd (Zh s dn M.w 0 2)) a7 cap7 L hW.l hR (by omega)
   have hsh := fun G' M1 g' m' a b c d e f => Zqb (G := G) (G' := G') (M := M) (M1 := M1) (s := s) (g' := g') (m' := m') L hW.ndl h0 h1 a b c d e f
   have hWL := fun {lv lc l} hv => hW.setL (lv := lv) (lc := lc) (l := l) hv
   have hlv := Zpb (g := Yg G s) hni.leads hok.ld
   obtain ⟨nb, ni, nl, nF, nfr, ncap, hnv2, hnb, hng⟩ := Zl9 hW h0 h1
   have hnba := hnb (G.bc :: W9 G.aw G.cw G.nd M.n 0 s.toNat :: L)
   rw [hnv] at hnv2
   obtain ⟨rfl, -, rfl⟩ := Value.slice.inj hnv2
   have hrel : RelH (Zh s dn M.w 0 2) [] := RelH.new hwl rfl rfl
   have hokD := fun lp => hok.lead (d := dn) (q := (lp, Y4, [])) (hs := []) (x := Zh s dn M.w 0 2) Zu hrel
   refine Wi (L' := Wr G s (Yg G s) (Zd M s) (W9 G.aw G.cw G.nd M.n 0 s.toNat) L) ?_ (Zh4 hW.ndl h0 h1 L)
   generalize W9 G.aw G.cw G.nd M.n 0 s.toNat = X at *
   generalize hmm : Zd M s = m at *
   generalize hgg : Yg G s = g at *
   have eVs := fun q' => Ziw (g := g) (m := m) (o' := some (Zh s dn M.w 0 2)) (q' := q') (g' := { g with ld := g.ld.set dn q' }) (m' := { m with leads := m.leads.set dn (some (Zh s dn M.w 0 2)) }) rfl rfl
   have eBs := fun q' => eB (some (Zh s dn M.w 0 2)) q' { m with leads := m.leads.set dn (some (Zh s dn M.w 0 2)) } { g with ld := g.ld.set dn q' } rfl rfl
   obtain ⟨pl, site, leads, done⟩ := m
   simp only at hs
   subst hs
   simp only [Vt, hnv, hwlG] at ks
   simp only at eVs eBs hokD hlv hm1
   refine Wi (L' := [(G.wp, .cells ⟨[.slice G.aw M.w.length G.cw, sl nb ni M.n.length capn, G.bv, G.lv, G.ev]⟩ 94)] :: G.ec :: [(g.np, .cells ⟨[pt g.rs 0, pt g.rp 0, sl g.bl 0 6 6, sl g.bd 0 6 6]⟩ 150)] :: [(g.bl, .cells ⟨Ur g ⟨pl, some (j, ref), leads, done⟩⟩ 209)] :: Zjh g ⟨pl, some (j, ref), leads, done⟩ :: Zeo g.rs g.r.rj g.bR s ref :: Qj g.r j :: Wd g.rp pl g.left :: A :: B :: G.lc :: G.nc :: G.bc :: X :: L) ?_ ?_
   ·repeat' (first | refine uN ?_ | refine uC (ku) ?_ | (refine uP ?_ ?_ <;> (intro h; ((try simp only [zs, ne_eq, and_true, true_and, eq_self, reduceCtorEq] at h); try exact zx))) | fail)
    refine gc (kb _) ?_
    rintro v L' ⟨lp, rfl, rfl⟩
    have gP := rl_put (g := g) (m := ⟨pl, some (j, ref), leads, done⟩) (d := dn) (pt lp 0) (by omega)
    repeat' (first | refine uN ?_ | refine uC (ku) ?_ | (refine uP ?_ ?_ <;> (intro h; ((try simp only [zs, ne_eq, and_true, true_and, eq_self, reduceCtorEq] at h); try exact zx))) | fail)
    refine gc (kst lp _) ?_
    rintro v L' ⟨c2, hv2, rfl⟩
    obtain ⟨a7, cap7, rfl, -, hR7⟩ := hv2.rd Zi
    repeat' (first | refine uN ?_ | refine uC (ku) ?_ | (refine uP ?_ ?_ <;> (intro h; ((try simp only [zs, ne_eq, and_true, true_and, eq_self, reduceCtorEq] at h); try exact zx))) | fail)
    refine fo 12 ?_
    refine fo 3 ?_
    refine gc (ks _ _ _ (hR7 _)) ?_
    rintro v L' ⟨lv3, lc3, hv3, rfl, rfl⟩
    repeat' (first | refine uN ?_ | refine uC (ku) ?_ | (refine uP ?_ ?_ <;> (intro h; ((try simp only [zs, ne_eq, and_true, true_and, eq_self, reduceCtorEq] at h); try exact zx))) | fail)
    obtain ⟨L9, hP, hLS⟩ := hsh { G with lv := lv3, lc := lc3 } { M with l := M.l ++ Xd (Zh s dn M.w 0 2) } { g with ld := g.ld.set dn (lp, Y4, []) } ⟨pl, some (j, ref), leads.set dn (some (Zh s dn M.w 0 2)), done⟩ (hWL hv3) rfl rfl Zi5 (hokD lp) rfl
    refine Yi (L' := L9) (LS.trans hLS ?_) ⟨rfl, hP⟩
    simp only [Wr, Zds, Za1, Zdx, Zg4, Zk8, Zk7, Vt, hnv, hwlG]
    rw [eBs (lp, Y4, []), eVs (lp, Y4, [])]
    exact LS.trans ls8 uL
   ·simp only [Wr, Zds, Za1, Zdx, Zg4, Zk8, Zk7, Vt, hnv, hwlG]
    rw [eA]
    exact ls8n
end Go.HL
end

/-! MwJ -/
section
namespace Go.HL
open Go Go.Proofs
set_option linter.unusedVariables false
set_option linter.unusedSimpArgs false
theorem try_fine {M : Wm} {s a : Int} {d : Nat} {j : Jn} {ref : Int → Bool} (hM : WI M) (h0 : 0 ≤ s) (h1 : s < M.n.length) (hs : (Zd M s).site = some (j, ref)) (hd : d < 6) (ha0 : 0 ≤ a) (ha : a ≤ 1048576) (hn : (j.l.getD d Zl).n + 1 < 4294967296) :
  Zin s (Zd M s) (W5 s d a) = (Yo M s (W5 s d a)).2.2 := by
 have hni := Ws hM h0 h1
 have hj := hni.jn hs
 have hoff := (hni.up j ref hs).2
 have hwn := hM.wn
 have hwl := hM.wl
 have hb : ¬ Xv (W5 s d a) := by
  unfold Xv W5 Ww
  simp only
  omega
 have htu := (Znl (ref := ref) (f := W5 s d a) (st := (j.l.getD d Zl).s) (hj.st d hd) hb).1
 have hfine := Zwc hj.ji hoff s ref (W5 s d a) hb rfl hn (by
  unfold Zlk at htu
  unfold V2
  have : ((W5 s d a).dl).toNat = d := rfl
  rw [this]
  have e : (W5 s d a).dl = (d : Int) := rfl
  rw [e]
  omega)
 unfold Zin Yo Y7
 simp only [hs]
 split
 ·rename_i h
  rw [h]; rfl
 ·exact hfine.symm
theorem Zo4 {M : Wm} {s d : Int} {st : St} {k : Int} : Zbr (Zh s d M.w st.pr k) 7 st.ph = Wz M s d st := by
 unfold Zbr Wz
 have e : ∀ i, Za0 (Zh s d M.w st.pr k) 7 st.ph i = [⟨s, (i : Int), d, 7, st.pr, false, ⟨st.ph, 0, 0⟩⟩] := fun i => if_pos (.inl (by decide))
 rw [show Za0 (Zh s d M.w st.pr k) 7 st.ph = fun i : Nat => [(⟨s, (i : Int), d, 7, st.pr, false, ⟨st.ph, 0, 0⟩⟩ : Fr)] from funext e]
 exact (List.map_eq_flatMap ..).symm
theorem Zpy {A L : Zb} {c : List Zq} : LS (A ++ L).flatten (A ++ (c :: L)).flatten := by
 simp only [List.flatten_append, List.flatten_cons]
 exact LS.boths _ (LS.skips _ (LS.refl _))
set_option maxHeartbeats 2000000 attribute [local irreducible] HW HO HQ HD HC QOp Has Upd Zt Gets Yb Z6 Zr Xr Z4 Zm Xx Zy
attribute [local irreducible] Zo Zp Qj Wd Zeo Zar
set_option maxHeartbeats 4000000 in
theorem Zc8 (G : RwG) (M : Wm) (s : Int) (L : Zb) (hRw : Rd ic 1 L G.aw M.w) (hW : RwOk G M) (hM : WI M) (hl : M.l.length ≤ 99998000)
  (hnum : Zbm M s = none → ∀ k j ref, k < 6 → (Zd (X9 s M k).1 s).site = some (j, ref) → (j.l.getD k Zl).n + 1 < 4294967296) :
  HC Tryz.prog 84 [pt G.wp 0, iv s] (Xs G M ++ L) (fun v L' => v = iv (cdN (Wt M s).2) ∧ Zh9 G (Wt M s).1 L L') := by
 unfold Wt
 have hself := Vl hW L
 rcases Zax (M := M) (s := s) with ⟨e, he⟩ | ⟨he, hn, h0, h1, j, ref, hs⟩
 ·have ku := Zjy s hW L
  have h1 := Zid he
  generalize Xs G M ++ L = H at *
  simp only [he, cdN] at ku ⊢
  refine Za (fun _ _ => Tryz.call84 _ _) Tryz.func84 rfl Tryz.ntmps84 (Nat.le_of_ble_eq_true rfl) ?_; simp only [Zc, Nat.reduceAdd]
  repeat' (first | refine uN ?_ | refine Z7 S ?_ | refine uC (ku) ?_ | (refine uB ?_; intro b) | (refine uP ?_ ?_ <;> (intro h; ((try simp only [zs, ne_eq, and_true, true_and, eq_self, reduceCtorEq] at h); try exact zx))) | fail)
  exact Vx rfl ⟨rfl, hself⟩
 ·replace hnum := hnum he
  have ku := Zjy s hW L
  simp only [he, cdN] at ku ⊢
  have hticks := fun k hk => Zaa hM h0 h1 (by rw [hs]; simp) k hk
  change ∀ k, k ≤ 6 → TickOk M (X9 s M k) s k at hticks
  change HC _ _ _ _ (fun v L' => v = iv 0 ∧ Zh9 G (X9 s M 6).1 L L')
  have hI0 := Zcz hW L
  obtain ⟨nb, ni, nl, nF, nfr, ncap, hnv, hnb, hng⟩ := Zks hI0 hW.ndl h0 h1
  have hw0 := hI0.wp
  unfold Vt at hw0
  rw [hnv] at hw0
  generalize hH0 : Xs G M ++ L = H0 at *
  refine Za (fun _ _ => Tryz.call84 _ _) Tryz.func84 rfl Tryz.ntmps84 (Nat.le_of_ble_eq_true rfl) ?_; simp only [Zc, Nat.reduceAdd]
  repeat' (first | refine uN ?_ | refine Z7 S ?_ | refine uC (ku) ?_ | (refine uB ?_; intro b) | (refine uP ?_ ?_ <;> (intro h; ((try simp only [zs, ne_eq, and_true, true_and, eq_self, reduceCtorEq] at h); try exact zx))) | fail)
  subst hH0
  refine Zn (σ := Nat × RwG) (fun r => [(0, pt G.wp 0), (1, iv s), (6, pt (Yg G s).np 0), (7, iv r.1)]) (fun r => Xs r.2 (X9 s M r.1).1 ++ L)
   (fun r => r.1 ≤ 6 ∧ (X9 s M r.1).2 = true ∧ RwOk r.2 (X9 s M r.1).1 ∧ RwS G r.2) (fun r => 6 - r.1) (0, G) uS (List.Sublist.refl _) ⟨by simp, rfl, hW, .refl G⟩ ?_
  rintro ⟨d, G1⟩ ⟨hd, hon, hW1, eS⟩
  simp only at hd hon hW1 eS ⊢
  obtain ⟨hM1, hsame, hlen, hsite⟩ := hticks d hd
  have hsite1 := hsite hon
  have hnx := Zer s M d
  by_cases hd6 : d < 6
  ·have hnx2 := hticks (d + 1) (by omega)
   have hstop := fun h => Zeh (s := s) (M := M) (k := d + 1) h (5 - d)
   rw [show d + 1 + (5 - d) = 6 by omega] at hstop
   have hnum1 := fun j ref => hnum d j ref hd6
   generalize X9 s M d = q at *
   obtain ⟨M1, b0⟩ := q
   simp only at hon hW1 hM1 hsame hlen hsite1 hnum1 ⊢
   subst hon
   have h1' : s < M1.n.length := by rw [hsame.n]; exact h1
   have hnp2 := Zs9 eS h0 (by rw [hW.ndl]; exact h1)
   have hok := Un hW1 h0 h1'
   have hni := Ws hM1 h0 h1'
   obtain ⟨⟨j1, ref1⟩, hs1⟩ := Option.ne_none_iff_exists'.1 hsite1
   have hnumd := hnum1 j1 ref1 hs1
   have hj := hni.jn hs1
   have hst := hj.st d hd6
   have hB : ∀ {b : Nat} {o : Obj}, (b, o) ∈ Zf2 G1.aw G1.cw (Yg G1 s) s (Zd M1 s) → Has (Xs G1 M1 ++ L) b o := fun {b o} hb => Zfh hW1.ndl h0 h1' hb L
   have hN := Zfi hW1.ndl h0 h1' L
   have hRI : RsIn (Xs G1 M1 ++ L) (Yg G1 s) s j1 := Zn7 (ref := ref1) (fun p hp => hB (by simp [Zf2, hs1, Zk8, hp])) (fun p hp => hB (by simp [Zf2, hs1, Zk7, hp]))
   obtain ⟨⟨bRv, hsi⟩, hrj, hsS⟩ := hRI
   have gS := Zna (r := (Yg G1 s).r) (j := j1) (d := d) (e := j1.l.getD d Zl) (by simp [List.getD, hj.ji.jn.len, hd6])
   have htd : X9 s M (d + 1) = if Yq j1 d = Ww then (M1, true) else if (Yq j1 d).ph = 2 ∨ (Yq j1 d).ph = 3 then ({ M1 with l := M1.l ++ Wz M1 s d (Yq j1 d) }, true) else Zar M1 s d (Yq j1 d).pr := by
    rw [hnx]
    unfold tickD
    simp only [hs1, Bool.true_eq_false, if_false]
   unfold Za1 at hN
   rw [hs1] at hN
   simp only [Zdx, hnp2] at hN
   unfold Zfl at hrj
   have hdl := Zcv M1 s d (Yq j1 d)
   have hall := fun k => Zo4 (M := M1) (s := s) (d := d) (st := Yq j1 d) (k := k)
   change Gets _ _ (sc (Yq j1 d)) at gS
   generalize hstv : Yq j1 d = st at *
   obtain ⟨ph, pr, att⟩ := st
   obtain ⟨q1, q2, q3, q4, q5⟩ := hst
   simp only at q1 q2 q3 q4 q5 hall
   have hwn := hM1.wn
   have hwl := hM1.wl
   have ewp := eS.wp
   have kfin := fun L => Zby ph L
   by_cases hz : ph = 0 ∧ pr = 0 ∧ att = 0
   ·obtain ⟨rfl, rfl, rfl⟩ := hz
    rw [if_pos (show (⟨0, 0, 0⟩ : St) = Ww from rfl)] at htd
    clear hB
    generalize hH : Xs G1 M1 ++ L = H at *
    repeat' (first | refine uN ?_ | refine Z7 S ?_ | refine uC (kfin _) ?_ | (refine uB ?_; intro b) | (refine uP ?_ ?_ <;> (intro h; ((try simp only [zs, ne_eq, and_true, true_and, eq_self, reduceCtorEq] at h); try exact zx))) | fail)
    all_goals subst hH
    all_goals refine Zg (d + 1, G1) uS ?_ ⟨by simp only; omega, by simp only [htd], by simp only [htd]; exact hW1, eS⟩ (by simp only; omega)
    all_goals simp only [htd]
    all_goals exact ls_out
   have hz2 : ¬ ((⟨ph, pr, att⟩ : St) = Ww) := fun e => by cases e; exact hz ⟨rfl, rfl, rfl⟩
   rw [if_neg hz2] at htd
   have hwlG := hW1.wl
   have hwp := (Zcz hW1 L).wp
   unfold Vt at hwp
   rw [hwlG, ewp] at hwp
   have hMl : M1.l.length ≤ 99998100 := by omega
   by_cases hf : ph = 2 ∨ ph = 3
   ·rw [if_pos hf] at htd
    have kfin2 := kfin
    rw [decide_eq_true hf] at kfin2
    clear hB
    have kb := fun L => Zag s d G1.aw G1.cw M1.w pr L
    have ksd := fun lp L => Qc lp G1.aw G1.cw Y4 [] (Zh s d M1.w pr (Zi6 pr)) 7 ph true L hwl rfl
    rw [hall] at ksd
    have ks := fun a7 cap7 L hR => Uq G1 M1.l (Wz M1 s d ⟨ph, pr, att⟩) a7 cap7 L hW1.l hR (by omega)
    rw [ewp] at ks
    have hcl : ∀ lv lc, Zx lv (M1.l ++ Wz M1 s d ⟨ph, pr, att⟩) lc → RwOk { G1 with lv := lv, lc := lc } { M1 with l := M1.l ++ Wz M1 s d ⟨ph, pr, att⟩ } := fun lv lc hv => hW1.setL hv
    generalize hH : Xs G1 M1 ++ L = H at *
    repeat' (first | refine uN ?_ | refine Yc S ?_ | refine uC (kfin2 _) ?_ | refine Yd (fun _ => kfin2 _) ?_ | refine Yf (fun _ => kfin2 _) ?_ | refine Ye (fun _ => kfin2 _) ?_ | refine Yh (fun _ => kfin2 _) ?_ | (refine uB ?_; intro b) | (refine uP ?_ ?_ <;> (intro h; ((try simp only [zs, ne_eq, and_true, true_and, eq_self, reduceCtorEq] at h); try exact zx))) | refine da 101 ?_ | fail)
    all_goals refine gc (kb _) ?_
    all_goals rintro v L' ⟨lp, rfl, rfl⟩
    all_goals repeat' (first | refine uN ?_ | refine Yc S ?_ | refine uC (kfin2 _) ?_ | refine Yd (fun _ => kfin2 _) ?_ | refine Yf (fun _ => kfin2 _) ?_ | refine Ye (fun _ => kfin2 _) ?_ | refine Yh (fun _ => kfin2 _) ?_ | (refine uB ?_; intro b) | (refine uP ?_ ?_ <;> (intro h; ((try simp only [zs, ne_eq, and_true, true_and, eq_self, reduceCtorEq] at h); try exact zx))) | refine da 101 ?_ | fail)
    all_goals refine gc (ksd lp _) ?_
    all_goals rintro v L' ⟨c2, hv2, rfl⟩
    all_goals obtain ⟨a7, cap7, rfl, -, hR7⟩ := hv2.rd Zi
    all_goals repeat' (first | refine uN ?_ | refine Yc S ?_ | refine uC (kfin2 _) ?_ | refine Yd (fun _ => kfin2 _) ?_ | refine Yf (fun _ => kfin2 _) ?_ | refine Ye (fun _ => kfin2 _) ?_ | refine Yh (fun _ => kfin2 _) ?_ | (refine uB ?_; intro b) | (refine uP ?_ ?_ <;> (intro h; ((try simp only [zs, ne_eq, and_true, true_and, eq_self, reduceCtorEq] at h); try exact zx))) | refine da 101 ?_ | fail)
    all_goals subst hH
    all_goals refine Uk (L' := [(G.wp, Vt G1)] :: G1.lc :: c2 :: G1.ec :: G1.nc :: G1.bc :: Q5 G1.aw G1.cw G1.nd M1.n 0 :: L) ?_ (by simp only [Xs, Zd3, List.cons_append, List.nil_append, ewp]; exact uL)
    all_goals refine gc (ks a7 cap7 _ (hR7 _)) ?_
    all_goals rintro v L' ⟨lv3, lc3, hv3, rfl, rfl⟩
    all_goals repeat' (first | refine uN ?_ | refine Yc S ?_ | refine uC (kfin2 _) ?_ | refine Yd (fun _ => kfin2 _) ?_ | refine Yf (fun _ => kfin2 _) ?_ | refine Ye (fun _ => kfin2 _) ?_ | refine Yh (fun _ => kfin2 _) ?_ | (refine uB ?_; intro b) | (refine uP ?_ ?_ <;> (intro h; ((try simp only [zs, ne_eq, and_true, true_and, eq_self, reduceCtorEq] at h); try exact zx))) | refine da 101 ?_ | fail)
    all_goals refine Zg (d + 1, { G1 with lv := lv3, lc := lc3 }) uS ?_ ⟨by simp only; omega, by simp only [htd], by simp only [htd]; exact hcl lv3 lc3 hv3, eS.trans Zi5⟩ (by simp only; omega)
    all_goals simp only [htd, Xs, Zd3, List.cons_append, List.nil_append, ewp]
    all_goals exact uL
   ·rw [if_neg hf] at htd
    have kfin2 := kfin
    rw [decide_eq_false hf] at kfin2
    have hm1 : (Zd M1 s).leads[d]? = some ((Zd M1 s).leads.getD d none) := getD_some (by rw [hni.leads]; exact hd6)
    obtain ⟨q, hq⟩ : ∃ q, (Yg G1 s).ld[d]? = some q := ⟨_, List.getElem?_eq_getElem (by rw [hok.ld]; exact hd6)⟩
    have hv := Zh5 hm1 hq
    have gL : (Ur (Yg G1 s) (Zd M1 s))[0 + (d : Int).toNat]? = some (Zed ((Zd M1 s).leads.getD d none) q) := by rw [Nat.zero_add, Int.toNat_natCast]; exact hv
    have hLb : Has (Xs G1 M1 ++ L) (Yg G1 s).bl (.cells ⟨Ur (Yg G1 s) (Zd M1 s)⟩ 209) := hB (by simp [Zf2, Zg4])
    have hseen : ∀ x, (Zd M1 s).leads[d]? = some (some x) → Has (Xs G1 M1 ++ L) q.1 (.cells ⟨Zwl G1.aw G1.cw q.2.1 x⟩ 217) := fun x hx => hB (by
     unfold Zf2
     exact List.mem_append_right _ (List.mem_append_right _ (List.mem_append_right _ (List.mem_append_right _ (List.mem_append_right _ (List.mem_append_right _ (Zpk hx hq (by simp [Up]))))))))
    have hab : 0 ≤ Yv (Zd M1 s) d pr ∧ Yv (Zd M1 s) d pr ≤ 1048576 := by
     unfold Yv
     split
     ·omega
     ·rename_i x hx
      have := hni.ldi d x (by rw [hm1]; simp only [Int.toNat_natCast] at hx; rw [hx])
      have h1 := this.seen0
      have h2 := this.seen1
      omega
    have hw1 := hM1.w1
    have hr0 := Int.emod_nonneg (s - (Yv (Zd M1 s) d pr + 1)) (by omega : (M1.w.length : Int) ≠ 0)
    have hr1 := Int.emod_lt_of_pos (s - (Yv (Zd M1 s) d pr + 1)) (by omega : (0 : Int) < M1.w.length)
    have htf := fun a ha0 ha => try_fine (a := a) hM1 h0 h1' hs1 hd6 ha0 ha hnumd
    generalize hH : Xs G1 M1 ++ L = H at *
    unfold Zar Zas at htd
    have habv : Yv (Zd M1 s) d pr = match (Zd M1 s).leads.getD d none with
     | none => pr
     | some x => max pr x.seen := rfl
    generalize hab2 : Yv (Zd M1 s) d pr = ab at *
    apply Zq7 (ι := Int) (fun a => a = ab) (fun a => [(0, pt G.wp 0), (1, iv s), (6, pt (Yg G s).np 0), (7, iv d), (11, iv (a + 1))]) (fun _ => H)
    ·intro key
     cases hx : (Zd M1 s).leads.getD d none with
     | none =>
      rw [hx] at gL habv
      simp only [Zed] at gL habv
      repeat' (first | refine uN ?_ | refine Yc S ?_ | refine uC (kfin2 _) ?_ | refine Yd (fun _ => kfin2 _) ?_ | refine Yf (fun _ => kfin2 _) ?_ | refine Ye (fun _ => kfin2 _) ?_ | refine Yh (fun _ => kfin2 _) ?_ | (refine uB ?_; intro b) | (refine uP ?_ ?_ <;> (intro h; ((try simp only [zs, ne_eq, and_true, true_and, eq_self, reduceCtorEq] at h); try exact zx))) | refine da 101 ?_ | fail)
      exact Wi (Zgh (key _ habv.symm) uS) (LS.c (LS.refl _))
     | some x =>
      rw [hx] at gL habv hm1
      simp only [Zed] at gL habv
      have hse := hseen x hm1
      unfold Zwl at hse
      repeat' (first | refine uN ?_ | refine Yc S ?_ | refine uC (kfin2 _) ?_ | refine Yd (fun _ => kfin2 _) ?_ | refine Yf (fun _ => kfin2 _) ?_ | refine Ye (fun _ => kfin2 _) ?_ | refine Yh (fun _ => kfin2 _) ?_ | (refine uB ?_; intro b) | (refine uP ?_ ?_ <;> (intro h; ((try simp only [zs, ne_eq, and_true, true_and, eq_self, reduceCtorEq] at h); try exact zx))) | refine da 101 ?_ | fail)
      ·exact Wi (Zgh (key x.seen (by rw [habv]; omega)) uS) (LS.c (LS.refl _))
      ·exact Wi (Zgh (key pr (by rw [habv]; omega)) uS) (LS.c (LS.refl _))
    rintro ab' rfl
    refine Zn (σ := Int) (fun x => [(0, pt G.wp 0), (1, iv s), (6, pt (Yg G s).np 0), (7, iv d), (11, iv x)]) (fun _ => H) (fun x => ∃ j : Nat, x = ab' + 1 + j ∧ (j : Int) ≤ (s - (ab' + 1)) % M1.w.length) (fun x => (ab' + 1 + (s - (ab' + 1)) % M1.w.length - x).toNat) (ab' + 1) uS (List.Sublist.refl _) ⟨0, by simp, hr0⟩ ?_
    rintro x ⟨jj, rfl, hjj⟩
    have hst := Zoy (k := M1.w.length) (s := s) (a := ab' + 1) (j := jj) (by omega) h0 (by omega) (by omega) hjj
    by_cases hlt : (jj : Int) = (s - (ab' + 1)) % M1.w.length
    ·rw [← hlt] at htd
     have hst2 := hst.2 hlt
     have ha1 : 1 ≤ ab' + 1 + jj := by omega
     have ha2 : ab' + 1 + jj ≤ 1048590 := by omega
     have ha3 : 0 ≤ ab' + 1 + (jj : Int) := by omega
     have hs7 : s < 7 := by omega
     clear hjj hst hB gL hv
     generalize ab' + 1 + (jj : Int) = a at *
     by_cases hmax : 1048576 < a
     ·rw [if_pos hmax] at htd
      repeat' (first | refine uN ?_ | refine Yc S ?_ | refine uC (kfin2 _) ?_ | refine Yd (fun _ => kfin2 _) ?_ | refine Yf (fun _ => kfin2 _) ?_ | refine Ye (fun _ => kfin2 _) ?_ | refine Yh (fun _ => kfin2 _) ?_ | (refine uB ?_; intro b) | (refine uP ?_ ?_ <;> (intro h; ((try simp only [zs, ne_eq, and_true, true_and, eq_self, reduceCtorEq] at h); try exact zx))) | refine da 101 ?_ | fail)
      all_goals subst hH
      all_goals refine Zg (d + 1, G1) uS ?_ ⟨by simp only; omega, by simp only [htd], by simp only [htd]; exact hW1, eS⟩ (by simp only; omega)
      all_goals simp only [htd]
      all_goals exact LS.refl _
     ·rw [if_neg hmax] at htd
      subst hH
      have kH := Zfm G1 M1 s (W5 s d a) L hW1 hM1 h0 h1' hsite1
      rw [htf a ha3 (by omega), ewp] at kH
      have hRI := hM1.hear (f := W5 s d a) h0 h1' (by show s < _; omega)
      have hRl := Zdr M1 s (W5 s d a)
      have hRw2 : (Yo M1 s (W5 s d a)).1.w = M1.w := rfl
      have hRL : (Yo M1 s (W5 s d a)).1.l = M1.l := rfl
      have hRn : (Yo M1 s (W5 s d a)).1.n.length = M1.n.length := hRI.1.wn.trans ((congrArg List.length hRw2).trans hwn.symm)
      clear htf hseen
      generalize Yo M1 s (W5 s d a) = R at *
      obtain ⟨M2, told, ok⟩ := R
      simp only at kH hRI hRl hRw2 hRL hRn htd
      obtain ⟨hM2, hfo⟩ := hRI
      repeat' (first | refine uN ?_ | refine Yc S ?_ | refine uC (kfin2 _) ?_ | refine Yd (fun _ => kfin2 _) ?_ | refine Yf (fun _ => kfin2 _) ?_ | refine Ye (fun _ => kfin2 _) ?_ | refine Yh (fun _ => kfin2 _) ?_ | (refine uB ?_; intro b) | (refine uP ?_ ?_ <;> (intro h; ((try simp only [zs, ne_eq, and_true, true_and, eq_self, reduceCtorEq] at h); try exact zx))) | refine da 101 ?_ | fail)
      refine gc kH ?_
      rintro v L' ⟨c, ⟨fv, hfv, rfl⟩, G2, eS2, hW2, rfl⟩
      obtain ⟨af, capf, rfl, -, hRf⟩ := hfv.rd Zi
      cases ok with
      | false =>
       rw [if_pos rfl] at htd
       have h6 := hstop (by rw [htd])
       rw [h6, htd]
       repeat' (first | refine uN ?_ | refine Yc S ?_ | refine uC (kfin2 _) ?_ | refine Yd (fun _ => kfin2 _) ?_ | refine Yf (fun _ => kfin2 _) ?_ | refine Ye (fun _ => kfin2 _) ?_ | refine Yh (fun _ => kfin2 _) ?_ | (refine uB ?_; intro b) | (refine uP ?_ ?_ <;> (intro h; ((try simp only [zs, ne_eq, and_true, true_and, eq_self, reduceCtorEq] at h); try exact zx))) | refine da 101 ?_ | fail)
       exact Yi (L' := Xs G2 M2 ++ L) Zpy ⟨rfl, G2, eS.trans eS2, hW2, rfl⟩
      | true =>
       rw [if_neg (by simp)] at htd
       have h1'' : s < M2.n.length := by rw [hRn]; exact h1'
       have hl2 := hW2.ndl
       have hnp3 := Zs9 eS2 h0 (by rw [hW1.ndl]; exact h1')
       have hok2 := Un hW2 h0 h1''
       have hni2 := Ws hM2 h0 h1''
       have ewp2 : G2.wp = G.wp := eS2.wp.trans ewp
       have hwlG2 : G2.wl = M1.w.length := by rw [hW2.wl, hRw2]
       have hm2 : (Zd M2 s).leads[d]? = some ((Zd M2 s).leads.getD d none) := getD_some (by rw [hni2.leads]; exact hd6)
       obtain ⟨q2, hq2⟩ : ∃ q2, (Yg G2 s).ld[d]? = some q2 := ⟨_, List.getElem?_eq_getElem (by rw [hok2.ld]; exact hd6)⟩
       obtain ⟨A, B, eA, eB⟩ := Zgw (aw := G2.aw) (cw := G2.cw) hm2 hq2
       have kb := fun L => Zag s d G2.aw G2.cw M1.w a L
       rw [show Zi6 a = 4 from if_neg (by omega)] at kb
       have kst := fun lp L => Zfk lp G2.aw G2.cw Y4 [] (Zh s d M1.w a 4) L hwl
       have hNI : LdI M1.w s.toNat d (Zh s d M1.w a 4) := by
        have := Zij (w := M1.w) (s := s.toNat) (d := d) (a := a) (k := 4) (by omega) (by omega)
        rw [show ((s.toNat : Nat) : Int) = s by omega] at this
        exact this
       have hsl := Zbs (Zh s d M1.w a 4)
       have hslw : (Zh s d M1.w a 4).w = M1.w := rfl
       rw [hslw] at hsl
       have hrel0 : RelH (Zh s d M1.w a 4) [] := RelH.new hwl rfl rfl
       have ks := fun lv lc (xs ys : List Fr) a7 cap7 L (hv : Zx lv xs lc) hR hlen => Uq { G2 with lv := lv, lc := lc } xs ys a7 cap7 L hv hR hlen
       have hsh := fun G' M1 g' m' y1 y2 y3 y4 y5 y6 => Zqb (G := G2) (G' := G') (M := M2) (M1 := M1) (s := s) (g' := g') (m' := m') (c :: L) hl2 h0 h1'' y1 y2 y3 y4 y5 y6
       have hlvs := Zpb (g := Yg G2 s) hni2.leads hok2.ld
       have hRwB : Rd ic 1 L G2.aw M1.w := by rw [eS2.aw, eS.aw, hsame.w]; exact hRw
       have hokD := fun lp hv' hc' (x : Ld) (hs : List Fr) (h1 : Zx hv' hs hc') (h2 : RelH x hs) => hok2.lead (d := d) (q := (lp, hv', hc')) h1 h2
       refine Uk (L' := Wr G2 s (Yg G2 s) (Zd M2 s) (W9 G2.aw G2.cw G2.nd M2.n 0 s.toNat) (c :: L)) ?_ (Zh4 hl2 h0 h1'' _)
       generalize W9 G2.aw G2.cw G2.nd M2.n 0 s.toNat = X at *
       generalize hmm : Zd M2 s = m at *
       generalize hgg : Yg G2 s = g at *
       have hgnp : g.np = (Yg G s).np := hnp3.trans hnp2
       have eVs := fun x q' => Ziw (g := g) (m := m) (o' := some x) (q' := q') (g' := { g with ld := g.ld.set d q' }) (m' := { m with leads := m.leads.set d (some x) }) rfl rfl
       have eBs := fun x q' => eB (some x) q' { m with leads := m.leads.set d (some x) } { g with ld := g.ld.set d q' } rfl rfl
       simp only [Vt, ewp2, hwlG2] at ks
       refine Uk (L' := [(G.wp, .cells ⟨[.slice G2.aw M1.w.length G2.cw, G2.nv, G2.bv, G2.lv, G2.ev]⟩ 94)] :: G2.ec :: [((Yg G s).np, .cells ⟨[Zdx g m.site, pt g.rp 0, sl g.bl 0 6 6, sl g.bd 0 6 6]⟩ 150)] :: [(g.bl, .cells ⟨Ur g m⟩ 209)] :: Zjh g m :: Zk8 g s m.site :: Zk7 g m.site :: Wd g.rp m.pl g.left :: A :: B :: G2.lc :: G2.nc :: G2.bc :: X :: c :: L) ?_ ?_
       ·repeat' (first | refine uN ?_ | refine Yc S ?_ | refine uC (kfin2 _) ?_ | refine Yd (fun _ => kfin2 _) ?_ | refine Yf (fun _ => kfin2 _) ?_ | refine Ye (fun _ => kfin2 _) ?_ | refine Yh (fun _ => kfin2 _) ?_ | (refine uB ?_; intro b) | (refine uP ?_ ?_ <;> (intro h; ((try simp only [zs, ne_eq, and_true, true_and, eq_self, reduceCtorEq] at h); try exact zx))) | refine da 101 ?_ | fail)
        refine gc (kb _) ?_
        rintro v L' ⟨lp, rfl, rfl⟩
        have gP := rl_put (g := g) (m := m) (d := d) (pt lp 0) (by omega)
        repeat' (first | refine uN ?_ | refine Yc S ?_ | refine uC (kfin2 _) ?_ | refine Yd (fun _ => kfin2 _) ?_ | refine Yf (fun _ => kfin2 _) ?_ | refine Ye (fun _ => kfin2 _) ?_ | refine Yh (fun _ => kfin2 _) ?_ | (refine uB ?_; intro b) | (refine uP ?_ ?_ <;> (intro h; ((try simp only [zs, ne_eq, and_true, true_and, eq_self, reduceCtorEq] at h); try exact zx))) | refine da 101 ?_ | fail)
        refine gc (kst lp _) ?_
        rintro v L' ⟨c2, hv2, rfl⟩
        obtain ⟨a7, cap7, rfl, -, hR7⟩ := hv2.rd Zi
        repeat' (first | refine uN ?_ | refine Yc S ?_ | refine uC (kfin2 _) ?_ | refine Yd (fun _ => kfin2 _) ?_ | refine Yf (fun _ => kfin2 _) ?_ | refine Ye (fun _ => kfin2 _) ?_ | refine Yh (fun _ => kfin2 _) ?_ | (refine uB ?_; intro b) | (refine uP ?_ ?_ <;> (intro h; ((try simp only [zs, ne_eq, and_true, true_and, eq_self, reduceCtorEq] at h); try exact zx))) | refine da 101 ?_ | fail)
        refine fo 12 ?_
        refine fo 3 ?_
        refine gc (ks _ _ M2.l (Xd (Zh s d M1.w a 4)) _ _ _ hW2.l (hR7 _) (by rw [hRL]; omega)) ?_
        rintro v L' ⟨lv3, lc3, hv3, rfl, rfl⟩
        repeat' (first | refine uN ?_ | refine Yc S ?_ | refine uC (kfin2 _) ?_ | refine Yd (fun _ => kfin2 _) ?_ | refine Yf (fun _ => kfin2 _) ?_ | refine Ye (fun _ => kfin2 _) ?_ | refine Yh (fun _ => kfin2 _) ?_ | (refine uB ?_; intro b) | (refine uP ?_ ?_ <;> (intro h; ((try simp only [zs, ne_eq, and_true, true_and, eq_self, reduceCtorEq] at h); try exact zx))) | refine da 101 ?_ | fail)
        have hho := fun i => Zdf (w := M1.w) (s := s.toNat) (d := d) (by omega) hwl hd6 (told.take i) (Zh s d M1.w a 4) [] hNI (fun f hf => hfo f (List.mem_of_mem_take hf)) (fun f hf => by cases hf)
        change ∀ i, LdI M1.w s.toNat d (Z2 (Zh s d M1.w a 4) (told.take i)).1 ∧ ∀ f ∈ (Z2 (Zh s d M1.w a 4) (told.take i)).2, Zif M1.w.length f at hho
        refine Wi (L' := Up lp G2.aw G2.cw Y4 [] (Zh s d M1.w a 4) :: [(G.wp, .cells ⟨[.slice G2.aw M1.w.length G2.cw, G2.nv, G2.bv, lv3, G2.ev]⟩ 94)] :: lc3 :: G2.ec :: [((Yg G s).np, .cells ⟨[Zdx g m.site, pt g.rp 0, sl g.bl 0 6 6, sl g.bd 0 6 6]⟩ 150)] :: [(g.bl, .cells ⟨(Ur g m).set d (pt lp 0)⟩ 209)] :: Zjh g m :: Zk8 g s m.site :: Zk7 g m.site :: Wd g.rp m.pl g.left :: A :: B :: G2.nc :: G2.bc :: X :: c :: L) ?_ uL
        refine Zn (σ := Nat × Value × List Zq × Value × List Zq) (fun r => [(0, pt G.wp 0), (1, iv s), (6, pt (Yg G s).np 0), (7, iv d), (12, .slice af told.length capf), (14, pt lp 0), (15, iv r.1)])
         (fun r => Up lp G2.aw G2.cw r.2.2.2.1 r.2.2.2.2 (Z2 (Zh s d M1.w a 4) (told.take r.1)).1 :: [(G.wp, .cells ⟨[.slice G2.aw M1.w.length G2.cw, G2.nv, G2.bv, r.2.1, G2.ev]⟩ 94)] :: r.2.2.1 :: G2.ec :: [((Yg G s).np, .cells ⟨[Zdx g m.site, pt g.rp 0, sl g.bl 0 6 6, sl g.bd 0 6 6]⟩ 150)] :: [(g.bl, .cells ⟨(Ur g m).set d (pt lp 0)⟩ 209)] :: Zjh g m :: Zk8 g s m.site :: Zk7 g m.site :: Wd g.rp m.pl g.left :: A :: B :: G2.nc :: G2.bc :: X :: c :: L)
         (fun r => r.1 ≤ told.length ∧ (Z2 (Zh s d M1.w a 4) (told.take r.1)).2.length ≤ 7 * r.1 ∧ Zx r.2.1 (M2.l ++ Xd (Zh s d M1.w a 4) ++ (Z2 (Zh s d M1.w a 4) (told.take r.1)).2) r.2.2.1 ∧ ∃ hs, Zx r.2.2.2.1 hs r.2.2.2.2 ∧ RelH (Z2 (Zh s d M1.w a 4) (told.take r.1)).1 hs) (fun r => told.length - r.1) (0, lv3, lc3, Y4, []) uS (List.Sublist.refl _)
         ⟨by simp, by simp [Z2], by simp only [List.take_zero, Z2, List.foldl_nil, List.append_nil]; exact hv3, [], Zu, hrel0⟩ ?_
        rintro ⟨i, lv4, lc4, hv4, hc4⟩ ⟨hi, hlen4, hvl4, hs4, hH4, hrel4⟩
        simp only at hi hlen4 hvl4 hH4 hrel4 ⊢
        obtain ⟨hI4, hF4⟩ := hho i
        have hlast : i = told.length → Z2 (Zh s d M1.w a 4) (told.take i) = Z2 (Zh s d M1.w a 4) told := fun e => by rw [e, List.take_length]
        have hsucc := fun h => Zg1 (Zh s d M1.w a 4) told i h
        by_cases hit : i < told.length
        ·specialize hsucc hit
         have hl3 := Zaf (Z2 (Zh s d M1.w a 4) (told.take i)).1 told[i]
         rw [hI4.ww] at hl3
         have hck : Yw (Z2 (Zh s d M1.w a 4) (told.take i)).1.w = none := by rw [hI4.ww]; exact hM1.w0
         have hRx : Rd ic 1 L G2.aw (Z2 (Zh s d M1.w a 4) (told.take i)).1.w := by rw [hI4.ww]; exact hRwB
         have hrel5 := hrel4.hear told[i]
         have kh := fun L hR => Zg9 lp G2.aw G2.cw hv4 hc4 (Z2 (Zh s d M1.w a 4) (told.take i)).1 hs4 told[i] L hR hck hH4 hrel4
         obtain ⟨b5, i5, l5, F5, fr5, e6, hb5, hg5⟩ := (hRf L).at (j := (i : Int)) (by omega) (by omega)
         subst e6
         have hgi : told[(i : Int).toNat]'(by omega) = told[i] := rfl
         rw [hgi] at hg5
         clear hlast hI4 hF4 hho
         generalize Z2 (Zh s d M1.w a 4) (told.take i) = Q at *
         obtain ⟨x3, fs3⟩ := Q
         simp only at hlen4 hvl4 hH4 hrel4 hl3 hck hRx hrel5 kh hsucc ⊢
         generalize told[i] = f at *
         obtain ⟨ffr, fto, fdl, fkd, fatt, fys, fs⟩ := f
         repeat' (first | refine uN ?_ | refine Yc S ?_ | refine uC (kfin2 _) ?_ | refine Yd (fun _ => kfin2 _) ?_ | refine Yf (fun _ => kfin2 _) ?_ | refine Ye (fun _ => kfin2 _) ?_ | refine Yh (fun _ => kfin2 _) ?_ | (refine uB ?_; intro b) | (refine uP ?_ ?_ <;> (intro h; ((try simp only [zs, ne_eq, and_true, true_and, eq_self, reduceCtorEq] at h); try exact zx))) | refine da 101 ?_ | fail)
         refine gc (kh _ (Rd.up hRx [_, _, _, _, _, _, _, _, _, _, _, _, _, _, _])) ?_
         rintro v L' ⟨c4, hv5, hc5, hv6, hH5, rfl⟩
         obtain ⟨a9, cap9, rfl, -, hR9⟩ := hv6.rd Zi
         repeat' (first | refine uN ?_ | refine Yc S ?_ | refine uC (kfin2 _) ?_ | refine Yd (fun _ => kfin2 _) ?_ | refine Yf (fun _ => kfin2 _) ?_ | refine Ye (fun _ => kfin2 _) ?_ | refine Yh (fun _ => kfin2 _) ?_ | (refine uB ?_; intro b) | (refine uP ?_ ?_ <;> (intro h; ((try simp only [zs, ne_eq, and_true, true_and, eq_self, reduceCtorEq] at h); try exact zx))) | refine da 101 ?_ | fail)
         refine fo 3 ?_
         refine fo 3 ?_
         refine gc (ks _ _ _ (Zs x3 ⟨ffr, fto, fdl, fkd, fatt, fys, fs⟩).2 _ _ _ hvl4 (hR9 _) (by simp only [List.length_append, hRL]; omega)) ?_
         rintro v L' ⟨lv7, lc7, hv7, rfl, rfl⟩
         repeat' (first | refine uN ?_ | refine Yc S ?_ | refine uC (kfin2 _) ?_ | refine Yd (fun _ => kfin2 _) ?_ | refine Yf (fun _ => kfin2 _) ?_ | refine Ye (fun _ => kfin2 _) ?_ | refine Yh (fun _ => kfin2 _) ?_ | (refine uB ?_; intro b) | (refine uP ?_ ?_ <;> (intro h; ((try simp only [zs, ne_eq, and_true, true_and, eq_self, reduceCtorEq] at h); try exact zx))) | refine da 101 ?_ | fail)
         refine Zg (i + 1, lv7, lc7, hv5, hc5) uS ?_ ⟨by simp only; omega, ?_, ?_, U1 x3 hs4 ⟨ffr, fto, fdl, fkd, fatt, fys, fs⟩, hH5, ?_⟩ (by simp only; omega)
         ·simp only [hsucc]
          exact uL
         ·simp only [hsucc, List.length_append]
          omega
         ·simp only [hsucc]
          rw [← List.append_assoc]
          exact hv7
         ·simp only [hsucc]
          exact hrel5
        ·obtain rfl : i = told.length := by omega
         rw [hlast rfl] at hvl4 hrel4 ⊢
         repeat' (first | refine uN ?_ | refine Yc S ?_ | refine uC (kfin2 _) ?_ | refine Yd (fun _ => kfin2 _) ?_ | refine Yf (fun _ => kfin2 _) ?_ | refine Ye (fun _ => kfin2 _) ?_ | refine Yh (fun _ => kfin2 _) ?_ | (refine uB ?_; intro b) | (refine uP ?_ ?_ <;> (intro h; ((try simp only [zs, ne_eq, and_true, true_and, eq_self, reduceCtorEq] at h); try exact zx))) | refine da 101 ?_ | fail)
         obtain ⟨L9, hP, hLS⟩ := hsh { G2 with lv := lv4, lc := lc4 } { M2 with l := M2.l ++ Xd (Zh s d M1.w a 4) ++ (Z2 (Zh s d M1.w a 4) told).2 } { g with ld := g.ld.set d (lp, hv4, hc4) } { m with leads := m.leads.set d (some (Z2 (Zh s d M1.w a 4) told).1) } (hW2.setL hvl4) rfl rfl Zi5 (hokD lp hv4 hc4 _ hs4 hH4 hrel4) rfl
         obtain ⟨G3, eS3, hW3, rfl⟩ := hP
         simp only [Int.toNat_natCast] at htd
         refine Zg (d + 1, G3) uS ?_ ⟨by simp only; omega, by simp only [htd], by simp only [htd]; exact hW3, (eS.trans eS2).trans eS3⟩ (by simp only; omega)
         simp only [htd]
         refine LS.trans Zpy (LS.trans hLS ?_)
         rw [← hgnp]
         simp only [Wr, Zds, Za1, Zg4, Vt, ewp2, hwlG2]
         rw [eBs _ (lp, hv4, hc4), eVs _ (lp, hv4, hc4)]
         exact LS.trans ls8 uL
       ·simp only [Wr, Zds, Za1, Zg4, Vt, ewp2, hwlG2, hgnp]
        rw [eA]
        exact ls8n
    ·have hst2 : ¬ (ab' + 1 + jj) % M1.w.length = s := fun h => hlt (hst.1 h)
     repeat' (first | refine uN ?_ | refine Yc S ?_ | refine uC (kfin2 _) ?_ | refine Yd (fun _ => kfin2 _) ?_ | refine Yf (fun _ => kfin2 _) ?_ | refine Ye (fun _ => kfin2 _) ?_ | refine Yh (fun _ => kfin2 _) ?_ | (refine uB ?_; intro b) | (refine uP ?_ ?_ <;> (intro h; ((try simp only [zs, ne_eq, and_true, true_and, eq_self, reduceCtorEq] at h); try exact zx))) | refine da 101 ?_ | fail)
     refine Zg (ab' + 1 + (jj : Int) + 1) uS (LS.refl _) ⟨jj + 1, by push_cast; omega, by push_cast; omega⟩ (by omega)
  ·obtain rfl : d = 6 := by omega
   repeat' (first | refine uN ?_ | refine Z7 S ?_ | (refine uB ?_; intro b) | (refine uP ?_ ?_ <;> (intro h; ((try simp only [zs, ne_eq, and_true, true_and, eq_self, reduceCtorEq] at h); try exact zx))) | fail)
   exact Yi (LS.refl _) ⟨rfl, G1, eS, hW1, rfl⟩
end Go.HL
end
