/- Texts laid into one, without what the claim does not use. Conditions: none. -/
import Derived.Test.YtkookaogdkdegacGreatDoorMCoE
/-! PwG -/
section
namespace Go.HL
open Go Go.Proofs
set_option linter.unusedVariables false
set_option linter.unusedSimpArgs false
set_option maxHeartbeats 2000000 attribute [local irreducible] HW HO HQ HD HC QOp Has Upd Puts Gets seqQ blkQ loopQ fnQ actQ nextP unQ MapF
attribute [local irreducible] runW newW
end Go.HL
end

/-! SfI -/
section
namespace Go.HL
open Go Go.Proofs
set_option linter.unusedVariables false
set_option linter.unusedSimpArgs false
/-- what a statement's input names -/
structure StpS where
  kd : List UInt8
  s : Int
  d : Int
  n : Int
def actW (M : Wm) (x : StpS) : Wm × Option Nat :=
  if x.kd = [98, 101, 103, 105, 110] then beginW M x.s x.d else
  if x.kd = [114, 101, 102, 117, 115, 101] then refuseW M x.s x.d else
  if x.kd = [116, 105, 99, 107] then tickW M x.s else
  if x.kd = [100, 111, 119, 110] then downW M x.s else
  if x.kd = [117, 112] then upW M x.s else
  if x.kd = [100, 114, 111, 112] then dropW M x.n else
  if x.kd = [116, 119, 105, 99, 101] then twiceW M x.n else
  if x.kd = [108, 105, 110, 107] then linkW M x.s x.d true else
  if x.kd = [98, 114, 101, 97, 107] then linkW M x.s x.d false else
  if x.kd = [99, 117, 116] then cutW M x.s x.n else deliverW M x.n
theorem ev_act {M : Wm} (hI : WI M) (h : EvW M) (x : StpS) : EvW (actW M x).1 := by
  have hl : ∀ a b c, EvW (linkW M a b c).1 := fun a b c => by
    unfold linkW
    split
    · exact h
    · exact ⟨h.pw, h.rg, h.dn⟩
  unfold actW
  split
  · unfold beginW
    split
    · exact h
    rename_i hb
    split
    · exact h
    split
    · exact h
    exact h.lead (s := x.s) (by omega) (by omega) _ _
  split
  · unfold refuseW
    split
    · exact h
    split
    · exact h
    rename_i hu
    obtain ⟨h0, h1, -⟩ := up_site hu
    exact h.set h0 h1 (by unfold refuseN; split <;> rfl)
  split
  · exact ev_tick hI h _
  split
  · unfold downW
    split
    · exact h
    rename_i hu
    obtain ⟨h0, h1, -⟩ := up_site hu
    exact h.set h0 h1 rfl
  split
  · unfold upW
    split
    · exact h
    split
    · exact h
    rename_i hu _
    obtain ⟨h0, h1⟩ := nodeE_none hu
    exact h.note hI h0 h1 rfl rfl
  split
  · unfold dropW; split
    · exact h
    · exact h.setL _
  split
  · unfold twiceW; split
    · exact h
    · exact h.setL _
  split
  · exact hl _ _ _
  split
  · exact hl _ _ _
  split
  · unfold cutW
    split
    · exact h
    split
    · exact h
    rename_i hu
    obtain ⟨h0, h1, -⟩ := up_site hu
    exact h.set h0 h1 rfl
  · exact ev_deliver hI h _
/-- states only rise -/
def RiseW (M M' : Wm) : Prop := ∀ s d : Nat, s < M.w.length → d < 6 → stLe (plSt (ndAt M (s : Int)).pl d) (plSt (ndAt M' (s : Int)).pl d)
theorem mayS_trans {a b c : Int} (h : mayS a b = true) (h' : mayS b c = true) : mayS a c = true := by
  unfold mayS at *
  have h1 := of_decide_eq_true h
  have h2 := of_decide_eq_true h'
  exact decide_eq_true (by omega)
theorem stLe_trans {a b c : St} (h : stLe a b) (h' : stLe b c) : stLe a c := ⟨Int.le_trans h.1 h'.1, Int.le_trans h.2.1 h'.2.1, mayS_trans h.2.2 h'.2.2⟩
theorem st_ok {M : Wm} (h : WI M) {s d : Nat} (hs : s < M.w.length) (hd : d < 6) : stOk (plSt (ndAt M (s : Int)).pl d) := by
  have := (h.at (s := (s : Int)) (by omega) (by rw [h.wn]; omega)).si.st d hd
  exact this
theorem RiseW.same {M M' : Wm} (h : WI M) (hst : ∀ s d : Nat, plSt (ndAt M' (s : Int)).pl d = plSt (ndAt M (s : Int)).pl d) : RiseW M M' := fun s d hs hd => by
  rw [hst]
  exact stLe_refl (st_ok h hs hd)
theorem RiseW.trans {A B C : Wm} (hw : B.w.length = A.w.length) (h : RiseW A B) (h' : RiseW B C) : RiseW A C := fun s d hs hd => stLe_trans (h s d hs hd) (h' s d (by omega) hd)
theorem RiseW.left {M M1 M' : Wm} (h : RiseW M1 M') (hw : M1.w = M.w) (hst : ∀ s d : Nat, plSt (ndAt M1 (s : Int)).pl d = plSt (ndAt M (s : Int)).pl d) : RiseW M M' := fun s d hs hd => by
  rw [← hst]
  exact h s d (by rw [hw]; exact hs) hd
/-- all sites' states of a deal -/
def stsW (M : Wm) (d : Nat) : List St := (List.range M.w.length).map fun (s : Nat) => plSt (ndAt M (s : Int)).pl d
end Go.HL
end

/-! PwH -/
section
namespace Go.HL
open Go Go.Proofs
set_option linter.unusedVariables false
set_option linter.unusedSimpArgs false
/-- all that a State of a world reads -/
theorem wstate_all (T : Nat) (E : Nat → Addr) (G : WdG) (M : Wm) (i d : Nat) (L : Heap) (H : Heap) (hH : ∀ b o, Has (wdH G M ++ L) b o → Has H b o) (hG : Er T E [2, 6] H) (hW : WdOk G M) (hM : WI M) (hi : i < M.w.length) (hd : d < 6) :
    HC Tryz.prog 68 [pt G.wp 0, iv i, iv d] H (fun v L' => v = .tuple ⟨[.agg ⟨sc (plSt (ndAt M (i : Int)).pl d)⟩, .nilIface]⟩ ∧ L' = H) := by
  have hn := hM.wn
  have hI : WdIn H G M := by
    obtain ⟨h1, ⟨a2, c2, e2, r2⟩, ⟨a3, c3, e3, r3⟩, ⟨a4, c4, e4, r4⟩, h5⟩ := wd_in hW L
    exact ⟨hH _ _ h1, ⟨a2, c2, e2, r2.mono hH⟩, ⟨a3, c3, e3, r3.mono hH⟩, ⟨a4, c4, e4, r4.mono hH⟩, h5⟩
  have hB : ∀ {b : Nat} {o : Obj}, (b, o) ∈ ndA (npAt G i) i (ndAt M i) → Has H b o := fun {b o} hb => by
    refine hH _ _ ?_
    have := wd_has hW.ndl (s := (i : Int)) (by omega) (by omega) hb L
    unfold Has wdH at *
    rw [List.append_assoc, List.flatten_append]
    exact List.mem_append_right _ this
  have hni := wi_at hM (s := (i : Int)) (by omega) (by omega)
  have kst := wstate_calls T E G M i d H hG hI hW.ndl (fun _ => hB (by simp [ndA, ndB])) (fun _ => ⟨by rw [hni.b512]; omega, by rw [hni.b512]; omega, fun p hp => hB (by
    unfold ndA plC
    simp only [List.mem_cons, List.not_mem_nil, or_false] at hp
    rcases hp with rfl | rfl
    · simp [plB]
    · simp [plD])⟩)
  have e1 : wstateE M i d = none := by
    unfold wstateE
    rw [nodeE_ok (by omega) (by omega)]
    simp only
    rw [if_neg (by omega)]
  have e2 : wstate M i d = plSt (ndAt M i).pl d := by unfold wstate; rw [e1]
  rw [e1, e2] at kst
  exact kst
theorem sts_succ (M : Wm) (d i : Nat) : ((List.range (i + 1)).map fun (s : Nat) => plSt (ndAt M (s : Int)).pl d) = ((List.range i).map fun (s : Nat) => plSt (ndAt M (s : Int)).pl d) ++ [plSt (ndAt M (i : Int)).pl d] := by
  rw [List.range_succ, List.map_append]
  rfl
section ee
variable {P : Program} {Qv : Value → Heap → Prop} {ρ : Env} {L : Heap} {fn : Func}
end ee
set_option maxHeartbeats 2000000 attribute [local irreducible] HW HO HQ HD HC QOp Has Upd Puts Gets seqQ blkQ loopQ fnQ actQ nextP unQ MapF
attribute [local irreducible] ndL jcells plC siteM ldL openM tryW tickW beginW deliverW upW
theorem states3_calls (T : Nat) (E : Nat → Addr) (G : WdG) (M : Wm) (d : Nat) (L : Heap) (hG : Er T E [2, 6] L) (hW : WdOk G M) (hM : WI M) (hd : d < 6) :
    HC Tryz.prog 24 [pt G.wp 0, iv M.w.length, iv d] (wdH G M ++ L) (fun v L' => ∃ c, (∃ sv, Vec 43 3 sc sv (stsW M d) c ∧ v = .tuple ⟨[sv, .bool true]⟩) ∧ L' = c :: (wdH G M ++ L)) := by
  have hwl := hM.wl
  have hG' := er_wdH hG G M
  have kst := fun i hi c => wstate_all T E G M i d L (c :: (wdH G M ++ L)) (fun b o h => Zd h) (hG'.cons c) hW hM hi hd
  have hsucc := sts_succ M d
  generalize hH : wdH G M ++ L = H at *
  refine Za (fun _ _ => Tryz.call24 _ _) Tryz.func24 rfl Tryz.ntmps24 (Nat.le_of_ble_eq_true rfl) ?_; simp only [args0, Nat.reduceAdd]
  repeat' (first | refine uN ?_ | (refine uB ?_; intro b) | (refine uP ?_ ?_ <;> (intro h; ((try simp only [zs, ne_eq, and_true, true_and, eq_self, reduceCtorEq] at h); try exact zx))) | fail)
  refine hw_sp (L' := [] :: H) ?_ (LS.refl _)
  refine Zf (σ := Nat × Value × List Blk) (fun r => [(0, pt G.wp 0), (1, iv M.w.length), (2, iv d), (8, r.2.1), (9, iv r.1)]) (fun r => r.2.2 :: H) (fun r => r.1 ≤ M.w.length ∧ Vec 43 3 sc r.2.1 ((List.range r.1).map fun (s : Nat) => plSt (ndAt M (s : Int)).pl d) r.2.2) (fun r => M.w.length - r.1) (0, nilS, []) uS (List.Sublist.refl _) ⟨by simp, vec_nil⟩ ?_
  rintro ⟨i, v, c⟩ ⟨hi, hv⟩
  simp only at hi hv ⊢
  obtain ⟨a5, cap5, he5, -, -⟩ := hv.rd sc_len
  subst he5
  by_cases hlt : i < M.w.length
  · have ks := kst i hlt c
    have hs := hsucc i
    generalize plSt (ndAt M (i : Int)).pl d = st at *
    obtain ⟨ph, pr, att⟩ := st
    repeat' (first | refine uN ?_ | refine uC (ks) ?_ | (refine uB ?_; intro b) | (refine uP ?_ ?_ <;> (intro h; ((try simp only [zs, ne_eq, and_true, true_and, eq_self, reduceCtorEq] at h); try exact zx))) | fail)
    refine fo 2 ?_
    refine wp1 S (⟨ph, pr, att⟩ : St) hv sc_len sc_one ?_ (hby := by simp only [List.length_map, List.length_range]; omega) (hmax := by simp only [List.length_map, List.length_range]; omega)
    intro v' c' hv'
    rw [← hs] at hv'
    repeat' (first | refine uN ?_ | refine uC (ks) ?_ | (refine uB ?_; intro b) | (refine uP ?_ ?_ <;> (intro h; ((try simp only [zs, ne_eq, and_true, true_and, eq_self, reduceCtorEq] at h); try exact zx))) | fail)
    exact Zc (i + 1, v', c') uS uL ⟨by simp only; omega, hv'⟩ (by simp only; omega)
  · obtain rfl : i = M.w.length := by omega
    repeat' (first | refine uN ?_ | refine g_q (qC (kst 0 (by omega) c)) ?_ | (refine uB ?_; intro b) | (refine uP ?_ ?_ <;> (intro h; ((try simp only [zs, ne_eq, and_true, true_and, eq_self, reduceCtorEq] at h); try exact zx))) | fail)
    exact sp2 (LS.refl _) ⟨c, ⟨_, hv, rfl⟩, rfl⟩
end Go.HL
end

/-! PwI -/
section
namespace Go.HL
open Go Go.Proofs
set_option linter.unusedVariables false
set_option linter.unusedSimpArgs false
def actsW (M : Wm) (l : List StpS) : Wm := l.foldl (fun M x => (actW M x).1) M
/-- what was, and may become what is -/
def WasI (w : Nat) (vals : List Int) (M : Wm) : Prop := vals.length = 6 * w ∧ ∀ d s : Nat, d < 6 → s < w → ∃ x, vals[d * w + s]? = some x ∧ mayS x (plSt (ndAt M (s : Int)).pl d).ph = true
theorem idx_lt {d s w : Nat} (hd : d < 6) (hs : s < w) : d * w + s < 6 * w := by
  have : d * w ≤ 5 * w := Nat.mul_le_mul_right w (by omega)
  omega
theorem idx_inj {d s e t w : Nat} (hs : s < w) (ht : t < w) (h : d * w + s = e * w + t) : d = e ∧ s = t := by
  rcases Nat.lt_trichotomy d e with hlt | hlt | hlt
  · have : (d + 1) * w ≤ e * w := Nat.mul_le_mul_right w hlt
    rw [Nat.add_mul, Nat.one_mul] at this
    omega
  · subst hlt; exact ⟨rfl, by omega⟩
  · have : (e + 1) * w ≤ d * w := Nat.mul_le_mul_right w hlt
    rw [Nat.add_mul, Nat.one_mul] at this
    omega
theorem WasI.set {w : Nat} {vals : List Int} {M : Wm} (h : WasI w vals M) (hM : WI M) (hw : M.w.length = w) {d s : Nat} (hd : d < 6) (hs : s < w) : WasI w (vals.set (d * w + s) (plSt (ndAt M (s : Int)).pl d).ph) M := by
  refine ⟨by rw [List.length_set]; exact h.1, fun e t he ht => ?_⟩
  rw [List.getElem?_set]
  by_cases hh : d * w + s = e * w + t
  · obtain ⟨rfl, rfl⟩ := idx_inj hs ht hh
    rw [if_pos rfl, if_pos (by rw [h.1]; exact idx_lt hd hs)]
    exact ⟨_, rfl, (stLe_refl (st_ok hM (by omega) hd)).2.2⟩
  · rw [if_neg hh]
    exact h.2 e t he ht
theorem WasI.new {w : List Int} (hc : checkW w = none) : WasI w.length (List.replicate (6 * w.length) 0) (newW w) := by
  refine ⟨by simp, fun d s hd hs => ⟨0, ?_, ?_⟩⟩
  · rw [List.getElem?_replicate, if_pos (idx_lt hd hs)]
  · have := st_ok (new_ok hc) (s := s) (d := d) hs hd
    obtain ⟨g1, g2, -⟩ := this
    unfold mayS
    exact decide_eq_true (by omega)
theorem sts_get {M : Wm} {d s : Nat} (h : s < M.w.length) : (stsW M d)[s]? = some (plSt (ndAt M (s : Int)).pl d) := by
  unfold stsW
  rw [List.getElem?_map, List.getElem?_range h]
  rfl
theorem sts_len (M : Wm) (d : Nat) : (stsW M d).length = M.w.length := by
  unfold stsW
  rw [List.length_map, List.length_range]
end Go.HL
end

/-! HLFi -/
section
namespace Go.HL
open Go
set_option linter.unusedVariables false
set_option linter.unusedSimpArgs false
section fi
variable {P : Program} (S : Tab P) {ρ : Env} {L : Heap} {d : Option Tmp} {ty : TypeId} {pos : String} {af : Array Edge} {g : Option (Nat × Bool)}
end fi
end Go.HL
end

/-! PwJ -/
section
namespace Go.HL
open Go Go.Proofs
set_option linter.unusedVariables false
set_option linter.unusedSimpArgs false
set_option maxHeartbeats 2000000 attribute [local irreducible] HW HO HQ HD HC QOp Has Upd Puts Gets seqQ blkQ loopQ fnQ actQ nextP unQ MapF
attribute [local irreducible] newW actsW actW stsW wdC
end Go.HL
end

/-! EdA -/
section
namespace Go.HL
open Go Go.Proofs
set_option linter.unusedVariables false
set_option linter.unusedSimpArgs false
/-- a deal's number in a plate's journal -/
def numAt (m : Pl) (d : Nat) : Int := ((openM m.b).getD d zeroE).n
theorem wr_live {m : Pl} (ho : m.off = false) (hc : m.cut = -1) (a : Int) (s : List UInt8) : (writeM m a s).1.off = false ∧ (writeM m a s).1.cut = -1 := by
  unfold writeM
  split
  · exact ⟨ho, hc⟩
  · unfold wrOk kM
    simp [ho, hc]
theorem jw_live {m : Pl} (ho : m.off = false) (hc : m.cut = -1) (d : Int) (e : Ent) : (jwM m d e).1.off = false ∧ (jwM m d e).1.cut = -1 := by
  have h1 : (jw1 m d e).1.off = false ∧ (jw1 m d e).1.cut = -1 := by
    unfold jw1
    split
    · exact ⟨ho, hc⟩
    split
    · exact ⟨ho, hc⟩
    · exact wr_live ho hc _ _
  have h2 : (jw2 m d e).1.off = false ∧ (jw2 m d e).1.cut = -1 := by
    unfold jw2
    split
    · exact h1
    · exact wr_live h1.1 h1.2 _ _
  unfold jwM
  split
  · exact h2
  · exact wr_live h2.1 h2.2 _ _
theorem put_stays {m : Pl} (ho : m.off = false) (hc : m.cut = -1) (j : Jn) (d : Int) (s : St) : (putM m j d s).1.off = false ∧ (putM m j d s).1.cut = -1 := by
  unfold putM
  split
  · exact ⟨ho, hc⟩
  split
  · exact ⟨ho, hc⟩
  split
  · exact ⟨ho, hc⟩
  split
  · exact ⟨ho, hc⟩
  split
  · exact jw_live ho hc _ _
  · exact jw_live ho hc _ _
theorem site_stays {m : Pl} (ho : m.off = false) (hc : m.cut = -1) (id : Int) (ref : Int → Bool) (j : Jn) (f : Fr) : (siteM id ref m j f).1.off = false ∧ (siteM id ref m j f).1.cut = -1 := by
  unfold siteM
  split
  · exact ⟨ho, hc⟩
  split
  · exact ⟨ho, hc⟩
  split
  · exact put_stays ho hc _ _ _
  · exact put_stays ho hc _ _ _
theorem put_num {m : Pl} {j : Jn} (h : JI m j) (deal : Int) (s : St) (q : Nat) : ((putM m j deal s).2.1.l.getD q zeroE).n ≤ (j.l.getD q zeroE).n + 1 := by
  have hp := put_any h deal s
  obtain ⟨-, -, hp⟩ := hp
  rcases hp with ⟨h1, -⟩ | ⟨-, -, -, -, ⟨-, h1, -⟩ | ⟨-, h1⟩⟩
  · rw [h1]; omega
  · rw [h1]; omega
  · rw [h1]
    by_cases e : q = deal.toNat
    · subst e
      by_cases hl : deal.toNat < j.l.length
      · simp [List.getD, List.getElem?_set, hl]
      · simp [List.getD, List.getElem?_set, hl, zeroE]
    · simp [List.getD, List.getElem?_set, Ne.symm e]
      omega
theorem site_num {id : Int} {ref : Int → Bool} {m : Pl} {j : Jn} (h : SI m j) (f : Fr) (q : Nat) : ((siteM id ref m j f).2.1.l.getD q zeroE).n ≤ (j.l.getD q zeroE).n + 1 := by
  unfold siteM
  split
  · simp only; omega
  split
  · simp only; omega
  split
  · exact put_num h.ji _ _ _
  · exact put_num h.ji _ _ _
/-- a site that hears, and stays -/
theorem site_live {id : Int} {ref : Int → Bool} {m : Pl} {j : Jn} (h : SI m j) (ho : m.off = false) (hc : m.cut = -1) {f : Fr} (hb : ¬ badF f) (hto : f.to = id) (hn : (j.l.getD f.dl.toNat zeroE).n + 1 < 4294967296) :
    (siteM id ref m j f).2.2.2 = none ∧ stAt (siteM id ref m j f).2.1 f.dl.toNat = (turnM ref f (stAt j f.dl.toNat)).1 ∧ (∀ q, q ≠ f.dl.toNat → stAt (siteM id ref m j f).2.1 q = stAt j q) ∧
    (siteM id ref m j f).2.2.1 = if (turnM ref f (stAt j f.dl.toNat)).2.1 = 0 then [] else [⟨id, f.fr, f.dl, (turnM ref f (stAt j f.dl.toNat)).2.1, f.att, (turnM ref f (stAt j f.dl.toNat)).2.2, (turnM ref f (stAt j f.dl.toNat)).1⟩] := by
  unfold siteM
  rw [if_neg hb, if_neg (by omega)]
  have hb2 := hb
  unfold badF at hb2
  obtain ⟨d, hd⟩ := Int.eq_ofNat_of_zero_le (show 0 ≤ f.dl by omega)
  have hd6 : d < 6 := by omega
  rw [hd] at hn ⊢
  simp only [Int.toNat_natCast] at hn ⊢
  have est : stAt j d = (j.l.getD d zeroE).s := rfl
  rw [est]
  have ht := (turn_ok (ref := ref) (h.st d hd6) hb).1
  rw [est] at ht
  generalize htr : turnM ref f (j.l.getD d zeroE).s = tr at *
  have hp := put_any h.ji d tr.1
  have hs := put_stays ho hc j d tr.1
  generalize putM m j d tr.1 = r at *
  obtain ⟨m', j', er⟩ := r
  simp only at hp hs ⊢
  obtain ⟨hJ, hL, hp⟩ := hp
  rcases hp with ⟨hl, he⟩ | ⟨hnb, he, -, -, hp⟩
  · exfalso
    simp only [Int.toNat_natCast] at he
    rcases he with ⟨-, he⟩ | ⟨-, he⟩ | ⟨-, he⟩
    · rw [hs.1] at he; cases he
    · obtain ⟨g1, g2, g3, g4, g5⟩ := ht
      unfold badPut at he
      omega
    · omega
  · subst he
    simp only [Int.toNat_natCast] at hp
    have hlen : j.l.length = 6 := h.ji.jn.len
    have hst' : stAt j' d = tr.1 ∧ ∀ q, q ≠ d → stAt j' q = stAt j q := by
      rcases hp with ⟨h1, h2, -⟩ | ⟨h1, h2⟩
      · refine ⟨by unfold stAt; rw [h2, h1], fun q _ => by unfold stAt; rw [h2]⟩
      · refine ⟨by unfold stAt; rw [h2]; simp [List.getD, hlen, hd6], fun q hq => by unfold stAt; rw [h2]; simp [List.getD, List.getElem?_set, Ne.symm hq]⟩
    exact ⟨by trivial, hst'.1, hst'.2, by trivial⟩
/-- what is seen of a site in a world -/
def stW (M : Wm) (s d : Nat) : St := plSt (ndAt M (s : Int)).pl d
def ldW (M : Wm) (s d : Nat) : Option Ld := (ndAt M (s : Int)).leads.getD d none
def nmW (M : Wm) (s d : Nat) : Int := numAt (ndAt M (s : Int)).pl d
/-- it is up, and its power stays -/
def LiveN (m : Nd) : Prop := m.site ≠ none ∧ m.pl.cut = -1
def LiveW (M : Wm) (s : Nat) : Prop := LiveN (ndAt M (s : Int))
theorem LiveN.off {w : List Int} {s : Nat} {m : Nd} (h : NdI w s m) (hl : LiveN m) : ∃ j ref, m.site = some (j, ref) ∧ j = ⟨openM m.pl.b, false⟩ ∧ m.pl.off = false ∧ m.pl.cut = -1 ∧ SI m.pl j := by
  obtain ⟨⟨j, ref⟩, hs⟩ := Option.ne_none_iff_exists'.1 hl.1
  obtain ⟨e1, e2⟩ := h.up j ref hs
  exact ⟨j, ref, hs, e1, e2, hl.2, h.jn hs⟩
/-- a node that hears and stays: what it is then -/
theorem nd_live {w : List Int} {s : Nat} {m : Nd} (h : NdI w s m) (hl : LiveN m) {j : Jn} {ref : Int → Bool} (hs : m.site = some (j, ref)) (ev : List Evt) {f : Fr} (hb : ¬ badF f) (hto : f.to = s) (hn : numAt m.pl f.dl.toNat + 1 < 4294967296) :
    (∃ j', (hearNd s m ev f).1.site = some (j', ref)) ∧ (hearNd s m ev f).1.pl.cut = -1 ∧ (hearNd s m ev f).1.leads = m.leads ∧ plSt (hearNd s m ev f).1.pl f.dl = (turnM ref f (plSt m.pl f.dl)).1 ∧
    (∀ q : Nat, q ≠ f.dl.toNat → plSt (hearNd s m ev f).1.pl q = plSt m.pl q) ∧
    (hearNd s m ev f).2.2 = (if (turnM ref f (plSt m.pl f.dl)).2.1 = 0 then [] else [⟨s, f.fr, f.dl, (turnM ref f (plSt m.pl f.dl)).2.1, f.att, (turnM ref f (plSt m.pl f.dl)).2.2, (turnM ref f (plSt m.pl f.dl)).1⟩], true) := by
  have hS := h.jn hs
  obtain ⟨e1, e2⟩ := h.up j ref hs
  have hst := site_stays e2 hl.2 s ref j f
  have hb2 := hb
  unfold badF at hb2
  obtain ⟨d, hd⟩ := Int.eq_ofNat_of_zero_le (show 0 ≤ f.dl by omega)
  have hlv := site_live (id := s) (ref := ref) hS e2 hl.2 hb hto (by rw [e1]; exact hn)
  have hany := (site_any (id := s) (ref := ref) hS f).1
  have hl' : (siteM s ref m.pl j f).2.1.l = openM (siteM s ref m.pl j f).1.b := hany.ji.l
  have hpl : ∀ q : Nat, plSt (siteM s ref m.pl j f).1 q = stAt (siteM s ref m.pl j f).2.1 q := fun q => by
    unfold stAt plSt
    rw [hl']
    rfl
  have ej : ∀ q, stAt j q = plSt m.pl q := fun q => st_eq h hs q
  unfold hearNd
  rw [hs]
  simp only
  rw [hst.1]
  simp only [Bool.false_eq_true, if_false]
  rw [hd] at hlv ⊢
  simp only [Int.toNat_natCast] at hlv ⊢
  rw [ej] at hlv
  obtain ⟨k1, k2, k3, k4⟩ := hlv
  refine ⟨⟨_, rfl⟩, hst.2, by trivial, by rw [hpl]; exact k2, fun q hq => by rw [hpl, k3 q hq, ej], ?_⟩
  rw [k1, k4]
  rfl
theorem nd_num {w : List Int} {s : Nat} {m : Nd} (h : NdI w s m) (ev : List Evt) (f : Fr) (q : Nat) : numAt (hearNd s m ev f).1.pl q ≤ numAt m.pl q + 1 := by
  unfold hearNd
  split
  · simp only; omega
  · rename_i j ref hs
    have hS := h.jn hs
    have hn := site_num (id := s) (ref := ref) hS f q
    have hany := (site_any (id := s) (ref := ref) hS f).1
    have hl' : (siteM s ref m.pl j f).2.1.l = openM (siteM s ref m.pl j f).1.b := hany.ji.l
    have hj : j.l = openM m.pl.b := hS.ji.l
    rw [hl', hj] at hn
    unfold numAt
    split <;> exact hn
/-- what a node's states become, whatever it hears -/
theorem nd_st {w : List Int} {s : Nat} {m : Nd} (h : NdI w s m) (ev : List Evt) (f : Fr) : (∀ d : Nat, d < 6 → plSt (hearNd s m ev f).1.pl d = plSt m.pl d ∨ (d = f.dl.toNat ∧ ∃ ref, plSt (hearNd s m ev f).1.pl d = (turnM ref f (plSt m.pl d)).1)) ∧
    (∀ x ∈ (hearNd s m ev f).2.2.1, ∃ ref, x = ⟨s, f.fr, f.dl, (turnM ref f (plSt m.pl f.dl)).2.1, f.att, (turnM ref f (plSt m.pl f.dl)).2.2, (turnM ref f (plSt m.pl f.dl)).1⟩ ∧ (turnM ref f (plSt m.pl f.dl)).2.1 ≠ 0 ∧ ¬ badF f ∧ f.to = s) := by
  unfold hearNd
  split
  · exact ⟨fun d _ => .inl rfl, fun x hx => by cases hx⟩
  · rename_i j ref hs
    have hS := h.jn hs
    have hstep := site_step (id := s) (ref := ref) hS f
    have hany := (site_any (id := s) (ref := ref) hS f).1
    have hl' : (siteM s ref m.pl j f).2.1.l = openM (siteM s ref m.pl j f).1.b := hany.ji.l
    have hpl : ∀ q : Nat, plSt (siteM s ref m.pl j f).1 q = stAt (siteM s ref m.pl j f).2.1 q := fun q => by
      unfold stAt plSt
      rw [hl']
      rfl
    have ej : ∀ q, stAt j q = plSt m.pl q := fun q => st_eq h hs q
    have key : (∀ d : Nat, d < 6 → plSt (siteM s ref m.pl j f).1 d = plSt m.pl d ∨ (d = f.dl.toNat ∧ ∃ r', plSt (siteM s ref m.pl j f).1 d = (turnM r' f (plSt m.pl d)).1)) ∧
        (∀ x ∈ (siteM s ref m.pl j f).2.2.1, ∃ ref, x = ⟨s, f.fr, f.dl, (turnM ref f (plSt m.pl f.dl)).2.1, f.att, (turnM ref f (plSt m.pl f.dl)).2.2, (turnM ref f (plSt m.pl f.dl)).1⟩ ∧ (turnM ref f (plSt m.pl f.dl)).2.1 ≠ 0 ∧ ¬ badF f ∧ f.to = s) := by
      rcases hstep with ⟨hq, hx⟩ | ⟨hb, hto, htu, hoth, hx⟩
      · exact ⟨fun d hd => .inl (by rw [hpl, hq d hd, ej]), fun x hx2 => by rw [hx] at hx2; cases hx2⟩
      · have hb2 := hb
        unfold badF at hb2
        obtain ⟨d0, hd0⟩ := Int.eq_ofNat_of_zero_le (show 0 ≤ f.dl by omega)
        have hdn : f.dl.toNat = d0 := by omega
        have e2 : stAt j f.dl.toNat = plSt m.pl f.dl := by rw [hdn, hd0]; exact ej d0
        refine ⟨fun d hd => ?_, fun x hx2 => ?_⟩
        · by_cases e : d = f.dl.toNat
          · exact .inr ⟨e, ref, by rw [hpl, e, htu, ej]⟩
          · exact .inl (by rw [hpl, hoth d hd e, ej])
        · obtain ⟨k1, k2⟩ := hx x hx2
          rw [e2] at k1 k2
          exact ⟨ref, k2, k1, hb, hto⟩
    clear hstep hany hl' hpl
    generalize siteM s ref m.pl j f = r at key ⊢
    split
    · exact ⟨key.1, fun x hx => by cases hx⟩
    · exact key
end Go.HL
end

/-! EdB -/
section
namespace Go.HL
open Go Go.Proofs
set_option linter.unusedVariables false
set_option linter.unusedSimpArgs false
structure Bnd (M : Wm) (P N : Int) : Prop where
  pr : ∀ s d : Nat, s < M.w.length → d < 6 → (stW M s d).pr ≤ P
  ld : ∀ s d x, s < M.w.length → d < 6 → ldW M s d = some x → x.seen ≤ P ∧ x.att ≤ P
  fr : ∀ f ∈ M.l, f.att ≤ P ∧ f.s.pr ≤ P
  nm : ∀ s d : Nat, s < M.w.length → nmW M s d ≤ N
  p0 : 0 ≤ P
  n0 : 0 ≤ N
theorem Bnd.mono {M : Wm} {P N P' N' : Int} (h : Bnd M P N) (hP : P ≤ P') (hN : N ≤ N') : Bnd M P' N' :=
  ⟨fun s d a b => by have := h.pr s d a b; omega, fun s d x a b c => by have := h.ld s d x a b c; omega, fun f hf => by have := h.fr f hf; omega, fun s d a => by have := h.nm s d a; omega, by have := h.p0; omega, by have := h.n0; omega⟩
theorem Bnd.of {M M' : Wm} {P N : Int} (h : Bnd M P N) (hw : M'.w = M.w) (hst : ∀ s d : Nat, stW M' s d = stW M s d) (hnm : ∀ s d : Nat, nmW M' s d = nmW M s d)
    (hld : ∀ s d x, s < M.w.length → d < 6 → ldW M' s d = some x → ldW M s d = some x ∨ (x.seen ≤ P ∧ x.att ≤ P)) (hl : ∀ f ∈ M'.l, f ∈ M.l ∨ (f.att ≤ P ∧ f.s.pr ≤ P)) : Bnd M' P N :=
  ⟨fun s d a b => by rw [hst]; exact h.pr s d (by rw [← hw]; exact a) b, fun s d x a b c => by
    rw [hw] at a
    rcases hld s d x a b c with k | k
    · exact h.ld s d x a b k
    · exact k, fun f hf => (by
    rcases hl f hf with k | k
    · exact h.fr f k
    · exact k), fun s d a => by rw [hnm]; exact h.nm s d (by rw [← hw]; exact a), h.p0, h.n0⟩
theorem hear_att (x : Ld) (f : Fr) : (hearM x f).1.att = x.att ∧ (hearM x f).1.id = x.id ∧ (hearM x f).1.deal = x.deal ∧ (hearM x f).1.w = x.w ∧ ((hearM x f).1.seen ≤ x.seen ∨ (hearM x f).1.seen ≤ f.s.pr) := by
  have h1 : (m1M x f).att = x.att ∧ (m1M x f).id = x.id ∧ (m1M x f).deal = x.deal ∧ (m1M x f).w = x.w ∧ ((m1M x f).seen ≤ x.seen ∨ (m1M x f).seen ≤ f.s.pr) := by
    unfold m1M
    split
    · exact ⟨rfl, rfl, rfl, rfl, .inl (Int.le_refl _)⟩
    · refine ⟨rfl, rfl, rfl, rfl, ?_⟩
      simp only
      omega
  have h2 : (m2M x f).att = x.att ∧ (m2M x f).id = x.id ∧ (m2M x f).deal = x.deal ∧ (m2M x f).w = x.w ∧ ((m2M x f).seen ≤ x.seen ∨ (m2M x f).seen ≤ f.s.pr) := h1
  unfold hearM
  split
  · exact ⟨rfl, rfl, rfl, rfl, .inl (Int.le_refl _)⟩
  split
  · unfold noM
    split <;> exact h1
  · unfold countM
    split
    · exact h2
    split
    · exact h2
    split
    · exact h2
    split <;> exact h2
theorem hear_frames {x : Ld} {f : Fr} : ∀ y ∈ (hearM x f).2, y.fr = x.id ∧ y.dl = x.deal ∧ y.att = x.att ∧ y.s.pr = 0 ∧ (y.kd = 5 ∨ y.kd = 7) := by
  have hall : ∀ (m : Ld) (k p : Int), m.deal = x.deal → m.id = x.id → m.att = x.att → (k = 5 ∨ k = 7) → ∀ y ∈ allM m k p, y.fr = x.id ∧ y.dl = x.deal ∧ y.att = x.att ∧ y.s.pr = 0 ∧ (y.kd = 5 ∨ y.kd = 7) := fun m k p h h2 h3 hk y hy => by
    obtain ⟨i, -, rfl, -⟩ := allM_mem hy
    exact ⟨h2, h, h3, rfl, hk⟩
  have e1 : (m1M x f).deal = x.deal ∧ (m1M x f).id = x.id ∧ (m1M x f).att = x.att := by unfold m1M; split <;> exact ⟨rfl, rfl, rfl⟩
  have e2 : (m2M x f).deal = x.deal ∧ (m2M x f).id = x.id ∧ (m2M x f).att = x.att := by unfold m2M; exact e1
  unfold hearM
  split
  · intro y hy; cases hy
  split
  · unfold noM
    split
    · exact hall _ _ _ e1.1 e1.2.1 e1.2.2 (.inr rfl)
    · intro y hy; cases hy
  · unfold countM
    split
    · exact hall _ _ _ e2.1 e2.2.1 e2.2.2 (.inl rfl)
    split
    · intro y hy; cases hy
    split
    · exact hall _ _ _ e2.1 e2.2.1 e2.2.2 (.inr rfl)
    split
    · exact hall _ _ _ e2.1 e2.2.1 e2.2.2 (.inr rfl)
    · exact hall _ _ _ e2.1 e2.2.1 e2.2.2 (.inl rfl)
theorem start_frames {m : Ld} : ∀ y ∈ startM m, y.fr = m.id ∧ y.dl = m.deal ∧ y.att = m.att ∧ y.s.pr = 0 ∧ (y.kd = if m.att = 0 then 1 else 3) := fun y hy => by
  unfold startM at hy
  split at hy
  · rename_i h
    obtain ⟨i, -, rfl, -⟩ := allM_mem hy
    exact ⟨rfl, rfl, rfl, rfl, by rw [if_pos h]⟩
  · rename_i h
    obtain ⟨i, -, rfl, -⟩ := allM_mem hy
    exact ⟨rfl, rfl, rfl, rfl, by rw [if_neg h]⟩
theorem turn_pr (ref : Int → Bool) (f : Fr) (st : St) : (turnM ref f st).1.pr ≤ st.pr ∨ (turnM ref f st).1.pr ≤ f.att := by
  unfold turnM
  split
  · left; unfold askM; split
    · split <;> exact Int.le_refl _
    · exact Int.le_refl _
  split
  · simp only; omega
  split
  · split
    · exact .inl (Int.le_refl _)
    · split
      · exact .inr (Int.le_refl _)
      · exact .inl (Int.le_refl _)
  split
  · left; simp only; split <;> exact Int.le_refl _
  · exact .inl (Int.le_refl _)
/-- a node behind what its site hears -/
theorem hear_nd {M : Wm} {s : Int} (h0 : 0 ≤ s) (h1 : s < M.n.length) (f : Fr) (t : Nat) : ndAt (hearW M s f).1 (t : Int) = if (t : Int) = s then (hearNd s (ndAt M s) M.ev f).1 else ndAt M (t : Int) := Ze h0 h1 t
theorem hear_leads (s : Int) (m : Nd) (ev : List Evt) (f : Fr) : (hearNd s m ev f).1.leads = m.leads ∨ (hearNd s m ev f).1.leads = noLeads := by
  unfold hearNd
  split
  · exact .inl rfl
  split
  · exact .inr rfl
  · exact .inl rfl
theorem Bnd.hear {M : Wm} {P N : Int} (h : Bnd M P N) (hI : WI M) {s : Int} (h0 : 0 ≤ s) (h1 : s < M.n.length) {f : Fr} (hf : f.att ≤ P) :
    Bnd (hearW M s f).1 P (N + 1) ∧ ∀ y ∈ (hearW M s f).2.1, y.att ≤ P ∧ y.s.pr ≤ P := by
  have hni := hI.at h0 h1
  have hn := hI.wn
  obtain ⟨sn, rfl⟩ := Int.eq_ofNat_of_zero_le h0
  simp only [Int.toNat_natCast] at hni
  have hsn : sn < M.w.length := by omega
  have hw : (hearW M sn f).1.w = M.w := rfl
  obtain ⟨k1, k2⟩ := nd_st hni M.ev f
  have k3 := nd_num hni M.ev f
  refine ⟨⟨fun t d ht hd => ?_, fun t d x ht hd hx => ?_, fun y hy => h.fr y hy, fun t d ht => ?_, h.p0, by have := h.n0; omega⟩, fun y hy => ?_⟩
  · show (plSt (ndAt (hearW M sn f).1 (t : Int)).pl d).pr ≤ P
    rw [hear_nd h0 h1]
    have hp := h.pr t d ht hd
    unfold stW at hp
    split
    · rename_i e
      rw [e] at hp
      rcases k1 d hd with k | ⟨-, ref, k⟩
      · rw [k]; exact hp
      · rw [k]
        have := turn_pr ref f (plSt (ndAt M sn).pl d)
        omega
    · exact hp
  · have hx' : (ndAt (hearW M sn f).1 (t : Int)).leads.getD d none = some x := hx
    rw [hear_nd h0 h1] at hx'
    split at hx'
    · rename_i e
      rcases hear_leads sn (ndAt M sn) M.ev f with k | k
      · rw [k, ← e] at hx'
        exact h.ld t d x ht hd hx'
      · rw [k, noLeads_getD] at hx'; cases hx'
    · exact h.ld t d x ht hd hx'
  · show numAt (ndAt (hearW M sn f).1 (t : Int)).pl d ≤ N + 1
    rw [hear_nd h0 h1]
    have hp := h.nm t d ht
    unfold nmW at hp
    split
    · rename_i e
      rw [e] at hp
      have := k3 d
      omega
    · omega
  · have hy' : y ∈ (hearNd sn (ndAt M sn) M.ev f).2.2.1 := hy
    obtain ⟨ref, rfl, -, hb, -⟩ := k2 y hy'
    refine ⟨hf, ?_⟩
    simp only
    unfold badF at hb
    obtain ⟨d, hd⟩ := Int.eq_ofNat_of_zero_le (show 0 ≤ f.dl by omega)
    have hp := h.pr sn d hsn (by omega)
    unfold stW at hp
    rw [hd]
    have := turn_pr ref f (plSt (ndAt M sn).pl d)
    omega
theorem ldW_set {M : Wm} {s : Int} (h0 : 0 ≤ s) (h1 : s < M.n.length) (h6 : (ndAt M s).leads.length = 6) {d : Nat} (hd : d < 6) (o : Option Ld) (l : List Fr) (t e : Nat) :
    ldW { setN M s { ndAt M s with leads := (ndAt M s).leads.set d o } with l := l } t e = if (t : Int) = s ∧ e = d then o else ldW M t e := by
  unfold ldW
  show (ndAt (setN M s { ndAt M s with leads := (ndAt M s).leads.set d o }) (t : Int)).leads.getD e none = _
  rw [Ze h0 h1]
  by_cases ht : (t : Int) = s
  · rw [if_pos ht]
    by_cases he : e = d
    · subst he
      rw [if_pos ⟨ht, rfl⟩]
      exact getD_set_eq (by omega)
    · rw [if_neg (fun q => he q.2), ht]
      exact getD_set_ne he
  · rw [if_neg ht, if_neg (fun q => ht q.1)]
theorem stW_lead {M : Wm} {s : Int} (h0 : 0 ≤ s) (h1 : s < M.n.length) (ls : List (Option Ld)) (l : List Fr) (t e : Nat) : stW { setN M s { ndAt M s with leads := ls } with l := l } t e = stW M t e := by
  unfold stW
  show plSt (ndAt (setN M s { ndAt M s with leads := ls }) (t : Int)).pl e = _
  rw [Ze h0 h1]
  split
  · rename_i ht; rw [ht]
  · rfl
theorem nmW_lead {M : Wm} {s : Int} (h0 : 0 ≤ s) (h1 : s < M.n.length) (ls : List (Option Ld)) (l : List Fr) (t e : Nat) : nmW { setN M s { ndAt M s with leads := ls } with l := l } t e = nmW M t e := by
  unfold nmW
  show numAt (ndAt (setN M s { ndAt M s with leads := ls }) (t : Int)).pl e = _
  rw [Ze h0 h1]
  split
  · rename_i ht; rw [ht]
  · rfl
/-- a node changed, but not what its plate holds, and its leads kept or gone -/
theorem Bnd.node {M : Wm} {P N : Int} (h : Bnd M P N) {s : Int} (h0 : 0 ≤ s) (h1 : s < M.n.length) {m : Nd} {ev : List Evt} (hb : m.pl.b = (ndAt M s).pl.b) (hld : m.leads = (ndAt M s).leads ∨ m.leads = noLeads) : Bnd { setN M s m with ev := ev } P N := by
  refine h.of rfl (fun t d => ?_) (fun t d => ?_) (fun t d x ht hd hx => ?_) (fun f hf => .inl hf)
  · show plSt (ndAt (setN M s m) (t : Int)).pl d = plSt (ndAt M (t : Int)).pl d
    rw [Ze h0 h1]
    split
    · rename_i e; rw [e]; unfold plSt; rw [hb]
    · rfl
  · show numAt (ndAt (setN M s m) (t : Int)).pl d = numAt (ndAt M (t : Int)).pl d
    rw [Ze h0 h1]
    split
    · rename_i e; rw [e]; unfold numAt; rw [hb]
    · rfl
  · have hx' : (ndAt (setN M s m) (t : Int)).leads.getD d none = some x := hx
    rw [Ze h0 h1] at hx'
    split at hx'
    · rename_i e
      rcases hld with k | k
      · rw [k] at hx'
        left
        show (ndAt M (t : Int)).leads.getD d none = some x
        rw [e]; exact hx'
      · rw [k, noLeads_getD] at hx'; cases hx'
    · exact .inl hx'
theorem Bnd.setL {M : Wm} {P N : Int} (h : Bnd M P N) {l : List Fr} (hl : ∀ f ∈ l, f ∈ M.l ∨ (f.att ≤ P ∧ f.s.pr ≤ P)) : Bnd { M with l := l } P N :=
  h.of rfl (fun _ _ => rfl) (fun _ _ => rfl) (fun _ _ _ _ _ hx => .inl hx) hl
theorem Bnd.erase {M : Wm} {P N : Int} (h : Bnd M P N) (k : Nat) : Bnd { M with l := M.l.eraseIdx k } P N := h.setL fun f hf => .inl (List.mem_of_mem_eraseIdx hf)
/-- a lead comes, or hears -/
theorem Bnd.lead {M : Wm} {P N : Int} (h : Bnd M P N) (hI : WI M) {s : Int} (h0 : 0 ≤ s) (h1 : s < M.n.length) {d : Nat} (hd : d < 6) {x : Ld} (hx : x.seen ≤ P ∧ x.att ≤ P) {l : List Fr} (hl : ∀ f ∈ l, f ∈ M.l ∨ (f.att ≤ P ∧ f.s.pr ≤ P)) :
    Bnd { setN M s { ndAt M s with leads := (ndAt M s).leads.set d (some x) } with l := l } P N := by
  have h6 := (hI.at h0 h1).leads
  refine h.of rfl (fun t e => stW_lead h0 h1 _ _ t e) (fun t e => nmW_lead h0 h1 _ _ t e) (fun t e y ht he hy => ?_) hl
  rw [ldW_set h0 h1 h6 hd] at hy
  split at hy
  · cases hy; exact .inr hx
  · exact .inl hy
theorem Bnd.hears {P : Int} : ∀ (l : List Fr) (x : Ld) (acc : List Fr), 0 ≤ P → x.seen ≤ P ∧ x.att ≤ P → (∀ f ∈ l, f.att ≤ P ∧ f.s.pr ≤ P) → (∀ f ∈ acc, f.att ≤ P ∧ f.s.pr ≤ P) →
    ((l.foldl (fun q f => ((hearM q.1 f).1, q.2 ++ (hearM q.1 f).2)) (x, acc)).1.seen ≤ P ∧ (l.foldl (fun q f => ((hearM q.1 f).1, q.2 ++ (hearM q.1 f).2)) (x, acc)).1.att ≤ P) ∧ ∀ f ∈ (l.foldl (fun q f => ((hearM q.1 f).1, q.2 ++ (hearM q.1 f).2)) (x, acc)).2, f.att ≤ P ∧ f.s.pr ≤ P
  | [], x, acc, h0, hx, _, ha => ⟨hx, ha⟩
  | f :: l, x, acc, h0, hx, hl, ha => by
    rw [List.foldl_cons]
    obtain ⟨e1, -, -, -, e2⟩ := hear_att x f
    have hf := hl f (by simp)
    refine Bnd.hears l _ _ h0 ⟨(show (hearM x f).1.seen ≤ P by omega), by rw [e1]; exact hx.2⟩ (fun g hg => hl g (by simp [hg])) fun g hg => ?_
    rcases List.mem_append.1 hg with hg | hg
    · exact ha g hg
    · obtain ⟨-, -, k1, k2, -⟩ := hear_frames g hg
      rw [k1, k2]
      exact ⟨hx.2, h0⟩
theorem tryAtt_le {k s a : Int} (hk : 0 < k) : a ≤ tryAtt k s a ∧ tryAtt k s a ≤ a + k - 1 := by
  unfold tryAtt
  have h1 := Int.emod_nonneg (s - a) (by omega : k ≠ 0)
  have h2 := Int.emod_lt_of_pos (s - a) hk
  generalize (s - a) % k = z at *
  omega
theorem tryAbove_le {M : Wm} {P N : Int} (h : Bnd M P N) {s : Int} (h0 : 0 ≤ s) (h1 : s < M.w.length) {d : Nat} (hd : d < 6) {p : Int} (hp : p ≤ P) : tryAbove (ndAt M s) d p ≤ P := by
  unfold tryAbove
  split
  · exact hp
  · rename_i x hx
    have := (h.ld s.toNat d x (by omega) hd (by unfold ldW; rw [show ((s.toNat : Nat) : Int) = s by omega]; exact hx)).1
    omega
theorem Bnd.try {M : Wm} {P N : Int} (h : Bnd M P N) (hI : WI M) {s p : Int} {d : Nat} (h0 : 0 ≤ s) (h1 : s < M.n.length) (hd : d < 6) (hp : p ≤ P) : Bnd (tryW M s d p).1 (P + 7) (N + 1) := by
  have hn := hI.wn
  have hw := hI.wl
  have hw1 := hI.w1
  have hab := tryAbove_le h h0 (by omega) hd hp
  have hp0 := h.p0
  unfold tryW
  simp only
  have hle := tryAtt_le (k := M.w.length) (s := s) (a := tryAbove (ndAt M s) d p + 1) (by omega)
  generalize tryAtt M.w.length s (tryAbove (ndAt M s) d p + 1) = a at *
  split
  · exact h.mono (by omega) (by omega)
  have h7 := h.mono (P' := P + 7) (N' := N) (by omega) (by omega)
  obtain ⟨k1, k2⟩ := h7.hear hI (f := tryF s d a) h0 h1 (by show a ≤ _; omega)
  obtain ⟨hI2, -⟩ := hI.hear (f := tryF s d a) h0 h1 (by show s < _; omega)
  have hS := same_hear M s (tryF s d a)
  generalize hearW M s (tryF s d a) = R at *
  split
  · exact k1
  · obtain ⟨q1, q2⟩ := Bnd.hears (P := P + 7) R.2.1 (newLd s d M.w a 4) [] (by omega) ⟨by show (0 : Int) ≤ _; omega, by show a ≤ _; omega⟩ k2 (fun f hf => by cases hf)
    refine k1.lead hI2 h0 (by rw [hS.n]; exact h1) (d := (d : Int).toNat) (by simpa using hd) q1 fun f hf => ?_
    rcases List.mem_append.1 hf with hf | hf
    · rcases List.mem_append.1 hf with hf | hf
      · exact .inl hf
      · obtain ⟨-, -, e1, e2, -⟩ := start_frames f hf
        rw [e1, e2]
        exact .inr ⟨by show a ≤ _; omega, by omega⟩
    · exact .inr (q2 f hf)
theorem Bnd.tickD {M : Wm} {P N : Int} {q : Wm × Bool} {s : Int} {k d : Nat} (h : Bnd q.1 P N) (hT : TickOk M q s k) (h0 : 0 ≤ s) (h1 : s < M.n.length) (hd : d < 6) : Bnd (tickD s q d).1 (P + 7) (N + 1) := by
  obtain ⟨M1, b⟩ := q
  have hn := hT.same.n
  simp only at hn h
  have hwn := hT.wi.wn
  simp only at hwn
  have hp0 := h.p0
  unfold HL.tickD
  split
  · exact h.mono (by omega) (by omega)
  split
  · exact h.mono (by omega) (by omega)
  rename_i hb _ j ref hs
  have hs' : (ndAt M1 s).site = some (j, ref) := hs
  have hni := hT.wi.at (s := s) h0 (by simp only; omega)
  have e := st_eq hni hs' d
  have hpr := h.pr s.toNat d (by omega) hd
  unfold stW at hpr
  rw [show ((s.toNat : Nat) : Int) = s by omega] at hpr
  split
  · exact h.mono (by omega) (by omega)
  split
  · refine (h.mono (P' := P + 7) (N' := N + 1) (by omega) (by omega)).setL fun f hf => ?_
    rcases List.mem_append.1 hf with hf | hf
    · exact .inl hf
    · unfold decideF at hf
      obtain ⟨i, hi, rfl⟩ := List.mem_map.1 hf
      refine .inr ⟨?_, ?_⟩
      · show (stAt j d).pr ≤ P + 7
        rw [e]
        exact Int.le_trans hpr (by omega)
      · show (0 : Int) ≤ P + 7
        omega
  · exact h.try hT.wi h0 (by show s < M1.n.length; omega) hd (by rw [e]; exact hpr)
theorem Bnd.deliver {M : Wm} {P N : Int} (h : Bnd M P N) (hI : WI M) (k : Int) : Bnd (deliverW M k).1 P (N + 1) := by
  have hn := hI.wn
  unfold deliverW
  split
  · exact h.mono (by omega) (by omega)
  rename_i hk
  obtain ⟨⟨hbad, hto, hfr⟩, hk0, hk1⟩ := frame_at hI hk
  have hmem : M.l.getD k.toNat zeroF ∈ M.l := by
    rw [List.getD, List.getElem?_eq_getElem (show k.toNat < M.l.length by omega)]
    exact List.getElem_mem _
  have hE := hI.erase k.toNat
  have hB := h.erase k.toNat
  generalize M.l.getD k.toNat zeroF = f at *
  unfold badF at hbad
  have hf := h.fr f hmem
  have hp0 := h.p0
  simp only
  split
  · exact hB.mono (by omega) (by omega)
  split
  · split
    · exact hB.mono (by omega) (by omega)
    · rename_i x hx
      have hx' := h.ld f.to.toNat f.dl.toNat x (by omega) (by omega) (by unfold ldW; rw [show ((f.to.toNat : Nat) : Int) = f.to by omega]; exact hx)
      obtain ⟨e1, -, -, -, e2⟩ := hear_att x f
      refine Bnd.mono (N := N) ?_ (Int.le_refl P) (by omega)
      refine hB.lead hE (by omega) (by simp only; omega) (by omega) ⟨by omega, by omega⟩ fun g hg => ?_
      rcases List.mem_append.1 hg with hg | hg
      · exact .inl hg
      · obtain ⟨-, -, k1, k2, -⟩ := hear_frames g hg
        rw [k1, k2]
        exact .inr ⟨hx'.2, hp0⟩
  · obtain ⟨k1, k2⟩ := hB.hear hE (s := f.to) (f := f) (by omega) (by simp only; omega) hf.1
    refine k1.setL fun g hg => ?_
    rcases List.mem_append.1 hg with hg | hg
    · exact .inl hg
    · exact .inr (k2 g hg)
theorem bnd_new {w : List Int} (hc : checkW w = none) : Bnd (newW w) 0 0 := by
  have e : ∀ s : Nat, s < (newW w).w.length → ndAt (newW w) (s : Int) = newNd := fun s hs => ndAt_new (by omega) (by have : (newW w).w = w := rfl; rw [this] at hs; omega)
  refine ⟨fun s d hs hd => ?_, fun s d x hs hd hx => ?_, fun f hf => (by cases hf), fun s d hs => ?_, (by omega), (by omega)⟩
  · unfold stW
    rw [e s hs, plSt_new]
    exact Int.le_refl _
  · unfold ldW at hx
    rw [e s hs] at hx
    have : newNd.leads = noLeads := rfl
    rw [this, noLeads_getD] at hx
    cases hx
  · unfold nmW
    rw [e s hs]
    unfold numAt newNd
    simp only
    rw [open_zeros (by omega)]
    rw [List.getD, List.getElem?_replicate]
    split <;> exact Int.le_refl _
end Go.HL
end

/-! EdC -/
section
namespace Go.HL
open Go Go.Proofs
set_option linter.unusedVariables false
set_option linter.unusedSimpArgs false
/-- what a frame weighs: each delivery makes all of it lighter -/
def wtF (f : Fr) : Nat := if f.kd = 1 ∨ f.kd = 3 then 65 else if f.kd = 2 ∨ f.kd = 4 then 64 else if f.kd = 5 then 9 else if f.kd = 6 then 8 else 1
def wtL (l : List Fr) : Nat := (l.map wtF).sum
theorem wt_app (a b : List Fr) : wtL (a ++ b) = wtL a + wtL b := by simp [wtL]
theorem wt_cons (f : Fr) (b : List Fr) : wtL (f :: b) = wtF f + wtL b := by simp [wtL]
theorem wt_pos (f : Fr) : 1 ≤ wtF f := by unfold wtF; split <;> (try split) <;> (try split) <;> (try split) <;> omega
theorem wt_le {l : List Fr} {k : Nat} (h : ∀ f ∈ l, wtF f ≤ k) : wtL l ≤ k * l.length := by
  induction l with
  | nil => simp [wtL]
  | cons f r ih =>
    have h1 := h f (by simp)
    have h2 := ih fun g hg => h g (by simp [hg])
    rw [wt_cons, List.length_cons, Nat.mul_add, Nat.mul_one]
    omega
theorem hear_six {x : Ld} {f : Fr} (h6 : f.kd = 6) : ∀ y ∈ (hearM x f).2, y.kd = 7 := by
  have hall : ∀ (m : Ld) (p : Int), ∀ y ∈ allM m 7 p, y.kd = 7 := fun m p y hy => by
    obtain ⟨i, -, rfl, -⟩ := allM_mem hy
    rfl
  unfold hearM
  split
  · intro y hy; cases hy
  rename_i hw
  have hfit : fitsM x f := by
    by_cases hfit : fitsM x f
    · exact hfit
    · exact absurd (.inr hfit) hw
  have h1 : x.wait = 6 := by have := hfit.1; omega
  split
  · unfold noM
    split
    · exact hall _ _
    · intro y hy; cases hy
  · have e : (m2M x f).wait = 6 := by
      unfold m2M m1M
      simp only
      split <;> exact h1
    unfold countM
    split
    · rename_i h2; omega
    split
    · intro y hy; cases hy
    exact hall _ _
theorem wt_hear {w : List Int} {s d : Nat} {x : Ld} (hx : LdI w s d x) (hw : w.length ≤ 7) {f : Fr} (hk : f.kd = 2 ∨ f.kd = 4 ∨ f.kd = 6) : wtL (hearM x f).2 < wtF f := by
  have hl := hear_len x f
  rw [hx.ww] at hl
  by_cases h6 : f.kd = 6
  · have h1 := wt_le (l := (hearM x f).2) (k := 1) fun y hy => by
      have := hear_six h6 y hy
      unfold wtF
      rw [if_neg (by omega), if_neg (by omega), if_neg (by omega), if_neg (by omega)]
      omega
    have : wtF f = 8 := by unfold wtF; rw [if_neg (by omega), if_neg (by omega), if_neg (by omega), if_pos h6]
    omega
  · have h1 := wt_le (l := (hearM x f).2) (k := 9) fun y hy => by
      obtain ⟨-, -, -, -, h5⟩ := hear_frames y hy
      unfold wtF
      rw [if_neg (by omega), if_neg (by omega)]
      split
      · omega
      · rw [if_neg (by omega)]; omega
    have : wtF f = 64 := by unfold wtF; rw [if_neg (by omega), if_pos (by omega)]
    omega
theorem turn_kd {ref : Int → Bool} {f : Fr} {st : St} (h : (turnM ref f st).2.1 ≠ 0) : (f.kd = 1 ∧ (turnM ref f st).2.1 = 2) ∨ (f.kd = 3 ∧ (turnM ref f st).2.1 = 4) ∨ (f.kd = 5 ∧ (turnM ref f st).2.1 = 6) := by
  unfold turnM at h ⊢
  split
  · exact .inl ⟨by assumption, rfl⟩
  split
  · exact .inr (.inl ⟨by assumption, rfl⟩)
  split
  · rename_i h1 h3 h5
    rw [if_neg h1, if_neg h3, if_pos h5] at h
    refine .inr (.inr ⟨h5, ?_⟩)
    split
    · rename_i h6
      rw [if_pos h6] at h
      exact absurd rfl h
    · split <;> rfl
  · rename_i h1 h3 h5
    rw [if_neg h1, if_neg h3, if_neg h5] at h
    split at h <;> exact absurd rfl h
theorem wt_ans {M : Wm} (hI : WI M) {s : Int} (h0 : 0 ≤ s) (h1 : s < M.n.length) (f : Fr) : wtL (hearW M s f).2.1 < wtF f := by
  have hni := hI.at h0 h1
  obtain ⟨sn, rfl⟩ := Int.eq_ofNat_of_zero_le h0
  simp only [Int.toNat_natCast] at hni
  have hone := hearW_one M sn f
  have h2 := (nd_st hni M.ev f).2
  change ∀ x ∈ (hearW M sn f).2.1, _ at h2
  generalize (hearW M sn f).2.1 = l at *
  have hp := wt_pos f
  match l, hone with
  | [], _ => simp [wtL]; omega
  | [x], _ =>
    obtain ⟨ref, hx, hk, -⟩ := h2 x (by simp)
    have e : x.kd = (turnM ref f (plSt (ndAt M sn).pl f.dl)).2.1 := by rw [hx]
    rw [wt_cons, show wtL ([] : List Fr) = 0 from rfl]
    rcases turn_kd hk with ⟨k1, k2⟩ | ⟨k1, k2⟩ | ⟨k1, k2⟩
    · have a : wtF x = 64 := by unfold wtF; rw [if_neg (by omega), if_pos (by omega)]
      have b : wtF f = 65 := by unfold wtF; rw [if_pos (by omega)]
      omega
    · have a : wtF x = 64 := by unfold wtF; rw [if_neg (by omega), if_pos (by omega)]
      have b : wtF f = 65 := by unfold wtF; rw [if_pos (by omega)]
      omega
    · have a : wtF x = 8 := by unfold wtF; rw [if_neg (by omega), if_neg (by omega), if_neg (by omega), if_pos (by omega)]
      have b : wtF f = 9 := by unfold wtF; rw [if_neg (by omega), if_neg (by omega), if_pos (by omega)]
      omega
  | _ :: _ :: _, h => simp at h
/-- a delivery of the first frame -/
theorem deliver_wt {M : Wm} (hI : WI M) (h : M.l ≠ []) : wtL (deliverW M 0).1.l < wtL M.l ∧ (deliverW M 0).2 = none := by
  obtain ⟨f, r, e⟩ := List.exists_cons_of_ne_nil h
  have hk : wat M 0 = none := by unfold wat; rw [e, if_neg (by simp)]
  obtain ⟨⟨hbad, hto, hfr⟩, -, -⟩ := frame_at hI hk
  have hf : M.l.getD (0 : Int).toNat zeroF = f := by rw [e]; rfl
  have hr : M.l.eraseIdx (0 : Int).toNat = r := by rw [e]; rfl
  have hE := hI.erase (0 : Int).toNat
  have hn := hI.wn
  rw [hf] at hbad hto hfr
  rw [hr] at hE
  have hw : wtL M.l = wtF f + wtL r := by rw [e, wt_cons]
  have hp := wt_pos f
  unfold badF at hbad
  unfold deliverW
  rw [hk]
  simp only [hf, hr]
  split
  · exact ⟨by simp only; omega, by trivial⟩
  split
  · rename_i hkd
    split
    · exact ⟨by simp only; omega, by trivial⟩
    · rename_i x hx
      have hLI := (hI.at (s := f.to) (by omega) (by omega)).ldi f.dl.toNat x (by
        have h6 := (hI.at (s := f.to) (by omega) (by omega)).leads
        have hx' : (ndAt M f.to).leads.getD f.dl.toNat none = some x := hx
        rw [getD_some (x := none) (by omega), hx'])
      have := wt_hear hLI hI.wl hkd
      refine ⟨?_, by trivial⟩
      simp only [wt_app]
      omega
  · have := wt_ans hE (s := f.to) (by omega) (by simp only; omega) f
    refine ⟨?_, by trivial⟩
    simp only [wt_app]
    omega
def drainF : Nat → Wm → Wm × Nat
  | 0, M => (M, 0)
  | k + 1, M => if M.l = [] then (M, 0) else ((drainF k (deliverW M 0).1).1, (drainF k (deliverW M 0).1).2 + 1)
/-- all that flies is delivered -/
def drainW (M : Wm) : Wm × Nat := drainF (wtL M.l) M
/-- is a site of a set? -/
def inS (set : Int) (s : Nat) : Bool := decide (set / 2 ^ s % 2 = 1)
def tickS (set : Int) (M : Wm) (s : Nat) : Wm := if inS set s then (tickW M (s : Int)).1 else M
def ticksS (set : Int) (k : Nat) (M : Wm) : Wm := (List.range k).foldl (tickS set) M
def roundW (set : Int) (M : Wm) : Wm × Nat := drainW (ticksS set M.n.length M)
def roundsW (set : Int) : Nat → Wm → Wm × Nat
  | 0, M => (M, 0)
  | k + 1, M => ((roundW set (roundsW set k M).1).1, (roundsW set k M).2 + (roundW set (roundsW set k M).1).2)
end Go.HL
end

/-! PwK -/
section
namespace Go.HL
open Go Go.Proofs
set_option linter.unusedVariables false
set_option linter.unusedSimpArgs false
def rndE (set n : Int) : Prop := set < 0 ∨ n < 0 ∨ 10 < n
instance (set n : Int) : Decidable (rndE set n) := by unfold rndE; infer_instance
theorem WdQ.refl {G : WdG} {M : Wm} {L : Heap} (hW : WdOk G M) : WdQ G M L (wdC G M :: L) := ⟨G, rfl, hW, rfl⟩
set_option maxHeartbeats 2000000 attribute [local irreducible] HW HO HQ HD HC QOp Has Upd Puts Gets seqQ blkQ loopQ fnQ actQ nextP unQ MapF
attribute [local irreducible] wdC tickW deliverW
end Go.HL
end

/-! EdD -/
section
namespace Go.HL
open Go Go.Proofs
set_option linter.unusedVariables false
set_option linter.unusedSimpArgs false
theorem dl_nat {f : Fr} (h : ¬ badF f) : ((f.dl.toNat : Nat) : Int) = f.dl ∧ f.dl.toNat < 6 := by unfold badF at h; omega
/-- a site that is up, and whose power stays, heard a frame -/
structure HearL (M M' : Wm) (s : Nat) (f : Fr) (ans : List Fr) (ref : Int → Bool) : Prop where
  rf : ∃ j, (ndAt M (s : Int)).site = some (j, ref)
  me : stW M' s f.dl.toNat = (turnM ref f (stW M s f.dl.toNat)).1
  st : ∀ t d : Nat, t ≠ s ∨ d ≠ f.dl.toNat → stW M' t d = stW M t d
  ld : ∀ t d : Nat, ldW M' t d = ldW M t d
  an : ans = if (turnM ref f (stW M s f.dl.toNat)).2.1 = 0 then [] else [⟨s, f.fr, f.dl, (turnM ref f (stW M s f.dl.toNat)).2.1, f.att, (turnM ref f (stW M s f.dl.toNat)).2.2, (turnM ref f (stW M s f.dl.toNat)).1⟩]
  lv : ∀ t : Nat, LiveW M t → LiveW M' t
  rr : ∀ (t : Nat) j r, (ndAt M (t : Int)).site = some (j, r) → ∃ j', (ndAt M' (t : Int)).site = some (j', r)
theorem hear_live {M : Wm} (hI : WI M) {s : Nat} (h1 : s < M.n.length) (hl : LiveW M s) {f : Fr} (hb : ¬ badF f) (hto : f.to = s) (hn : nmW M s f.dl.toNat + 1 < 4294967296) :
    ∃ ref, HearL M (hearW M s f).1 s f (hearW M s f).2.1 ref ∧ (hearW M s f).2.2 = true := by
  have hni := hI.at (s := (s : Int)) (by omega) (by omega)
  simp only [Int.toNat_natCast] at hni
  obtain ⟨j, ref, hs, -⟩ := hl.off hni
  obtain ⟨k1, k2, k3, k4, k5, k6⟩ := nd_live hni hl hs M.ev hb hto hn
  obtain ⟨h2, h3⟩ := dl_nat hb
  have e6 : (hearW M s f).2 = (hearNd s (ndAt M s) M.ev f).2.2 := rfl
  refine ⟨ref, ⟨⟨j, hs⟩, ?_, fun t d htd => ?_, fun t d => ?_, ?_, fun t ht => ?_, fun t j2 r2 ht => ?_⟩, by rw [e6, k6]⟩
  · unfold stW
    rw [hear_nd (by omega) (by omega), if_pos rfl, h2]
    exact k4
  · unfold stW
    rw [hear_nd (by omega) (by omega)]
    split
    · rename_i e
      have e' : t = s := by omega
      subst e'
      exact k5 d (htd.resolve_left (fun h => h rfl))
    · rfl
  · unfold ldW
    rw [hear_nd (by omega) (by omega)]
    split
    · rename_i e
      have e' : t = s := by omega
      subst e'
      rw [k3]
    · rfl
  · rw [e6, k6]
    unfold stW
    rw [h2]
  · unfold LiveW
    rw [hear_nd (by omega) (by omega)]
    split
    · obtain ⟨j', hj⟩ := k1
      exact ⟨by rw [hj]; simp, k2⟩
    · exact ht
  · rw [hear_nd (by omega) (by omega)]
    split
    · rename_i e
      have e' : t = s := by omega
      subst e'
      rw [hs] at ht
      cases ht
      exact k1
    · exact ⟨_, ht⟩
/-- what a delivery of the first frame makes -/
inductive DelV (M : Wm) (f : Fr) (r : List Fr) (M' : Wm) : Prop where
  | gone (e : M' = { M with l := r }) (why : (ndAt M f.to).site = none ∨ M.br (linkP f) = true ∨ ((f.kd = 2 ∨ f.kd = 4 ∨ f.kd = 6) ∧ ldW M f.to.toNat f.dl.toNat = none))
  | lead (x : Ld) (hx : ldW M f.to.toNat f.dl.toNat = some x) (hi : LdI M.w f.to.toNat f.dl.toNat x) (hk : f.kd = 2 ∨ f.kd = 4 ∨ f.kd = 6) (hb : M.br (linkP f) = false) (up : (ndAt M f.to).site ≠ none) (br : M'.br = M.br) (l : M'.l = r ++ (hearM x f).2)
      (st : ∀ t d, stW M' t d = stW M t d) (ld : ∀ t d, ldW M' t d = if t = f.to.toNat ∧ d = f.dl.toNat then some (hearM x f).1 else ldW M t d) (lv : ∀ t, LiveW M t → LiveW M' t) (rr : ∀ t : Nat, (ndAt M' (t : Int)).site = (ndAt M (t : Int)).site) (ev : M'.ev = M.ev) (dn : ∀ t : Nat, (ndAt M' (t : Int)).done = (ndAt M (t : Int)).done)
  | hear (hk : ¬ (f.kd = 2 ∨ f.kd = 4 ∨ f.kd = 6)) (hb : M.br (linkP f) = false) (up : (ndAt M f.to).site ≠ none) (e : M' = { (hearW { M with l := r } f.to.toNat f).1 with l := r ++ (hearW { M with l := r } f.to.toNat f).2.1 })
theorem deliver_view {M : Wm} (hI : WI M) {f : Fr} {r : List Fr} (e : M.l = f :: r) : okF M.w.length f ∧ DelV M f r (deliverW M 0).1 := by
  have hk : wat M 0 = none := by unfold wat; rw [e, if_neg (by simp)]
  have hfa := (frame_at hI hk).1
  have hf : M.l.getD (0 : Int).toNat zeroF = f := by rw [e]; rfl
  have hr : M.l.eraseIdx (0 : Int).toNat = r := by rw [e]; rfl
  rw [hf] at hfa
  refine ⟨hfa, ?_⟩
  obtain ⟨hbad, hto, hfr⟩ := hfa
  have hn := hI.wn
  have hb2 := hbad
  unfold badF at hb2
  have hE := hI.erase (0 : Int).toNat
  rw [hr] at hE
  unfold deliverW
  rw [hk]
  simp only [hf, hr]
  split
  · rename_i h
    refine .gone rfl ?_
    rcases h with h | h
    · exact .inl (Option.isNone_iff_eq_none.1 h)
    · exact .inr (.inl h)
  · rename_i h
    have h1 : (ndAt M f.to).site ≠ none := fun e => h (.inl (by show (ndAt M f.to).site.isNone = true; rw [e]; rfl))
    have h2 : M.br (linkP f) = false := by
      cases hq : M.br (linkP f) with
      | false => rfl
      | true => exact absurd (.inr hq) h
    have htn : ((f.to.toNat : Nat) : Int) = f.to := by omega
    split
    · rename_i hkd
      split
      · rename_i hx
        refine .gone rfl (.inr (.inr ⟨hkd, ?_⟩))
        unfold ldW
        rw [htn]
        exact hx
      · rename_i x hx
        have hx' : (ndAt M f.to).leads.getD f.dl.toNat none = some x := hx
        have h6 := (hI.at (s := f.to) (by omega) (by omega)).leads
        have hLI := (hI.at (s := f.to) (by omega) (by omega)).ldi f.dl.toNat x (by rw [getD_some (x := none) (by omega), hx'])
        refine .lead x (by unfold ldW; rw [htn]; exact hx') hLI hkd h2 h1 rfl rfl (fun t d => ?_) (fun t d => ?_) (fun t ht => ?_) (fun t => ?_) rfl (fun t => ?_)
        · exact stW_lead (M := { M with l := r }) (by omega) (by simp only; omega) _ _ t d
        · have := ldW_set (M := { M with l := r }) (s := f.to) (by omega) (by simp only; omega) h6 (d := f.dl.toNat) (by omega) (some (hearM x f).1) (r ++ (hearM x f).2) t d
          exact this.trans (ite_congr (propext ⟨fun h => ⟨by omega, h.2⟩, fun h => ⟨by omega, h.2⟩⟩) (fun _ => rfl) (fun _ => rfl))
        · show LiveN (ndAt (setN { M with l := r } f.to { ndAt { M with l := r } f.to with leads := _ }) (t : Int))
          rw [Ze (M := { M with l := r }) (by omega) (by simp only; omega)]
          split
          · rename_i e2
            have ht' : LiveN (ndAt M (t : Int)) := ht
            rw [e2] at ht'
            exact ht'
          · exact ht
        · show (ndAt (setN { M with l := r } f.to { ndAt { M with l := r } f.to with leads := _ }) (t : Int)).site = _
          rw [Ze (M := { M with l := r }) (by omega) (by simp only; omega)]
          split
          · rename_i e2
            rw [e2]
            rfl
          · rfl
        · show (ndAt (setN { M with l := r } f.to { ndAt { M with l := r } f.to with leads := _ }) (t : Int)).done = _
          rw [Ze (M := { M with l := r }) (by omega) (by simp only; omega)]
          split
          · rename_i e2
            rw [e2]
            rfl
          · rfl
    · rename_i hkd
      rw [← htn]
      exact .hear hkd h2 h1 rfl
end Go.HL
end

/-! EdE -/
section
namespace Go.HL
open Go Go.Proofs
set_option linter.unusedVariables false
set_option linter.unusedSimpArgs false
theorem bit_test (q i : Nat) : bit q i ↔ q.testBit i = true := by
  unfold bit
  rw [Nat.testBit_eq_decide_div_mod_eq]
  simp
theorem quor_sub {w : List Int} (hc : checkW w = none) {a b : Nat} (hq : quor w a = true) (ha : a < 2 ^ w.length) (h : ∀ i, i < w.length → bit a i → bit b i) : quor w b = true := by
  have e : a ||| b = b := by
    apply Nat.eq_of_testBit_eq
    intro i
    rw [Nat.testBit_or]
    cases h1 : a.testBit i with
    | false => simp
    | true =>
      have hi : i < w.length := by
        by_cases hlt : i < w.length
        · exact hlt
        · rw [Nat.testBit_lt_two_pow (Nat.lt_of_lt_of_le ha (Nat.pow_le_pow_right (by decide) (by omega)))] at h1
          cases h1
      have := (bit_test b i).1 (h i hi ((bit_test a i).2 h1))
      rw [this]
      rfl
  rw [← e]
  exact quor_more hc hq
theorem inS_bit (n s : Nat) : inS (n : Int) s = true ↔ bit n s := by
  unfold inS bit
  rw [decide_eq_true_iff]
  constructor
  · intro h
    have : ((n / 2 ^ s % 2 : Nat) : Int) = ((1 : Nat) : Int) := by push_cast; exact h
    exact Int.ofNat.inj this
  · intro h
    have : ((n / 2 ^ s % 2 : Nat) : Int) = 1 := by rw [h]; rfl
    push_cast at this
    exact this
/-- links are whole between sites of a set alone -/
def CutOff (set : Int) (n : Nat) (br : Int × Int → Bool) : Prop := ∀ a b : Nat, a < n → b < n → a ≠ b → ¬ (inS set a = true ∧ inS set b = true) → br (min (a : Int) b, max (a : Int) b) = true
end Go.HL
end

/-! EdF -/
section
namespace Go.HL
open Go Go.Proofs
set_option linter.unusedVariables false
set_option linter.unusedSimpArgs false
structure PrepI (M0 M : Wm) : Prop where
  wi : WI M
  same : Same M0 M
  safe : SafeW M0 → SafeW M
  ev : EvW M0 → EvW M
  l : M.l = M0.l
  st : ∀ t d, stW M t d = stW M0 t d
  bn : ∀ P N, Bnd M0 P N → Bnd M P N
theorem PrepI.refl {M : Wm} (h : WI M) : PrepI M M := ⟨h, .refl _, id, id, rfl, fun _ _ => rfl, fun _ _ h => h⟩
theorem PrepI.trans {A B C : Wm} (h : PrepI A B) (h' : PrepI B C) : PrepI A C := ⟨h'.wi, h.same.trans h'.same, fun s => h'.safe (h.safe s), fun s => h'.ev (h.ev s), h'.l.trans h.l, fun t d => (h'.st t d).trans (h.st t d), fun P N b => h'.bn P N (h.bn P N b)⟩
/-- a site that was made anew -/
def RbW (M : Wm) (a : Nat) : Prop := LiveW M a ∧ (∀ d, ldW M a d = none) ∧ ∃ j, (ndAt M (a : Int)).site = some (j, fun _ => false)
end Go.HL
end

/-! EdG -/
section
namespace Go.HL
open Go Go.Proofs
set_option linter.unusedVariables false
set_option linter.unusedSimpArgs false
def DnN (m : Nd) : Prop := m.site = none → ∀ d, m.leads.getD d none = none
def DnA (M : Wm) : Prop := ∀ s : Nat, DnN (ndAt M (s : Int))
theorem DnA.set {M : Wm} (h : DnA M) {s : Int} (h0 : 0 ≤ s) (h1 : s < M.n.length) {m : Nd} (hm : DnN m) : DnA (setN M s m) := fun t => by
  rw [Ze h0 h1]
  split
  · exact hm
  · exact h t
theorem DnA.at {M : Wm} (h : DnA M) {s : Int} (h0 : 0 ≤ s) : DnN (ndAt M s) := by
  have := h s.toNat
  rw [show ((s.toNat : Nat) : Int) = s by omega] at this
  exact this
theorem hear_dn (s : Int) {m : Nd} (h : DnN m) (ev : List Evt) (f : Fr) : DnN (hearNd s m ev f).1 := by
  unfold hearNd
  split
  · exact h
  split
  · exact fun _ d => noLeads_getD d
  · exact fun e => by cases e
theorem DnA.hear {M : Wm} (h : DnA M) {s : Int} (h0 : 0 ≤ s) (h1 : s < M.n.length) (f : Fr) : DnA (hearW M s f).1 := h.set h0 h1 (hear_dn s (h.at h0) M.ev f)
theorem DnA.up {M : Wm} (h : DnA M) {s : Int} (h0 : 0 ≤ s) (h1 : s < M.n.length) {m : Nd} (hm : m.site ≠ none) : DnA (setN M s m) := h.set h0 h1 fun e => absurd e hm
theorem DnA.try {M : Wm} (h : DnA M) {s d p : Int} (h0 : 0 ≤ s) (h1 : s < M.n.length) : DnA (tryW M s d p).1 := by
  unfold tryW
  simp only
  generalize tryAtt M.w.length s (tryAbove (ndAt M s) d p + 1) = a
  split
  · exact h
  have hR := h.hear h0 h1 (tryF s d a)
  have hS := same_hear M s (tryF s d a)
  have hu := hearW_site (M := M) (f := tryF s d a) h0 h1
  split
  · exact hR
  · rename_i hr
    exact DnA.up (M := (hearW M s (tryF s d a)).1) hR h0 (by rw [hS.n]; exact h1) (hu (by simpa using hr))
theorem DnA.tickD {M : Wm} {q : Wm × Bool} {s : Int} {k d : Nat} (h : DnA q.1) (hT : TickOk M q s k) (h0 : 0 ≤ s) (h1 : s < M.n.length) : DnA (HL.tickD s q d).1 := by
  have hn := hT.same.n
  unfold HL.tickD
  split
  · exact h
  split
  · exact h
  split
  · exact h
  split
  · exact h
  · exact h.try h0 (by rw [hn]; exact h1)
theorem DnA.deliver {M : Wm} (h : DnA M) (hI : WI M) (k : Int) : DnA (deliverW M k).1 := by
  have hn := hI.wn
  unfold deliverW
  split
  · exact h
  rename_i hk
  obtain ⟨⟨hbad, hto, hfr⟩, hk0, hk1⟩ := frame_at hI hk
  generalize M.l.getD k.toNat zeroF = f at *
  unfold badF at hbad
  have hE : DnA { M with l := M.l.eraseIdx k.toNat } := h
  simp only
  split
  · exact hE
  rename_i hup
  split
  · split
    · exact hE
    · refine DnA.up (M := { M with l := M.l.eraseIdx k.toNat }) hE (s := f.to) (by omega) (by simp only; omega) (m := { ndAt { M with l := M.l.eraseIdx k.toNat } f.to with leads := _ }) ?_
      intro e
      refine hup (.inl ?_)
      have e' : (ndAt { M with l := M.l.eraseIdx k.toNat } f.to).site = none := e
      rw [e']
      rfl
  · exact DnA.hear hE (by omega) (by simp only; omega) f
theorem RbW.same {M M' : Wm} {a : Nat} (h : RbW M a) (e : ndAt M' (a : Int) = ndAt M (a : Int)) : RbW M' a := by
  unfold RbW LiveW ldW at *
  rw [e]
  exact h
/-- a site in a set has decided a deal -/
def decS (set : Int) (M : Wm) (d i : Nat) : Bool := (List.range i).any fun s => inS set s && finP (stW M s d).ph
end Go.HL
end

/-! WnA -/
section
namespace Go.HL
open Go Go.Proofs
set_option linter.unusedVariables false
set_option linter.unusedSimpArgs false
set_option maxHeartbeats 2000000 attribute [local irreducible] HW HO HQ HD HC QOp Has Upd Puts Gets seqQ blkQ loopQ fnQ actQ nextP unQ MapF
end Go.HL
end

/-! PwL -/
section
namespace Go.HL
open Go Go.Proofs
set_option linter.unusedVariables false
set_option linter.unusedSimpArgs false
theorem decS_succ (set : Int) (M : Wm) (d i : Nat) : decS set M d (i + 1) = (decS set M d i || (inS set i && finP (stW M i d).ph)) := by
  unfold decS
  rw [List.range_succ, List.any_append]
  simp
/-- which deals are decided in a set, as9 far as9 it is known -/
def DecI (set : Int) (M : Wm) (n d i : Nat) (vals : List Bool) : Prop := vals.length = 6 ∧ ∀ e, e < 6 → vals[e]? = some (if e < d then decS set M e n else if e = d then decS set M d i else false)
theorem DecI.zero (set : Int) (M : Wm) (n : Nat) : DecI set M n 0 0 (List.replicate 6 false) := by
  refine ⟨rfl, fun e he => ?_⟩
  rw [List.getElem?_replicate, if_pos he, if_neg (by omega)]
  congr 1
  split <;> rfl
theorem DecI.next {set : Int} {M : Wm} {n d : Nat} {vals : List Bool} (h : DecI set M n d n vals) : DecI set M n (d + 1) 0 vals := by
  refine ⟨h.1, fun e he => ?_⟩
  rw [h.2 e he]
  congr 1
  by_cases h1 : e < d
  · rw [if_pos h1, if_pos (by omega)]
  · rw [if_neg h1]
    by_cases h2 : e = d
    · subst h2; rw [if_pos rfl, if_pos (by omega)]
    · rw [if_neg h2, if_neg (by omega)]
      split
      · rfl
      · rfl
theorem DecI.step {set : Int} {M : Wm} {n d i : Nat} {vals : List Bool} (h : DecI set M n d i vals) (hs : (inS set i && finP (stW M i d).ph) = false) : DecI set M n d (i + 1) vals := by
  refine ⟨h.1, fun e he => ?_⟩
  rw [h.2 e he, decS_succ, hs, Bool.or_false]
theorem DecI.hit {set : Int} {M : Wm} {n d i : Nat} {vals : List Bool} (h : DecI set M n d i vals) (hd : d < 6) (hs : (inS set i && finP (stW M i d).ph) = true) : DecI set M n d (i + 1) (vals.set d true) := by
  refine ⟨by rw [List.length_set]; exact h.1, fun e he => ?_⟩
  rw [decS_succ, hs, Bool.or_true, List.getElem?_set]
  by_cases h1 : d = e
  · subst h1
    rw [if_pos rfl, if_pos (by rw [h.1]; exact hd), if_neg (by omega), if_pos rfl]
  · rw [if_neg h1, h.2 e he, if_neg (Ne.symm h1)]
    congr 1
    split
    · rfl
    · rw [if_neg (Ne.symm h1)]
theorem drop_drop (M : Wm) (k : Nat) (h : k < M.l.length) : dropW { M with l := M.l.drop k } 0 = ({ M with l := M.l.drop (k + 1) }, none) := by
  have hd : M.l.drop k = M.l[k] :: M.l.drop (k + 1) := List.drop_eq_getElem_cons h
  have e : wat { M with l := M.l.drop k } 0 = none := by
    unfold wat
    simp only [hd]
    rw [if_neg (by simp only [List.length_cons]; omega)]
  unfold dropW
  rw [e]
  simp only [hd]
  rfl
theorem rHas2_calls (n k : Nat) (hk : k ≤ 30) (hn : (n : Int) ≤ 9223372036854775807) (L : Heap) : HC Tryz.prog 19 [iv n, iv k] L (fun v L' => v = .bool (inS n k) ∧ L' = L) := by
  have := rHas_calls n k hk hn L
  rwa [show decide (n / 2 ^ k % 2 = 1) = inS n k from decide_eq_decide.2 ((inS_bit n k).symm.trans (by unfold inS; rw [decide_eq_true_iff]))] at this
set_option maxHeartbeats 2000000 attribute [local irreducible] HW HO HQ HD HC QOp Has Upd Puts Gets seqQ blkQ loopQ fnQ actQ nextP unQ MapF
attribute [local irreducible] newW actsW actW stsW wdC roundsW linkW upW downW
end Go.HL
end

/-! EdH -/
section
namespace Go.HL
open Go Go.Proofs
set_option linter.unusedVariables false
set_option linter.unusedSimpArgs false
theorem quor_zero {w : List Int} (hc : checkW w = none) : quor w 0 = false := by
  cases h : quor w 0 with
  | false => rfl
  | true => exact absurd rfl (quor_meet hc h h)
theorem allM_has {m : Ld} {k p : Int} {i : Nat} (hi : i < m.w.length) (hk : k ≠ 3 ∨ (i : Int) ≠ m.id) : (⟨m.id, i, m.deal, k, m.att, false, ⟨p, 0, 0⟩⟩ : Fr) ∈ allM m k p := by
  unfold allM
  refine List.mem_flatMap.2 ⟨i, List.mem_range.2 hi, ?_⟩
  unfold allF
  rw [if_pos hk]
  simp
/-- what a lead sends to all -/
structure SentA (w : List Int) (s d : Nat) (att : Int) (k p : Int) (l : List Fr) : Prop where
  mem : ∀ f ∈ l, f.fr = s ∧ f.dl = d ∧ f.kd = k ∧ f.att = att ∧ f.s.ph = p
  all : ∀ i, i < w.length → ∃ f ∈ l, f.to = (i : Int)
theorem sent_all {w : List Int} {s d : Nat} {m : Ld} {k p : Int} (h1 : m.id = s) (h2 : m.deal = d) (h3 : m.w = w) (hk : k ≠ 3) : SentA w s d m.att k p (allM m k p) := by
  refine ⟨fun f hf => ?_, fun i hi => ⟨_, allM_has (by rw [h3]; exact hi) (.inl hk), rfl⟩⟩
  obtain ⟨i, hi, rfl, -⟩ := allM_mem hf
  exact ⟨h1, h2, rfl, rfl, rfl⟩
/-- an answer that does not fit, or to a lead that waits no more -/
theorem hear_not {x : Ld} {f : Fr} (h : x.wait = 0 ∨ ¬ fitsM x f) : hearM x f = (x, []) := hear_wait h
end Go.HL
end

/-! EdI -/
section
namespace Go.HL
open Go Go.Proofs
set_option linter.unusedVariables false
set_option linter.unusedSimpArgs false
/-- sites of a set: up, linked with each other alone -/
structure SetI (set : Int) (M : Wm) : Prop where
  live : ∀ t, t < M.w.length → inS set t = true → LiveW M t
  whole : ∀ a b : Nat, a < M.w.length → b < M.w.length → inS set a = true → inS set b = true → M.br (min (a : Int) b, max (a : Int) b) = false
  off : CutOff set M.w.length M.br
theorem SetI.of {set : Int} {M M' : Wm} (h : SetI set M) (hw : M'.w = M.w) (hb : M'.br = M.br) (hl : ∀ t, LiveW M t → LiveW M' t) : SetI set M' := by
  refine ⟨fun t ht hi => hl t (h.live t (by rw [← hw]; exact ht) hi), fun a b ha hb' h1 h2 => ?_, fun a b ha hb' h1 h2 => ?_⟩
  · rw [hb]; rw [hw] at ha hb'; exact h.whole a b ha hb' h1 h2
  · rw [hb]; rw [hw] at ha hb'; exact h.off a b ha hb' h1 h2
end Go.HL
end

/-! EdJ -/
section
namespace Go.HL
open Go Go.Proofs
set_option linter.unusedVariables false
set_option linter.unusedSimpArgs false
/-- what is seen of a deal: states, leads, its frames -/
structure Vw where
  st : Nat → St
  ld : Nat → Option Ld
  l : List Fr
section v
variable (w : List Int) (sn d : Nat) (A : Int)
end v
section steps
variable {w : List Int} {sn d s : Nat} {A : Int} {v : Vw} {f : Fr} {R : List Fr}
end steps
end Go.HL
end

/-! EdK -/
section
namespace Go.HL
open Go Go.Proofs
set_option linter.unusedVariables false
set_option linter.unusedSimpArgs false
def ofD (d : Nat) (l : List Fr) : List Fr := l.filter fun f => decide (f.dl = (d : Int))
section cong
variable {w : List Int} {sn d s : Nat} {A : Int} {v v' : Vw}
end cong
end Go.HL
end

/-! EdL -/
section
namespace Go.HL
open Go Go.Proofs
set_option linter.unusedVariables false
set_option linter.unusedSimpArgs false
structure OthT (sn d : Nat) (M M' : Wm) : Prop where
  st : ∀ t, stW M' t d = stW M t d
  ld : ∀ t, t < M.w.length → inS sn t = true → ldW M' t d = ldW M t d
  l : ofD d M'.l = ofD d M.l
  w : M'.w = M.w
theorem OthT.refl (sn d : Nat) (M : Wm) : OthT sn d M M := ⟨fun _ => rfl, fun _ _ _ => rfl, rfl, rfl⟩
theorem OthT.trans {sn d : Nat} {A B C : Wm} (h : OthT sn d A B) (h' : OthT sn d B C) : OthT sn d A C :=
  ⟨fun t => (h'.st t).trans (h.st t), fun t a b => (h'.ld t (by rw [h.w]; exact a) b).trans (h.ld t a b), h'.l.trans h.l, h'.w.trans h.w⟩
end Go.HL
end

/-! EdM -/
section
namespace Go.HL
open Go Go.Proofs
set_option linter.unusedVariables false
set_option linter.unusedSimpArgs false
section tk
variable (w : List Int) (sn d : Nat)
end tk
section tk2
variable {w : List Int} {sn d k : Nat} {v v' : Vw}
end tk2
end Go.HL
end

/-! PwM -/
section
namespace Go.HL
open Go Go.Proofs
set_option linter.unusedVariables false
set_option linter.unusedSimpArgs false
/-- a site of a set, of those below i, knows a deal -/
def knB (set : Int) (M : Wm) (d i : Nat) : Bool := (List.range i).any fun s => inS set s && decide (stW M s d ≠ zeroS)
/-- the deals below d that are known -/
def knL (set : Int) (M : Wm) (n d : Nat) : List Int := ((List.range d).filter fun e => knB set M e n).map fun (e : Nat) => (e : Int)
set_option maxHeartbeats 2000000 attribute [local irreducible] HW HO HQ HD HC QOp Has Upd Puts Gets seqQ blkQ loopQ fnQ actQ nextP unQ MapF
attribute [local irreducible] newW actsW actW stsW wdC roundsW linkW upW downW knL knB
end Go.HL
end

/-! EdN -/
section
namespace Go.HL
open Go Go.Proofs
set_option linter.unusedVariables false
set_option linter.unusedSimpArgs false
theorem noteD_view {s : Int} {ph : Nat → Int} {q : List Bool × List Evt} {k : Nat} (hk : k < q.1.length) (hl : q.2.length < 500) : (∀ e ∈ q.2, e ∈ (noteD s ph q k).2) ∧ (∀ i, q.1.getD i false = true → (noteD s ph q k).1.getD i false = true) ∧ (fin (ph k) → (noteD s ph q k).1.getD k false = true) ∧
    (∀ i, (noteD s ph q k).1.getD i false = true → q.1.getD i false = true ∨ ∃ e ∈ (noteD s ph q k).2, e.site = s ∧ e.deal = i) ∧ (noteD s ph q k).2.length ≤ q.2.length + 1 := by
  have hset : ∀ i, (q.1.set k true).getD i false = if i = k then true else q.1.getD i false := fun i => by
    simp only [List.getD, List.getElem?_set]
    by_cases e : k = i
    · subst e; simp [hk]
    · rw [if_neg e, if_neg (fun e2 => e e2.symm)]
  unfold noteD
  split
  · rename_i hc
    refine ⟨fun e he => he, fun i hi => hi, fun hf => ?_, fun i hi => .inl hi, by omega⟩
    rcases hc with hc | hc
    · simp only [List.getD, List.getElem?_eq_getElem hk, Option.getD_some] at hc ⊢
      exact hc
    · unfold fin at hf; omega
  · simp only [if_pos hl]
    refine ⟨fun e he => List.mem_append_left _ he, fun i hi => by rw [hset]; split <;> simp_all, fun _ => by rw [hset, if_pos rfl], fun i hi => ?_, by simp⟩
    rw [hset] at hi
    split at hi
    · rename_i e
      exact .inr ⟨_, List.mem_append_right _ (List.mem_singleton.2 rfl), rfl, by simp only; rw [e]⟩
    · exact .inl hi
theorem noteR_view {s : Int} {ph : Nat → Int} {q : List Bool × List Evt} (hq : q.1.length = 6) : ∀ k, k ≤ 6 → q.2.length + k ≤ 500 → (∀ e ∈ q.2, e ∈ (noteR s ph q k).2) ∧ (∀ i, q.1.getD i false = true → (noteR s ph q k).1.getD i false = true) ∧ (∀ i, i < k → fin (ph i) → (noteR s ph q k).1.getD i false = true) ∧
    (∀ i, (noteR s ph q k).1.getD i false = true → q.1.getD i false = true ∨ ∃ e ∈ (noteR s ph q k).2, e.site = s ∧ e.deal = i) ∧ (noteR s ph q k).2.length ≤ q.2.length + k
  | 0, _, _ => ⟨fun e he => he, fun i hi => hi, fun i hi => by omega, fun i hi => .inl hi, Nat.le_refl _⟩
  | k + 1, hk, hl => by
    obtain ⟨a1, a2, a3, a4, a5⟩ := noteR_view (s := s) (ph := ph) hq k (by omega) (by omega)
    obtain ⟨b1, b2, b3, b4, b5⟩ := noteD_view (s := s) (ph := ph) (q := noteR s ph q k) (k := k) (by rw [noteR_len, hq]; omega) (by omega)
    rw [noteR_succ]
    refine ⟨fun e he => b1 e (a1 e he), fun i hi => b2 i (a2 i hi), fun i hi hf => ?_, fun i hi => ?_, by omega⟩
    · by_cases e : i = k
      · rw [e] at hf ⊢; exact b3 hf
      · exact b2 i (a3 i (by omega) hf)
    · rcases b4 i hi with h | h
      · rcases a4 i h with h | ⟨e, he, h⟩
        · exact .inl h
        · exact .inr ⟨e, b1 e he, h⟩
      · exact .inr h
/-- what a site that is up notes -/
theorem hear_note {M : Wm} (hI : WI M) {s : Nat} (h1 : s < M.n.length) (hl : LiveW M s) (f : Fr) (hev : M.ev.length + 6 ≤ 500) :
    (∀ e ∈ M.ev, e ∈ (hearW M s f).1.ev) ∧ (∀ d : Nat, d < 6 → fin (stW (hearW M s f).1 s d).ph → (ndAt (hearW M s f).1 (s : Int)).done.getD d false = true) ∧
    (∀ d : Nat, (ndAt (hearW M s f).1 (s : Int)).done.getD d false = true → (ndAt M (s : Int)).done.getD d false = true ∨ ∃ e ∈ (hearW M s f).1.ev, e.site = s ∧ e.deal = d) ∧
    (∀ e ∈ (hearW M s f).1.ev, e ∈ M.ev ∨ ∃ d : Nat, d < 6 ∧ e = ⟨s, (d : Int), (stW (hearW M s f).1 s d).ph⟩ ∧ fin (stW (hearW M s f).1 s d).ph) ∧ (∀ t : Nat, t ≠ s → ndAt (hearW M s f).1 (t : Int) = ndAt M (t : Int)) := by
  have hni := hI.at (s := (s : Int)) (by omega) (by omega)
  simp only [Int.toNat_natCast] at hni
  obtain ⟨j, ref, hs, e1, e2, e3, hS⟩ := hl.off hni
  have hst := site_stays e2 e3 s ref j f
  have hany := (site_any (id := s) (ref := ref) hS f).1
  have hl' : (siteM s ref (ndAt M s).pl j f).2.1.l = openM (siteM s ref (ndAt M s).pl j f).1.b := hany.ji.l
  have hnd : (hearNd s (ndAt M s) M.ev f).1 = ⟨(siteM s ref (ndAt M s).pl j f).1, some ((siteM s ref (ndAt M s).pl j f).2.1, ref), (ndAt M s).leads, (noteR s (phOf (siteM s ref (ndAt M s).pl j f).2.1) ((ndAt M s).done, M.ev) 6).1⟩ ∧ (hearNd s (ndAt M s) M.ev f).2.1 = (noteR s (phOf (siteM s ref (ndAt M s).pl j f).2.1) ((ndAt M s).done, M.ev) 6).2 := by
    unfold hearNd
    rw [hs]
    simp only
    rw [hst.1]
    simp only [Bool.false_eq_true, if_false]
    exact ⟨rfl, rfl⟩
  have hme : ndAt (hearW M s f).1 (s : Int) = (hearNd s (ndAt M s) M.ev f).1 := by rw [hear_nd (by omega) (by omega), if_pos rfl]
  have hev' : (hearW M s f).1.ev = (hearNd s (ndAt M s) M.ev f).2.1 := rfl
  have hph : ∀ d : Nat, phOf (siteM s ref (ndAt M s).pl j f).2.1 d = (stW (hearW M s f).1 s d).ph := fun d => by
    unfold stW
    rw [hme, hnd.1]
    unfold plSt phOf
    simp only
    rw [hl', Int.toNat_natCast]
  obtain ⟨a1, a2, a3, a4, a5⟩ := noteR_view (s := (s : Int)) (ph := phOf (siteM s ref (ndAt M s).pl j f).2.1) (q := ((ndAt M s).done, M.ev)) hni.done 6 (Nat.le_refl _) hev
  rw [hev', hnd.2]
  refine ⟨a1, fun d hd hf => ?_, fun d hd => ?_, fun e he => ?_, fun t ht => by rw [hear_nd (by omega) (by omega), if_neg (by omega)]⟩
  · rw [hme, hnd.1]
    exact a3 d hd (by rw [hph]; exact hf)
  · rw [hme, hnd.1] at hd
    exact a4 d hd
  · rcases noteR_mem 6 he with he | ⟨d, h1, h2, h3⟩
    · exact .inl he
    · rw [hph] at h2 h3
      exact .inr ⟨d, h1, h2, h3⟩
theorem nodup_le {α : Type} [DecidableEq α] : ∀ (a b : List α), a.Nodup → (∀ x ∈ a, x ∈ b) → a.length ≤ b.length
  | [], _, _, _ => Nat.zero_le _
  | x :: a, b, hn, hs => by
    rw [List.nodup_cons] at hn
    have hx := hs x (by simp)
    have h1 := nodup_le a (b.erase x) hn.2 fun y hy => by
      rw [List.mem_erase_of_ne (fun e => hn.1 (by rw [← e]; exact hy))]
      exact hs y (by simp [hy])
    rw [List.length_erase_of_mem hx] at h1
    have : 1 ≤ b.length := List.length_pos_of_mem hx
    rw [List.length_cons]
    omega
end Go.HL
end

/-! EdO -/
section
namespace Go.HL
open Go Go.Proofs
set_option linter.unusedVariables false
set_option linter.unusedSimpArgs false
def wt2 (f : Fr) : Nat := if f.kd = 1 ∨ f.kd = 5 then 2 else 1
def wt2L (l : List Fr) : Nat := (l.map wt2).sum
theorem wt2_app (a b : List Fr) : wt2L (a ++ b) = wt2L a + wt2L b := by simp [wt2L]
theorem wt2_cons (f : Fr) (b : List Fr) : wt2L (f :: b) = wt2 f + wt2L b := by simp [wt2L]
theorem wt2_le {l : List Fr} {k : Nat} (h : ∀ f ∈ l, wt2 f ≤ k) : wt2L l ≤ k * l.length := by
  induction l with
  | nil => simp [wt2L]
  | cons f r ih =>
    have h1 := h f (by simp)
    have h2 := ih fun g hg => h g (by simp [hg])
    rw [wt2_cons, List.length_cons, Nat.mul_add, Nat.mul_one]
    omega
/-- what may still come of a lead -/
def potL (n : Nat) (x : Ld) : Nat := if x.wait = 2 then 3 * n else if x.wait = 6 then n else 0
def wantP (r : Nat) : Int := if r = 0 then 2 else 3
theorem want_fin (r : Nat) : fin (wantP r) := by unfold wantP fin; split <;> simp
section cm
variable (w : List Int) (d s r : Nat)
structure Cg2 (st : Nat → St) (x : Ld) (l : List Fr) : Prop where
  wt : x.wait = 2
  nf : x.heard ≠ 2 ^ w.length - 1
  hr : ∀ i, i < w.length → bit x.heard i → inS r i = false
  ok : r = 0 → (∀ f ∈ l, f.kd = 1 ∨ f.kd = 2) ∧ ∀ i, i < w.length → (st i).ph = 0 ∨ (st i).ph = 1
  cv : ∀ i, i < w.length → bit x.heard i ∨ (∃ f ∈ l, f.kd = 1 ∧ f.to = (i : Int)) ∨ ∃ f ∈ l, f.kd = 2 ∧ f.fr = (i : Int)
structure Cg6 (st : Nat → St) (x : Ld) (l : List Fr) : Prop where
  r0 : r = 0
  wt : x.wait = 6
  p4 : x.phase = 4
  nq : quor w x.heard = false
  fk : ∀ f ∈ l, (f.kd = 6 → f.yes = true) ∧ f.kd ≠ 7
  nc : ∀ i, i < w.length → (st i).ph ≠ 2
  cv : ∀ i, i < w.length → bit x.heard i ∨ (∃ f ∈ l, f.kd = 5 ∧ f.to = (i : Int)) ∨ ∃ f ∈ l, f.kd = 6 ∧ f.fr = (i : Int)
structure Cg0 (st : Nat → St) (x : Ld) (l : List Fr) : Prop where
  wt : x.wait = 0
  dn : x.state = sDone
  cv : ∀ i, i < w.length → (st i).ph = wantP r ∨ ∃ f ∈ l, f.kd = 7 ∧ f.to = (i : Int)
def FrC (f : Fr) : Prop := f.dl = d ∧ okF w.length f ∧ f.att = 0 ∧ ((f.kd = 1 ∧ f.fr = s) ∨ (f.kd = 2 ∧ f.to = s ∧ (f.yes = true → inS r f.fr.toNat = false) ∧ (r = 0 → f.yes = true)) ∨ (r = 0 ∧ f.kd = 5 ∧ f.fr = s ∧ f.s.ph = 4) ∨ (f.kd = 6 ∧ f.to = s) ∨ (f.kd = 7 ∧ f.s.ph = wantP r))
structure CmV (st : Nat → St) (x : Ld) (l : List Fr) : Prop where
  fr : ∀ f ∈ l, FrC w d s r f
  ss : ∀ i, i < w.length → (st i).pr ≤ 0 ∧ ((st i).ph = 0 ∨ ((st i).ph = 1 ∧ inS r i = false) ∨ (st i).ph = wantP r ∨ (r = 0 ∧ (st i).ph = 4))
  ld : LdI w s d x
  at_ : x.att = 0
  sg : Cg2 w r st x l ∨ Cg6 w r st x l ∨ Cg0 w r st x l
end cm
/-- a vote that is heard -/
theorem hear_two {w : List Int} {s d : Nat} {x : Ld} (hi : LdI w s d x) {f : Fr} (hw : x.wait = 2) (hfit : fitsM x f) :
    (f.yes = false ∧ (hearM x f).1.wait = 0 ∧ (hearM x f).1.state = sDone ∧ SentA w s d x.att 7 3 (hearM x f).2) ∨
    (f.yes = true ∧ x.heard ||| 2 ^ f.fr.toNat = 2 ^ w.length - 1 ∧ (hearM x f).1.wait = 6 ∧ (hearM x f).1.phase = 4 ∧ (hearM x f).1.heard = 0 ∧ SentA w s d x.att 5 4 (hearM x f).2) ∨
    (f.yes = true ∧ x.heard ||| 2 ^ f.fr.toNat ≠ 2 ^ w.length - 1 ∧ (hearM x f).1.wait = 2 ∧ (hearM x f).1.heard = x.heard ||| 2 ^ f.fr.toNat ∧ (hearM x f).2 = []) := by
  have hk : f.kd = 2 := by rw [hfit.1]; exact hw
  have e1 : m1M x f = x := by unfold m1M; rw [if_pos hk]
  have b : (m2M x f).deal = d ∧ (m2M x f).id = s ∧ (m2M x f).att = x.att ∧ (m2M x f).w = w ∧ (m2M x f).wait = 2 ∧ (m2M x f).heard = x.heard ||| 2 ^ f.fr.toNat := by
    unfold m2M
    rw [e1]
    exact ⟨hi.deal, hi.id, rfl, hi.ww, hw, rfl⟩
  obtain ⟨b1, b2, b3, b4, b5, b6⟩ := b
  unfold hearM
  rw [if_neg (by rintro (h | h)
                 · omega
                 · exact h hfit)]
  cases hy : f.yes with
  | false =>
    simp only [if_true]
    unfold noM
    rw [e1, if_pos hw]
    exact .inl ⟨by trivial, rfl, rfl, sent_all (m := doneM x) hi.id hi.deal hi.ww (by omega)⟩
  | true =>
    simp only [Bool.true_eq_false, if_false]
    unfold countM
    rw [b4, b5, b6]
    by_cases hf : x.heard ||| 2 ^ f.fr.toNat = 2 ^ w.length - 1
    · rw [if_pos ⟨rfl, hf⟩]
      refine .inr (.inl ⟨by trivial, hf, rfl, rfl, rfl, ?_⟩)
      rw [← b3]
      exact sent_all (m := prepM (m2M x f) 4) b2 b1 b4 (by omega)
    · rw [if_neg (fun h => hf h.2), if_pos (.inl rfl)]
      exact .inr (.inr ⟨by trivial, hf, b5, b6, rfl⟩)
/-- a yes to what was prepared for commit -/
theorem hear_ack {w : List Int} {s d : Nat} (hc : checkW w = none) {x : Ld} (hi : LdI w s d x) {f : Fr} (hw : x.wait = 6) (hp : x.phase = 4) (hfit : fitsM x f) (hy : f.yes = true) :
    ((hearM x f).1.wait = 0 ∧ (hearM x f).1.state = sDone ∧ SentA w s d x.att 7 2 (hearM x f).2) ∨
    ((hearM x f).1.wait = 6 ∧ (hearM x f).1.phase = 4 ∧ (hearM x f).1.heard = x.heard ||| 2 ^ f.fr.toNat ∧ quor w (hearM x f).1.heard = false ∧ (hearM x f).2 = []) := by
  obtain ⟨g1, g2, -⟩ := fitsM_heard hfit
  have b : (m2M x f).deal = d ∧ (m2M x f).id = s ∧ (m2M x f).att = x.att ∧ (m2M x f).w = w ∧ (m2M x f).wait = 6 ∧ (m2M x f).phase = 4 ∧ (m2M x f).heard = x.heard ||| 2 ^ f.fr.toNat := by
    unfold m2M m1M; split <;> exact ⟨hi.deal, hi.id, rfl, hi.ww, hw, hp, rfl⟩
  obtain ⟨b1, b2, b3, b4, b5, b6, b7⟩ := b
  have hlt : (m2M x f).heard < 2 ^ w.length := by rw [b7]; rw [hi.ww] at g2; exact heard_lt hi.heard (by omega)
  have e : hearM x f = countM (m2M x f) := by
    unfold hearM
    rw [if_neg (by rintro (h | h)
                   · omega
                   · exact h hfit), if_neg (by rw [hy]; simp)]
  have hen : (enoughW (m2M x f).w (m2M x f).heard).1 = quor w (m2M x f).heard := by rw [b4, en_ok hc hlt]
  rw [e]
  unfold countM
  rw [if_neg (by rw [b5]; omega), hen]
  cases hq : quor w (m2M x f).heard with
  | false =>
    rw [if_pos (.inr rfl)]
    exact .inr ⟨b5, b6, b7, hq, rfl⟩
  | true =>
    rw [if_neg (by rw [b5]; simp), if_pos b5, b6]
    refine .inl ⟨rfl, rfl, ?_⟩
    rw [← b3]
    exact sent_all (m := doneM (m2M x f)) b2 b1 b4 (by omega)
section steps
variable {w : List Int} {d s r : Nat} {st : Nat → St} {x : Ld} {f : Fr} {R : List Fr}
theorem ph_cases (h : CmV w d s r st x (f :: R)) : (f.kd = 1 ∨ f.kd = 2 ∨ f.kd = 5 ∨ f.kd = 6 ∨ f.kd = 7) := by
  obtain ⟨-, -, -, h⟩ := h.fr f (by simp)
  omega
/-- the lead hears -/
theorem cm_lead (hc : checkW w = none) (hr : r < 2 ^ w.length) (hd6 : d < 6) (hs : s < w.length) (h : CmV w d s r st x (f :: R)) (hk : f.kd = 2 ∨ f.kd = 6) : CmV w d s r st (hearM x f).1 (R ++ (hearM x f).2) ∧ wt2L (R ++ (hearM x f).2) + potL w.length (hearM x f).1 < wt2L (f :: R) + potL w.length x := by
  have hwl := (check_none hc).2.1
  have hw1 := (check_none hc).1
  obtain ⟨hfd, ⟨hbad, hft, hff⟩, hfa, hfk⟩ := h.fr f (by simp)
  have hfto : f.to = s := by omega
  obtain ⟨hLI', hok'⟩ := h.ld.hear hs hwl hd6 hbad
  have hatt := (hear_att x f).1
  have hm : ∀ g ∈ R, g ∈ f :: R := fun g hg => List.mem_cons_of_mem _ hg
  have hlen := hear_len x f
  rw [h.ld.ww] at hlen
  have hwf : 1 ≤ wt2 f := by unfold wt2; split <;> omega
  rw [wt2_app, wt2_cons]
  have tail : ∀ {P : Fr → Prop}, (∃ g ∈ f :: R, P g) → P f ∨ ∃ g ∈ R, P g := fun {P} ⟨g, hg, hp⟩ => by
    rcases List.mem_cons.1 hg with rfl | hg
    · exact .inl hp
    · exact .inr ⟨g, hg, hp⟩
  by_cases hfit : fitsM x f
  · have hfr : ∀ (k p : Int), SentA w s d x.att k p (hearM x f).2 → (k = 5 ∧ r = 0 ∧ p = 4 ∨ k = 7 ∧ p = wantP r) → ∀ g ∈ R ++ (hearM x f).2, FrC w d s r g := fun k p hS hkp g hg => by
      rcases List.mem_append.1 hg with hg | hg
      · exact h.fr g (hm g hg)
      · obtain ⟨m1, m2, m3, m4, m5⟩ := hS.mem g hg
        refine ⟨m2, hok' g hg, by rw [m4]; exact h.at_, ?_⟩
        rcases hkp with ⟨a, b, c⟩ | ⟨a, c⟩
        · exact .inr (.inr (.inl ⟨b, by omega, m1, by omega⟩))
        · exact .inr (.inr (.inr (.inr ⟨by omega, by omega⟩)))
    rcases h.sg with hg2 | hg6 | hg0
    · -- votes
      have hk2 : f.kd = 2 := by rw [hfit.1]; exact hg2.wt
      have hv : (f.yes = true → inS r f.fr.toNat = false) ∧ (r = 0 → f.yes = true) := by
        rcases hfk with k | k | k | k | k
        · omega
        · exact k.2.2
        · omega
        · omega
        · omega
      have hpot : potL w.length x = 3 * w.length := by unfold potL; rw [if_pos hg2.wt]
      rcases hear_two h.ld hg2.wt hfit with ⟨a1, a2, a3, a4⟩ | ⟨a1, a2, a3, a4, a5, a6⟩ | ⟨a1, a2, a3, a4, a5⟩
      · have hr0 : r ≠ 0 := fun e => by have := hv.2 e; rw [a1] at this; cases this
        have hw3 : wantP r = 3 := by unfold wantP; rw [if_neg hr0]
        refine ⟨⟨hfr 7 3 a4 (.inr ⟨rfl, hw3.symm⟩), h.ss, hLI', by rw [hatt]; exact h.at_, .inr (.inr ⟨a2, a3, fun i hi => ?_⟩)⟩, ?_⟩
        · obtain ⟨g, hg, e⟩ := a4.all i hi
          exact .inr ⟨g, List.mem_append_right _ hg, (a4.mem g hg).2.2.1, e⟩
        · have h1 := wt2_le (l := (hearM x f).2) (k := 1) fun g hg => by
            have := (a4.mem g hg).2.2.1
            unfold wt2
            rw [if_neg (by omega)]
            omega
          have h2 : potL w.length (hearM x f).1 = 0 := by unfold potL; rw [a2]; rfl
          omega
      · -- all have voted yes
        have hr0 : r = 0 := by
          apply Nat.eq_of_testBit_eq
          intro i
          rw [Nat.zero_testBit]
          by_cases hi : i < w.length
          · have hb : bit (x.heard ||| 2 ^ f.fr.toNat) i := by rw [a2]; exact bit_full hi
            have : inS (r : Int) i = false := by
              rcases bit_or.1 hb with hb | hb
              · exact hg2.hr i hi hb
              · rw [hb]; exact hv.1 a1
            cases hq : r.testBit i with
            | false => rfl
            | true =>
              have := (inS_bit r i).2 ((bit_test r i).2 hq)
              simp_all
          · exact Nat.testBit_lt_two_pow (Nat.lt_of_lt_of_le hr (Nat.pow_le_pow_right (by decide) (by omega)))
        obtain ⟨c1, c2⟩ := hg2.ok hr0
        refine ⟨⟨hfr 5 4 a6 (.inl ⟨rfl, hr0, rfl⟩), h.ss, hLI', by rw [hatt]; exact h.at_, .inr (.inl ⟨hr0, a3, a4, by rw [a5]; exact quor_zero hc, fun g hg => ?_, fun i hi => by have := c2 i hi; omega, fun i hi => ?_⟩)⟩, ?_⟩
        · rcases List.mem_append.1 hg with hg | hg
          · have := c1 g (hm g hg)
            exact ⟨fun h => by omega, by omega⟩
          · have := (a6.mem g hg).2.2.1
            exact ⟨fun h => by omega, by omega⟩
        · obtain ⟨g, hg, e⟩ := a6.all i hi
          exact .inr (.inl ⟨g, List.mem_append_right _ hg, (a6.mem g hg).2.2.1, e⟩)
        · have h1 := wt2_le (l := (hearM x f).2) (k := 2) fun g hg => by unfold wt2; split <;> omega
          have h2 : potL w.length (hearM x f).1 = w.length := by unfold potL; rw [a3]; rfl
          omega
      · rw [a5, List.append_nil]
        refine ⟨⟨fun g hg => h.fr g (hm g hg), h.ss, hLI', by rw [hatt]; exact h.at_, .inl ⟨a3, by rw [a4]; exact a2, fun i hi hb => ?_, fun e => ⟨fun g hg => (hg2.ok e).1 g (hm g hg), (hg2.ok e).2⟩, fun i hi => ?_⟩⟩, ?_⟩
        · rw [a4] at hb
          rcases bit_or.1 hb with hb | hb
          · exact hg2.hr i hi hb
          · rw [hb]; exact hv.1 a1
        · rw [a4]
          rcases hg2.cv i hi with k | k | k
          · exact .inl (bit_or.2 (.inl k))
          · rcases tail k with k | k
            · omega
            · exact .inr (.inl k)
          · rcases tail k with k | k
            · exact .inl (bit_or.2 (.inr (by omega)))
            · exact .inr (.inr k)
        · have h2 : potL w.length (hearM x f).1 = 3 * w.length := by unfold potL; rw [a3]; rfl
          rw [show wt2L ([] : List Fr) = 0 from rfl]
          omega
    · -- acks
      have hk6 : f.kd = 6 := by rw [hfit.1]; exact hg6.wt
      have hy := (hg6.fk f (by simp)).1 hk6
      have hpot : potL w.length x = w.length := by unfold potL; rw [if_neg (by rw [hg6.wt]; omega), if_pos hg6.wt]
      have hw2 : wantP r = 2 := by unfold wantP; rw [if_pos hg6.r0]
      rcases hear_ack hc h.ld hg6.wt hg6.p4 hfit hy with ⟨a1, a2, a3⟩ | ⟨a1, a2, a3, a4, a5⟩
      · refine ⟨⟨hfr 7 2 a3 (.inr ⟨rfl, hw2.symm⟩), h.ss, hLI', by rw [hatt]; exact h.at_, .inr (.inr ⟨a1, a2, fun i hi => ?_⟩)⟩, ?_⟩
        · obtain ⟨g, hg, e⟩ := a3.all i hi
          exact .inr ⟨g, List.mem_append_right _ hg, (a3.mem g hg).2.2.1, e⟩
        · have h1 := wt2_le (l := (hearM x f).2) (k := 1) fun g hg => by
            have := (a3.mem g hg).2.2.1
            unfold wt2
            rw [if_neg (by omega)]
            omega
          have h2 : potL w.length (hearM x f).1 = 0 := by unfold potL; rw [a1]; rfl
          omega
      · rw [a5, List.append_nil]
        refine ⟨⟨fun g hg => h.fr g (hm g hg), h.ss, hLI', by rw [hatt]; exact h.at_, .inr (.inl ⟨hg6.r0, a1, a2, a4, fun g hg => hg6.fk g (hm g hg), hg6.nc, fun i hi => ?_⟩)⟩, ?_⟩
        · rw [a3]
          rcases hg6.cv i hi with k | k | k
          · exact .inl (bit_or.2 (.inl k))
          · rcases tail k with k | k
            · omega
            · exact .inr (.inl k)
          · rcases tail k with k | k
            · exact .inl (bit_or.2 (.inr (by omega)))
            · exact .inr (.inr k)
        · have h2 : potL w.length (hearM x f).1 = w.length := by unfold potL; rw [a1]; rfl
          rw [show wt2L ([] : List Fr) = 0 from rfl]
          omega
    · exfalso
      have := hfit.1
      rw [hg0.wt] at this
      omega
  · rw [hear_not (.inr hfit)]
    simp only [List.append_nil]
    have hbit : f.kd = x.wait → bit x.heard f.fr.toNat := fun k1 => by
      by_cases hb : bit x.heard f.fr.toNat
      · exact hb
      · exfalso
        refine hfit ⟨k1, by rw [hfd, h.ld.deal], by rw [hfa, h.at_], by rw [hfto, h.ld.id], ?_⟩
        unfold badF at hbad
        unfold bit at hb
        rw [h.ld.ww]
        exact ⟨by omega, by omega, by omega⟩
    refine ⟨⟨fun g hg => h.fr g (hm g hg), h.ss, h.ld, h.at_, ?_⟩, ?_⟩
    · rcases h.sg with hg2 | hg6 | hg0
      · refine .inl ⟨hg2.wt, hg2.nf, hg2.hr, fun e => ⟨fun g hg => (hg2.ok e).1 g (hm g hg), (hg2.ok e).2⟩, fun i hi => ?_⟩
        rcases hg2.cv i hi with k | k | k
        · exact .inl k
        · rcases tail k with k | k
          · omega
          · exact .inr (.inl k)
        · rcases tail k with k | k
          · have := hbit (by rw [hg2.wt]; exact k.1)
            rw [k.2, Int.toNat_natCast] at this
            exact .inl this
          · exact .inr (.inr k)
      · refine .inr (.inl ⟨hg6.r0, hg6.wt, hg6.p4, hg6.nq, fun g hg => hg6.fk g (hm g hg), hg6.nc, fun i hi => ?_⟩)
        rcases hg6.cv i hi with k | k | k
        · exact .inl k
        · rcases tail k with k | k
          · omega
          · exact .inr (.inl k)
        · rcases tail k with k | k
          · have := hbit (by rw [hg6.wt]; exact k.1)
            rw [k.2, Int.toNat_natCast] at this
            exact .inl this
          · exact .inr (.inr k)
      · refine .inr (.inr ⟨hg0.wt, hg0.dn, fun i hi => ?_⟩)
        rcases hg0.cv i hi with k | k
        · exact .inl k
        · rcases tail k with k | k
          · omega
          · exact .inr k
    · rw [show wt2L ([] : List Fr) = 0 from rfl]
      omega
theorem inS_zero (t : Nat) : inS ((0 : Nat) : Int) t = false := by
  unfold inS
  simp
/-- a site hears -/
theorem cm_site (hs : s < w.length) (h : CmV w d s r st x (f :: R)) (hk : ¬ (f.kd = 2 ∨ f.kd = 4 ∨ f.kd = 6)) {t : Nat} (ht : t < w.length) (hto : f.to = (t : Int)) {ref : Int → Bool} (href : ref d = inS r t) {ans : List Fr}
    (han : ans = if (turnM ref f (st t)).2.1 = 0 then [] else [⟨t, f.fr, f.dl, (turnM ref f (st t)).2.1, f.att, (turnM ref f (st t)).2.2, (turnM ref f (st t)).1⟩]) (hok : ∀ g ∈ ans, okF w.length g) :
    CmV w d s r (upd st t (turnM ref f (st t)).1) x (R ++ ans) ∧ wt2L (R ++ ans) + potL w.length x < wt2L (f :: R) + potL w.length x := by
  obtain ⟨hfd, ⟨hbad, hft, hff⟩, hfa, hfk⟩ := h.fr f (by simp)
  obtain ⟨hpr, hph⟩ := h.ss t ht
  have hm : ∀ g ∈ R, g ∈ f :: R := fun g hg => List.mem_cons_of_mem _ hg
  have tail : ∀ {P : Fr → Prop}, (∃ g ∈ f :: R, P g) → P f ∨ ∃ g ∈ R, P g := fun {P} ⟨g, hg, hp⟩ => by
    rcases List.mem_cons.1 hg with rfl | hg
    · exact .inl hp
    · exact .inr ⟨g, hg, hp⟩
  have app : ∀ {P : Fr → Prop}, (∃ g ∈ R, P g) → ∃ g ∈ R ++ ans, P g := fun {P} ⟨g, hg, hp⟩ => ⟨g, List.mem_append_left _ hg, hp⟩
  have hr3 : r ≠ 0 → wantP r = 3 := fun e => by unfold wantP; rw [if_neg e]
  have hr2 : r = 0 → wantP r = 2 := fun e => by unfold wantP; rw [if_pos e]
  have hz : r = 0 → inS (r : Int) t = false := fun e => by rw [e]; exact inS_zero t
  rw [wt2_app, wt2_cons]
  rcases (show f.kd = 1 ∨ f.kd = 5 ∨ f.kd = 7 by omega) with k1 | k5 | k7
  · -- it is asked for a vote
    have e : turnM ref f (st t) = (askM ref f (st t), 2, decide ((askM ref f (st t)).ph ≠ 3)) := by unfold turnM; rw [if_pos k1]
    have efr : f.fr = s := by omega
    rw [e] at han ⊢
    simp only at han ⊢
    rw [if_neg (by omega)] at han
    have ea : (askM ref f (st t)).pr ≤ 0 ∧ (((st t).ph = 0 ∧ inS (r : Int) t = true ∧ (askM ref f (st t)).ph = 3) ∨ ((st t).ph = 0 ∧ inS (r : Int) t = false ∧ (askM ref f (st t)).ph = 1) ∨ ((st t).ph ≠ 0 ∧ askM ref f (st t) = st t)) := by
      unfold askM
      rw [hfd, href]
      by_cases h0 : (st t).ph = 0
      · rw [if_pos h0]
        cases hb : inS (r : Int) t with
        | true => exact ⟨by simp only [if_true]; exact hpr, .inl ⟨h0, by trivial, rfl⟩⟩
        | false => exact ⟨by simp only [Bool.false_eq_true, if_false]; exact hpr, .inr (.inl ⟨h0, by trivial, rfl⟩)⟩
      · rw [if_neg h0]
        exact ⟨hpr, .inr (.inr ⟨h0, rfl⟩)⟩
    obtain ⟨ea1, ea2⟩ := ea
    generalize askM ref f (st t) = a at *
    have hyes : (a.ph ≠ 3 → inS (r : Int) t = false) ∧ (r = 0 → a.ph ≠ 3) := by
      rcases ea2 with ⟨b1, b2, b3⟩ | ⟨b1, b2, b3⟩ | ⟨b1, b2⟩
      · exact ⟨fun h => absurd b3 h, fun h => by rw [hz h] at b2; cases b2⟩
      · exact ⟨fun _ => b2, fun _ => by omega⟩
      · rw [b2]
        rcases hph with p | p | p | p
        · omega
        · exact ⟨fun _ => p.2, fun _ => by omega⟩
        · by_cases hr0 : r = 0
          · exact ⟨fun _ => hz hr0, fun _ => by rw [p, hr2 hr0]; omega⟩
          · exact ⟨fun h => absurd (p.trans (hr3 hr0)) h, fun h => absurd h hr0⟩
        · exact ⟨fun _ => hz p.1, fun _ => by omega⟩
    have hst : ∀ i, i < w.length → (upd st t a i).pr ≤ 0 ∧ ((upd st t a i).ph = 0 ∨ ((upd st t a i).ph = 1 ∧ inS r i = false) ∨ (upd st t a i).ph = wantP r ∨ (r = 0 ∧ (upd st t a i).ph = 4)) := fun i hi => by
      unfold upd
      split
      · rename_i ei
        subst ei
        refine ⟨ea1, ?_⟩
        rcases ea2 with ⟨b1, b2, b3⟩ | ⟨b1, b2, b3⟩ | ⟨b1, b2⟩
        · refine .inr (.inr (.inl ?_))
          rw [b3, hr3 (fun h => by rw [hz h] at b2; cases b2)]
        · exact .inr (.inl ⟨b3, b2⟩)
        · rw [b2]; exact hph
      · exact h.ss i hi
    refine ⟨⟨fun g hg => ?_, hst, h.ld, h.at_, ?_⟩, ?_⟩
    · rcases List.mem_append.1 hg with hg' | hg'
      · exact h.fr g (hm g hg')
      · have ho := hok g hg'
        rw [han] at hg'
        simp only [List.mem_singleton] at hg'
        subst hg'
        refine ⟨hfd, ho, hfa, .inr (.inl ⟨rfl, efr, fun hy => ?_, fun h0 => decide_eq_true (hyes.2 h0)⟩)⟩
        simp only [Int.toNat_natCast]
        exact hyes.1 (of_decide_eq_true hy)
    · rcases h.sg with hg2 | hg6 | hg0
      · refine .inl ⟨hg2.wt, hg2.nf, hg2.hr, fun h0 => ⟨fun g hg => ?_, fun i hi => ?_⟩, fun i hi => ?_⟩
        · rcases List.mem_append.1 hg with hg' | hg'
          · exact (hg2.ok h0).1 g (hm g hg')
          · rw [han] at hg'
            simp only [List.mem_singleton] at hg'
            subst hg'
            exact .inr rfl
        · unfold upd
          split
          · rename_i ei
            subst ei
            have := (hg2.ok h0).2 i hi
            rcases ea2 with ⟨b1, b2, b3⟩ | ⟨b1, b2, b3⟩ | ⟨b1, b2⟩
            · rw [hz h0] at b2; cases b2
            · exact .inr b3
            · rw [b2]; exact this
          · exact (hg2.ok h0).2 i hi
        · rcases hg2.cv i hi with k | k | k
          · exact .inl k
          · rcases tail k with k | k
            · refine .inr (.inr ⟨_, List.mem_append_right _ (by rw [han]; exact List.mem_singleton.2 rfl), rfl, by simp only; omega⟩)
            · exact .inr (.inl (app k))
          · rcases tail k with k | k
            · omega
            · exact .inr (.inr (app k))
      · refine .inr (.inl ⟨hg6.r0, hg6.wt, hg6.p4, hg6.nq, fun g hg => ?_, fun i hi => ?_, fun i hi => ?_⟩)
        · rcases List.mem_append.1 hg with hg' | hg'
          · exact hg6.fk g (hm g hg')
          · rw [han] at hg'
            simp only [List.mem_singleton] at hg'
            subst hg'
            exact ⟨fun h => by simp only at h; omega, by simp⟩
        · unfold upd
          split
          · rename_i ei
            subst ei
            have := hg6.nc i hi
            rcases ea2 with ⟨b1, b2, b3⟩ | ⟨b1, b2, b3⟩ | ⟨b1, b2⟩
            · omega
            · omega
            · rw [b2]; exact this
          · exact hg6.nc i hi
        · rcases hg6.cv i hi with k | k | k
          · exact .inl k
          · rcases tail k with k | k
            · omega
            · exact .inr (.inl (app k))
          · rcases tail k with k | k
            · omega
            · exact .inr (.inr (app k))
      · refine .inr (.inr ⟨hg0.wt, hg0.dn, fun i hi => ?_⟩)
        rcases hg0.cv i hi with k | k
        · left
          unfold upd
          split
          · rename_i ei
            subst ei
            have hf := want_fin r
            unfold fin at hf
            rcases ea2 with ⟨b1, b2, b3⟩ | ⟨b1, b2, b3⟩ | ⟨b1, b2⟩
            · omega
            · omega
            · rw [b2]; exact k
          · exact k
        · rcases tail k with k | k
          · omega
          · exact .inr (app k)
    · have h1 : wt2 f = 2 := by unfold wt2; rw [if_pos (.inl k1)]
      have h2 : wt2L ans = 1 := by rw [han]; simp [wt2L, wt2]
      omega
  · -- it is told what was prepared
    obtain ⟨hr0, efr, ef4⟩ : r = 0 ∧ f.fr = s ∧ f.s.ph = 4 := by omega
    have ha : afterS f.s.ph ≠ 0 := afterS_pos.2 (.inl ef4)
    have hop : openS (st t) = decide ((st t).ph ≠ 2) := by
      unfold openS
      have h3 : (st t).ph ≠ 3 := by
        have := hr2 hr0
        rcases hph with p | p | p | p <;> omega
      exact decide_eq_decide.2 ⟨fun h => h.1, fun h => ⟨h, h3⟩⟩
    have e : turnM ref f (st t) = if (st t).ph ≠ 2 then (⟨4, 0, 0⟩, 6, true) else (st t, 6, false) := by
      unfold turnM
      rw [if_neg (by omega), if_neg (by omega), if_pos k5, if_neg ha, hop]
      by_cases h2 : (st t).ph ≠ 2
      · rw [if_pos ⟨decide_eq_true h2, by omega⟩, if_pos h2, ef4, hfa]
      · rw [if_neg (fun h => h2 (of_decide_eq_true h.1)), if_neg h2]
    have e21 : (turnM ref f (st t)).2.1 = 6 := by rw [e]; split <;> rfl
    have ea : ((st t).ph ≠ 2 ∧ (turnM ref f (st t)).1 = ⟨4, 0, 0⟩ ∧ (turnM ref f (st t)).2.2 = true) ∨ ((st t).ph = 2 ∧ (turnM ref f (st t)).1 = st t) := by
      rw [e]
      split
      · exact .inl ⟨by assumption, rfl, rfl⟩
      · exact .inr ⟨by omega, rfl⟩
    rw [if_neg (by omega), e21] at han
    generalize turnM ref f (st t) = tr at *
    have hst : ∀ i, i < w.length → (upd st t tr.1 i).pr ≤ 0 ∧ ((upd st t tr.1 i).ph = 0 ∨ ((upd st t tr.1 i).ph = 1 ∧ inS r i = false) ∨ (upd st t tr.1 i).ph = wantP r ∨ (r = 0 ∧ (upd st t tr.1 i).ph = 4)) := fun i hi => by
      unfold upd
      split
      · rename_i ei
        subst ei
        rcases ea with ⟨b1, b2, -⟩ | ⟨b1, b2⟩
        · rw [b2]; exact ⟨by simp, .inr (.inr (.inr ⟨hr0, rfl⟩))⟩
        · rw [b2]; exact ⟨hpr, hph⟩
      · exact h.ss i hi
    refine ⟨⟨fun g hg => ?_, hst, h.ld, h.at_, ?_⟩, ?_⟩
    · rcases List.mem_append.1 hg with hg' | hg'
      · exact h.fr g (hm g hg')
      · have ho := hok g hg'
        rw [han] at hg'
        simp only [List.mem_singleton] at hg'
        subst hg'
        exact ⟨hfd, ho, hfa, .inr (.inr (.inr (.inl ⟨rfl, efr⟩)))⟩
    · rcases h.sg with hg2 | hg6 | hg0
      · exfalso
        have := (hg2.ok hr0).1 f (by simp)
        omega
      · refine .inr (.inl ⟨hg6.r0, hg6.wt, hg6.p4, hg6.nq, fun g hg => ?_, fun i hi => ?_, fun i hi => ?_⟩)
        · rcases List.mem_append.1 hg with hg' | hg'
          · exact hg6.fk g (hm g hg')
          · rw [han] at hg'
            simp only [List.mem_singleton] at hg'
            subst hg'
            refine ⟨fun _ => ?_, by simp⟩
            rcases ea with ⟨b1, b2, b3⟩ | ⟨b1, b2⟩
            · exact b3
            · exact absurd b1 (hg6.nc t ht)
        · unfold upd
          split
          · rename_i ei
            subst ei
            rcases ea with ⟨b1, b2, b3⟩ | ⟨b1, b2⟩
            · rw [b2]; simp
            · exact absurd b1 (hg6.nc i hi)
          · exact hg6.nc i hi
        · rcases hg6.cv i hi with k | k | k
          · exact .inl k
          · rcases tail k with k | k
            · refine .inr (.inr ⟨_, List.mem_append_right _ (by rw [han]; exact List.mem_singleton.2 rfl), rfl, by simp only; omega⟩)
            · exact .inr (.inl (app k))
          · rcases tail k with k | k
            · omega
            · exact .inr (.inr (app k))
      · refine .inr (.inr ⟨hg0.wt, hg0.dn, fun i hi => ?_⟩)
        rcases hg0.cv i hi with k | k
        · left
          unfold upd
          split
          · rename_i ei
            subst ei
            rcases ea with ⟨b1, b2, b3⟩ | ⟨b1, b2⟩
            · rw [hr2 hr0] at k
              exact absurd k b1
            · rw [b2]; exact k
          · exact k
        · rcases tail k with k | k
          · omega
          · exact .inr (app k)
    · have h1 : wt2 f = 2 := by unfold wt2; rw [if_pos (.inr k5)]
      have h2 : wt2L ans = 1 := by rw [han]; simp [wt2L, wt2]
      omega
  · -- it is told what was decided
    have ef : f.s.ph = wantP r := by omega
    have hff2 := want_fin r
    unfold fin at hff2
    have e : turnM ref f (st t) = (if openS (st t) = true then { st t with ph := wantP r } else st t, 0, false) := by
      unfold turnM
      rw [if_neg (by omega), if_neg (by omega), if_neg (by omega), if_pos k7, ef]
      by_cases ho : openS (st t) = true
      · rw [if_pos ⟨ho, hff2⟩, if_pos ho]
      · rw [if_neg (fun h => ho h.1), if_neg ho]
    have e1 : (turnM ref f (st t)).1.pr ≤ 0 ∧ (turnM ref f (st t)).1.ph = wantP r := by
      rw [e]
      simp only
      split
      · exact ⟨hpr, rfl⟩
      · rename_i ho
        refine ⟨hpr, ?_⟩
        have : (st t).ph = 2 ∨ (st t).ph = 3 := by
          unfold openS at ho
          simp only [decide_eq_true_eq] at ho
          omega
        rcases hph with p | p | p | p
        · omega
        · omega
        · exact p
        · omega
    have e21 : (turnM ref f (st t)).2.1 = 0 := by rw [e]
    rw [if_pos e21] at han
    subst han
    generalize turnM ref f (st t) = tr at *
    have hst : ∀ i, i < w.length → (upd st t tr.1 i).pr ≤ 0 ∧ ((upd st t tr.1 i).ph = 0 ∨ ((upd st t tr.1 i).ph = 1 ∧ inS r i = false) ∨ (upd st t tr.1 i).ph = wantP r ∨ (r = 0 ∧ (upd st t tr.1 i).ph = 4)) := fun i hi => by
      unfold upd
      split
      · exact ⟨e1.1, .inr (.inr (.inl e1.2))⟩
      · exact h.ss i hi
    simp only [List.append_nil] at *
    refine ⟨⟨fun g hg => h.fr g (hm g hg), hst, h.ld, h.at_, ?_⟩, ?_⟩
    · rcases h.sg with hg2 | hg6 | hg0
      · refine .inl ⟨hg2.wt, hg2.nf, hg2.hr, fun h0 => ?_, fun i hi => ?_⟩
        · have := (hg2.ok h0).1 f (by simp)
          omega
        · rcases hg2.cv i hi with k | k | k
          · exact .inl k
          · rcases tail k with k | k
            · omega
            · exact .inr (.inl k)
          · rcases tail k with k | k
            · omega
            · exact .inr (.inr k)
      · exact absurd k7 (hg6.fk f (by simp)).2
      · refine .inr (.inr ⟨hg0.wt, hg0.dn, fun i hi => ?_⟩)
        by_cases hit : i = t
        · subst hit
          rw [upd_at]
          exact .inl e1.2
        · rw [upd_ne hit]
          rcases hg0.cv i hi with k | k
          · exact .inl k
          · rcases tail k with k | k
            · omega
            · exact .inr k
    · have h1 : wt2 f = 1 := by unfold wt2; rw [if_neg (by omega)]
      have h2 : wt2L ([] : List Fr) = 0 := rfl
      omega
/-- where nothing flies, all is decided as9 it should be -/
theorem cm_end (hc : checkW w = none) (hr : r < 2 ^ w.length) (h : CmV w d s r st x []) : x.state = sDone ∧ ∀ i, i < w.length → (st i).ph = wantP r := by
  rcases h.sg with hg2 | hg6 | hg0
  · exfalso
    have hall : ∀ i, i < w.length → bit x.heard i := fun i hi => by
      rcases hg2.cv i hi with k | ⟨g, hg, -⟩ | ⟨g, hg, -⟩
      · exact k
      · cases hg
      · cases hg
    refine hg2.nf (Nat.eq_of_testBit_eq fun i => ?_)
    rw [Nat.testBit_two_pow_sub_one]
    by_cases hi : i < w.length
    · rw [(bit_test _ i).1 (hall i hi), decide_eq_true hi]
    · rw [decide_eq_false hi]
      exact Nat.testBit_lt_two_pow (Nat.lt_of_lt_of_le h.ld.heard (Nat.pow_le_pow_right (by decide) (by omega)))
  · exfalso
    have hall : ∀ i, i < w.length → bit x.heard i := fun i hi => by
      rcases hg6.cv i hi with k | ⟨g, hg, -⟩ | ⟨g, hg, -⟩
      · exact k
      · cases hg
      · cases hg
    have := quor_sub hc (quor_all hc) (by have := Nat.two_pow_pos w.length; omega) fun i hi _ => hall i hi
    rw [hg6.nq] at this
    cases this
  · refine ⟨hg0.dn, fun i hi => ?_⟩
    rcases hg0.cv i hi with k | ⟨g, hg, -⟩
    · exact k
    · cases hg
end steps
end Go.HL
end

/-! EdP -/
section
namespace Go.HL
open Go Go.Proofs
set_option linter.unusedVariables false
set_option linter.unusedSimpArgs false
structure CmI (w : List Int) (d s r : Nat) (M : Wm) : Prop where
  wi : WI M
  ww : M.w = w
  lv : ∀ i, i < w.length → LiveW M i
  br : ∀ x, M.br x = false
  rf : ∀ i, i < w.length → ∃ j rf, (ndAt M (i : Int)).site = some (j, rf) ∧ rf d = inS r i
  oz : ∀ i, i < w.length → ∀ e, e < 6 → e ≠ d → ¬ fin (stW M i e).ph
  ev : EvW M
  e1 : ∀ i, i < w.length → (ndAt M (i : Int)).done.getD d false = true → ∃ e ∈ M.ev, e.site = i ∧ e.deal = d
  e2 : ∀ i, i < w.length → fin (stW M i d).ph → (ndAt M (i : Int)).done.getD d false = true
  e3 : ∀ e ∈ M.ev, e.deal = d ∧ e.ph = wantP r
/-- the run, and what is still to come -/
def CmR (w : List Int) (d s r : Nat) (M : Wm) (k : Nat) : Prop := CmI w d s r M ∧ Bnd M 0 (1000 - k) ∧ ∃ x, ldW M s d = some x ∧ CmV w d s r (fun i => stW M i d) x M.l ∧ wt2L M.l + potL w.length x ≤ k
theorem ev_few {w : List Int} {d s r : Nat} {M : Wm} (h : CmI w d s r M) : M.ev.length ≤ w.length ∧ (∀ x ∈ M.ev.map (·.site), x ∈ (List.range w.length).map fun (i : Nat) => (i : Int)) ∧ (M.ev.map (·.site)).Nodup := by
  have hn : (M.ev.map (·.site)).Nodup := by
    rw [List.Nodup, List.pairwise_map]
    refine h.ev.pw.imp_of_mem fun ha hb hab e => hab ⟨e, ?_⟩
    rw [(h.e3 _ ha).1, (h.e3 _ hb).1]
  have hs : ∀ x ∈ M.ev.map (·.site), x ∈ (List.range w.length).map fun (i : Nat) => (i : Int) := fun x hx => by
    obtain ⟨e, he, rfl⟩ := List.mem_map.1 hx
    have := h.ev.rg e he
    rw [h.ww] at this
    exact List.mem_map.2 ⟨e.site.toNat, List.mem_range.2 (by omega), by omega⟩
  have := nodup_le _ _ hn hs
  simp only [List.length_map, List.length_range] at this
  exact ⟨this, hs, hn⟩
theorem cm_deliver {w : List Int} {d s r k : Nat} {M : Wm} (hc : checkW w = none) (hr : r < 2 ^ w.length) (hd6 : d < 6) (hs : s < w.length) (h : CmR w d s r M (k + 1)) (hne : M.l ≠ []) : CmR w d s r (deliverW M 0).1 k := by
  obtain ⟨hC, hB, x, hx, hV, hk⟩ := h
  have hI := hC.wi
  have hwl := (check_none hc).2.1
  obtain ⟨f, R, e⟩ := List.exists_cons_of_ne_nil hne
  obtain ⟨⟨hbad, hto, hfr⟩, hv⟩ := deliver_view hI e
  have hok := deliver_ok hI 0
  have hw' : (deliverW M 0).1.w = w := by rw [hok.same.w, hC.ww]
  have hn := hI.wn
  rw [hC.ww] at hto hfr hn
  rw [e] at hV
  obtain ⟨hfd, -, hfa, hfk⟩ := hV.fr f (by simp)
  have hb2 := hbad
  unfold badF at hb2
  have hdn : f.dl.toNat = d := by omega
  have htn : ((f.to.toNat : Nat) : Int) = f.to := by omega
  have hbd := (hB.deliver hI 0).mono (Int.le_refl _) (show (1000 - ((k + 1 : Nat) : Int) + 1) ≤ 1000 - (k : Int) by push_cast; omega)
  have hkc := ph_cases hV
  have hE : WI { M with l := R } := by
    have := hI.erase 0
    rw [e] at this
    exact this
  cases hv with
  | gone e1 why =>
    exfalso
    rcases why with q | q | ⟨q, q2⟩
    · have := (hC.lv f.to.toNat (by omega)).1
      rw [htn] at this
      exact this q
    · rw [hC.br] at q; cases q
    · have hts : f.to.toNat = s := by omega
      rw [hdn, hts, hx] at q2
      cases q2
  | lead y hy hi hkd hbr up br l st ld lv rr ev dn =>
    have hts : f.to.toNat = s := by omega
    rw [hts, hdn] at hy ld
    rw [hx] at hy
    cases hy
    obtain ⟨c1, c2⟩ := cm_lead hc hr hd6 hs hV (by omega)
    have hwt : wt2L (deliverW M 0).1.l + potL w.length (hearM x f).1 ≤ k := by rw [l]; rw [e] at hk; omega
    refine ⟨⟨hok.wi, hw', fun i hi => lv i (hC.lv i hi), fun z => by rw [br]; exact hC.br z, fun i hi => by rw [rr]; exact hC.rf i hi, fun i hi q hq hqd => by rw [st]; exact hC.oz i hi q hq hqd, ev_deliver hI hC.ev 0, fun i hi hd => ?_, fun i hi hf => ?_, fun q hq => hC.e3 q (by rw [← ev]; exact hq)⟩, hbd, (hearM x f).1, by rw [ld, if_pos ⟨rfl, rfl⟩], ?_, hwt⟩
    · rw [dn] at hd
      rw [ev]
      exact hC.e1 i hi hd
    · rw [st] at hf
      rw [dn]
      exact hC.e2 i hi hf
    · rw [l]
      have e5 : (fun i => stW (deliverW M 0).1 i d) = fun i => stW M i d := funext fun i => st i d
      rw [e5]
      exact c1
  | hear hkd hbr up e1 =>
    have hlive : LiveW { M with l := R } f.to.toNat := hC.lv f.to.toNat (by omega)
    have hnm := hB.nm f.to.toNat f.dl.toNat (by rw [hC.ww]; omega)
    obtain ⟨ref, hH, hup⟩ := hear_live hE (s := f.to.toNat) (by simp only; omega) hlive hbad (by omega) (by
      have : nmW { M with l := R } f.to.toNat f.dl.toNat = nmW M f.to.toNat f.dl.toNat := rfl
      rw [this]
      omega)
    have hev6 : ({ M with l := R } : Wm).ev.length + 6 ≤ 500 := by
      have := (ev_few hC).1
      show M.ev.length + 6 ≤ 500
      omega
    obtain ⟨n1, n2, n3, n4, n5⟩ := hear_note hE (s := f.to.toNat) (by simp only; omega) hlive f hev6
    have hokA := (hE.hear (s := ((f.to.toNat : Nat) : Int)) (f := f) (by omega) (by simp only; omega) (by show f.fr < M.w.length; rw [hC.ww]; exact hfr)).2
    have hme := hH.me
    have han := hH.an
    have hstE : ∀ t q, stW { M with l := R } t q = stW M t q := fun t q => rfl
    rw [hstE, hdn] at hme han
    obtain ⟨j, hj⟩ := hH.rf
    obtain ⟨j2, rf2, hj2, hrf2⟩ := hC.rf f.to.toNat (by omega)
    have hj3 : (ndAt M ((f.to.toNat : Nat) : Int)).site = some (j, ref) := hj
    rw [hj2] at hj3
    cases hj3
    obtain ⟨c1, c2⟩ := cm_site (st := fun i => stW M i d) (t := f.to.toNat) (ref := ref) hs hV hkd (by omega) (by omega) hrf2 han (fun g hg => by have := hokA g hg; rw [show ({ M with l := R } : Wm).w = w from hC.ww] at this; exact this)
    rw [e1]
    have hst' : ∀ i, stW { (hearW { M with l := R } f.to.toNat f).1 with l := R ++ (hearW { M with l := R } f.to.toNat f).2.1 } i d = upd (fun i => stW M i d) f.to.toNat (turnM ref f (stW M f.to.toNat d)).1 i := fun i => by
      show stW (hearW { M with l := R } f.to.toNat f).1 i d = _
      unfold upd
      by_cases e2 : i = f.to.toNat
      · rw [if_pos e2, e2, hme]
      · rw [if_neg e2, hH.st i d (.inl e2)]
        rfl
    have hev' := ev_deliver hI hC.ev 0
    have hwi' := hok.wi
    rw [e1] at hev' hwi' hbd hw'
    rw [e] at hk
    refine ⟨⟨hwi', hw', fun i hi => hH.lv i (hC.lv i hi), fun z => hC.br z, fun i hi => ?_, fun i hi q hq hqd => ?_, hev', fun i hi hd => ?_, fun i hi hf => ?_, fun q hq => ?_⟩, hbd, x, (hH.ld s d).trans hx, ?_, by simp only; omega⟩
    · obtain ⟨ji, ri, h1, h2⟩ := hC.rf i hi
      obtain ⟨j', h3⟩ := hH.rr i ji ri h1
      exact ⟨j', ri, h3, h2⟩
    · show ¬ fin (stW (hearW { M with l := R } f.to.toNat f).1 i q).ph
      rw [hH.st i q (.inr (by omega))]
      exact hC.oz i hi q hq hqd
    · have hd' : (ndAt (hearW { M with l := R } f.to.toNat f).1 (i : Int)).done.getD d false = true := hd
      by_cases e2 : i = f.to.toNat
      · rw [e2] at hd' ⊢
        rcases n3 d hd' with q | q
        · obtain ⟨q, hq, q2⟩ := hC.e1 f.to.toNat (by omega) q
          exact ⟨q, n1 q hq, q2⟩
        · exact q
      · rw [n5 i e2] at hd'
        obtain ⟨q, hq, q2⟩ := hC.e1 i hi hd'
        exact ⟨q, n1 q hq, q2⟩
    · have hf' : fin (stW (hearW { M with l := R } f.to.toNat f).1 i d).ph := hf
      show (ndAt (hearW { M with l := R } f.to.toNat f).1 (i : Int)).done.getD d false = true
      by_cases e2 : i = f.to.toNat
      · rw [e2] at hf' ⊢
        exact n2 d hd6 hf'
      · rw [n5 i e2]
        rw [hH.st i d (.inl e2)] at hf'
        exact hC.e2 i hi hf'
    · rcases n4 q hq with q2 | ⟨d', q1, q2, q3⟩
      · exact hC.e3 q q2
      · by_cases e3 : d' = d
        · subst e3
          rw [q2]
          refine ⟨rfl, ?_⟩
          have h1 := (c1.ss f.to.toNat (by omega)).2
          have h2 := hst' f.to.toNat
          have h2' : stW (hearW { M with l := R } f.to.toNat f).1 f.to.toNat d' = _ := h2
          rw [← h2'] at h1
          unfold fin at q3
          simp only
          rcases h1 with h1 | h1 | h1 | h1
          · omega
          · omega
          · exact h1
          · omega
        · exfalso
          rw [hH.st f.to.toNat d' (.inr (by omega))] at q3
          exact hC.oz f.to.toNat (by omega) d' q1 e3 q3
    · have e5 : (fun i => stW { (hearW { M with l := R } f.to.toNat f).1 with l := R ++ (hearW { M with l := R } f.to.toNat f).2.1 } i d) = upd (fun i => stW M i d) f.to.toNat (turnM ref f (stW M f.to.toNat d)).1 := funext hst'
      rw [e5]
      exact c1
/-- at the end -/
theorem cm_final {w : List Int} {d s r k : Nat} {M : Wm} (hc : checkW w = none) (hr : r < 2 ^ w.length) (hd6 : d < 6) (hs : s < w.length) (h : CmR w d s r M k) (hl : M.l = []) :
    leadW M s d = (sDone, none) ∧ (∀ i, i < w.length → (stW M i d).ph = wantP r) ∧ M.ev.length = w.length ∧ ∀ e ∈ M.ev, e.deal = d ∧ e.ph = wantP r := by
  obtain ⟨hC, -, x, hx, hV, -⟩ := h
  rw [hl] at hV
  obtain ⟨h1, h2⟩ := cm_end hc hr hV
  have hn := hC.wi.wn
  rw [hC.ww] at hn
  refine ⟨?_, h2, ?_, hC.e3⟩
  · unfold leadW
    rw [if_neg (by omega)]
    have hx' : (ndAt M (s : Int)).leads.getD (d : Int).toNat none = some x := by rw [Int.toNat_natCast]; exact hx
    rw [hx']
    simp only [h1]
  · obtain ⟨k1, k2, k3⟩ := ev_few hC
    have := nodup_le ((List.range w.length).map fun (i : Nat) => (i : Int)) (M.ev.map (·.site)) (by
      rw [List.Nodup, List.pairwise_map]
      exact (List.nodup_range (n := w.length)).imp fun h e => h (by omega)) fun y hy => by
        obtain ⟨i, hi, rfl⟩ := List.mem_map.1 hy
        have hi' := List.mem_range.1 hi
        obtain ⟨q, hq, q2, -⟩ := hC.e1 i hi' (hC.e2 i hi' (by show fin (stW M i d).ph; rw [h2 i hi']; exact want_fin r))
        exact List.mem_map.2 ⟨q, hq, q2⟩
    simp only [List.length_map, List.length_range] at this
    omega
/-- some sites refuse a deal -/
def refA (r : Nat) (d : Nat) (M : Wm) (i : Nat) : Wm := if inS r i then (refuseW M i d).1 else M
def refsA (r d k : Nat) (M : Wm) : Wm := (List.range k).foldl (refA r d) M
theorem refsA_succ (r d k : Nat) (M : Wm) : refsA r d (k + 1) M = refA r d (refsA r d k M) k := by
  unfold refsA
  rw [List.range_succ, List.foldl_append]
  rfl
structure RefI (w : List Int) (d r k : Nat) (M : Wm) : Prop where
  wi : WI M
  ww : M.w = w
  l : M.l = []
  e : M.ev = []
  br : ∀ x, M.br x = false
  nd : ∀ i, i < w.length → ndAt M (i : Int) = if i < k ∧ inS r i = true then refuseN newNd d else newNd
  ev : EvW M
  bd : Bnd M 0 0
theorem refs_view {w : List Int} (hc : checkW w = none) {d : Nat} (hd : d < 6) (r : Nat) : ∀ k, k ≤ w.length → RefI w d r k (refsA r d k (newW w)) ∧ ∀ i, i < k → inS r i = true → (refuseW (refsA r d i (newW w)) i d).2 = none
  | 0, _ => ⟨⟨new_ok hc, rfl, rfl, rfl, fun _ => rfl, fun i hi => (by
      rw [if_neg (by omega)]
      exact ndAt_new (by omega) (by omega)), ev_new w, bnd_new hc⟩, fun i hi => by omega⟩
  | k + 1, hk => by
    obtain ⟨h, h'⟩ := refs_view hc hd r k (by omega)
    have hn := h.wi.wn
    rw [h.ww] at hn
    have hnk := h.nd k (by omega)
    rw [if_neg (by omega)] at hnk
    have hu : upE (refsA r d k (newW w)) k = none := by
      unfold upE
      rw [nodeE_ok (by omega) (by omega)]
      simp only
      rw [hnk]
      rfl
    have hrf : refuseW (refsA r d k (newW w)) k d = (setN (refsA r d k (newW w)) k (refuseN (ndAt (refsA r d k (newW w)) k) d), none) := by
      unfold refuseW
      rw [if_neg (by omega), hu]
    refine ⟨?_, fun i hi hin => ?_⟩
    · rw [refsA_succ]
      unfold refA
      cases hin : inS (r : Int) k with
      | false =>
        simp only [Bool.false_eq_true, if_false]
        refine ⟨h.wi, h.ww, h.l, h.e, h.br, fun i hi => ?_, h.ev, h.bd⟩
        rw [h.nd i hi]
        by_cases e1 : i = k
        · subst e1
          rw [if_neg (by omega), if_neg (fun q => by rw [hin] at q; cases q.2)]
        · by_cases e2 : i < k ∧ inS (r : Int) i = true
          · rw [if_pos e2, if_pos ⟨by omega, e2.2⟩]
          · rw [if_neg e2, if_neg (fun q => e2 ⟨by omega, q.2⟩)]
      | true =>
        simp only [if_true]
        have hok := (refuse_ok h.wi k d).wi
        have hbn := h.bd.node (s := (k : Int)) (by omega) (by omega) (m := refuseN (ndAt (refsA r d k (newW w)) k) d) (ev := (refsA r d k (newW w)).ev) (by unfold refuseN; split <;> rfl) (.inl (by unfold refuseN; split <;> rfl))
        rw [hrf] at hok ⊢
        refine ⟨hok, h.ww, h.l, h.e, h.br, fun i hi => ?_, h.ev.set (by omega) (by omega) (by unfold refuseN; split <;> rfl), hbn⟩
        show ndAt (setN (refsA r d k (newW w)) k (refuseN (ndAt (refsA r d k (newW w)) k) d)) (i : Int) = _
        rw [Ze (by omega) (by omega)]
        by_cases e1 : i = k
        · subst e1
          rw [if_pos rfl, hnk, if_pos ⟨by omega, hin⟩]
        · rw [if_neg (by omega), h.nd i hi]
          by_cases e2 : i < k ∧ inS (r : Int) i = true
          · rw [if_pos e2, if_pos ⟨by omega, e2.2⟩]
          · rw [if_neg e2, if_neg (fun q => e2 ⟨by omega, q.2⟩)]
    · by_cases e1 : i = k
      · subst e1; rw [hrf]
      · exact h' i (by omega) hin
theorem refuse_new (d : Nat) : (refuseN newNd d).pl = newNd.pl ∧ (refuseN newNd d).leads = noLeads ∧ (refuseN newNd d).done = newNd.done ∧ ∃ j rf, (refuseN newNd d).site = some (j, rf) ∧ rf d = true := by
  unfold refuseN newNd
  exact ⟨rfl, rfl, rfl, _, _, rfl, by simp⟩
/-- the deal begins -/
theorem cm_begin {w : List Int} (hc : checkW w = none) {d s r : Nat} (hd : d < 6) (hs : s < w.length) : (beginW (refsA r d w.length (newW w)) s d).2 = none ∧ CmR w d s r (beginW (refsA r d w.length (newW w)) s d).1 35 := by
  obtain ⟨h, -⟩ := refs_view hc hd r w.length (Nat.le_refl _)
  obtain ⟨c1, c2, -⟩ := check_none hc
  generalize refsA r d w.length (newW w) = M at *
  have hn := h.wi.wn
  rw [h.ww] at hn
  obtain ⟨r1, r2, r3, jr, rr, r4, r5⟩ := refuse_new d
  have hpl : ∀ i, i < w.length → (ndAt M (i : Int)).pl = newNd.pl ∧ (ndAt M (i : Int)).leads = noLeads ∧ (ndAt M (i : Int)).done = newNd.done ∧ ∃ j rf, (ndAt M (i : Int)).site = some (j, rf) ∧ rf d = inS r i := fun i hi => by
    rw [h.nd i hi]
    split
    · rename_i hq
      exact ⟨r1, r2, r3, jr, rr, r4, by rw [r5, hq.2]⟩
    · rename_i hq
      refine ⟨rfl, rfl, rfl, _, _, rfl, ?_⟩
      cases hin : inS (r : Int) i with
      | false => rfl
      | true => exact absurd ⟨hi, hin⟩ hq
  have hst : ∀ i, i < w.length → ∀ e : Nat, stW M i e = zeroS := fun i hi e => by
    unfold stW
    rw [(hpl i hi).1]
    exact plSt_new e
  have hup : upE M s = none := by
    unfold upE
    rw [nodeE_ok (by omega) (by omega)]
    simp only
    obtain ⟨j, rf, hj, -⟩ := (hpl s hs).2.2.2
    rw [hj]
    rfl
  have hbusy : M.n.any (isBusy d) = false := by
    rw [List.any_eq_false]
    intro m hm
    obtain ⟨i, hi, rfl⟩ := List.getElem_of_mem hm
    have hi' : i < w.length := by omega
    have e1 : ndAt M (i : Int) = M.n[i] := by unfold ndAt; rw [Int.toNat_natCast, List.getD, List.getElem?_eq_getElem hi]; rfl
    have h1 := hst i hi' d
    have h2 := (hpl i hi').2.1
    rw [e1] at h2
    unfold stW at h1
    rw [e1] at h1
    unfold isBusy
    rw [h1, h2, Int.toNat_natCast, noLeads_getD]
    simp
  have hb : beginW M s d = ({ setN M s { ndAt M s with leads := (ndAt M s).leads.set (d : Int).toNat (some (newLd s d M.w 0 2)) } with l := M.l ++ startM (newLd s d M.w 0 2) }, none) := by
    unfold beginW
    rw [if_neg (by omega), hup]
    simp only
    rw [hbusy]
    rfl
  have hbo := begin_ok h.wi (s : Int) (d : Int)
  have hev := ev_act h.wi h.ev ⟨[98, 101, 103, 105, 110], s, d, 0⟩
  have hbe : actW M ⟨[98, 101, 103, 105, 110], s, d, 0⟩ = beginW M s d := by unfold actW; rw [if_pos rfl]
  rw [hbe] at hev
  rw [hb] at hbo hev ⊢
  rw [Int.toNat_natCast] at *
  have h6 := (h.wi.at (s := (s : Int)) (by omega) (by omega)).leads
  have hld := fun t e => ldW_set (M := M) (s := (s : Int)) (by omega) (by omega) h6 (d := d) hd (some (newLd s d M.w 0 2)) (M.l ++ startM (newLd s d M.w 0 2)) t e
  have hstL := fun t e => stW_lead (M := M) (s := (s : Int)) (by omega) (by omega) ((ndAt M s).leads.set d (some (newLd s d M.w 0 2))) (M.l ++ startM (newLd s d M.w 0 2)) t e
  have hnd : ∀ t : Nat, (ndAt { setN M s { ndAt M s with leads := (ndAt M s).leads.set d (some (newLd s d M.w 0 2)) } with l := M.l ++ startM (newLd s d M.w 0 2) } (t : Int)).site = (ndAt M (t : Int)).site ∧ (ndAt { setN M s { ndAt M s with leads := (ndAt M s).leads.set d (some (newLd s d M.w 0 2)) } with l := M.l ++ startM (newLd s d M.w 0 2) } (t : Int)).done = (ndAt M (t : Int)).done ∧ (ndAt { setN M s { ndAt M s with leads := (ndAt M s).leads.set d (some (newLd s d M.w 0 2)) } with l := M.l ++ startM (newLd s d M.w 0 2) } (t : Int)).pl = (ndAt M (t : Int)).pl := fun t => by
    show (ndAt (setN M s { ndAt M s with leads := _ }) (t : Int)).site = _ ∧ (ndAt (setN M s { ndAt M s with leads := _ }) (t : Int)).done = _ ∧ (ndAt (setN M s { ndAt M s with leads := _ }) (t : Int)).pl = _
    rw [Ze (by omega) (by omega)]
    split
    · rename_i e2; rw [e2]; exact ⟨rfl, rfl, rfl⟩
    · exact ⟨rfl, rfl, rfl⟩
  have hfrm : ∀ f ∈ M.l ++ startM (newLd s d M.w 0 2), f.kd = 1 ∧ f.fr = s ∧ f.dl = d ∧ f.att = 0 := fun f hf => by
    rw [h.l, List.nil_append] at hf
    obtain ⟨k1, k2, k3, -, k5⟩ := start_frames f hf
    exact ⟨by rw [k5]; rfl, k1, k2, k3⟩
  have hbd2 : Bnd { setN M s { ndAt M s with leads := (ndAt M s).leads.set d (some (newLd s d M.w 0 2)) } with l := M.l ++ startM (newLd s d M.w 0 2) } 0 0 := h.bd.lead h.wi (by omega) (by omega) hd ⟨Int.le_refl _, Int.le_refl _⟩ fun f hf => .inr ⟨by rw [(hfrm f hf).2.2.2]; exact Int.le_refl _, by
    rw [h.l, List.nil_append] at hf
    rw [(start_frames f hf).2.2.2.1]; exact Int.le_refl _⟩
  refine ⟨rfl, ⟨hbo.wi, h.ww, fun i hi => ?_, h.br, fun i hi => ?_, fun i hi e he hed => ?_, hev, fun i hi hdn => ?_, fun i hi hf => ?_, fun e he => ?_⟩, hbd2.mono (Int.le_refl _) (by omega), newLd s d M.w 0 2, ?_, ?_, ?_⟩
  · unfold LiveW LiveN
    rw [(hnd i).1, (hnd i).2.2, (hpl i hi).1]
    obtain ⟨j, rf, hj, -⟩ := (hpl i hi).2.2.2
    exact ⟨by rw [hj]; simp, rfl⟩
  · rw [(hnd i).1]
    exact (hpl i hi).2.2.2
  · rw [hstL, hst i hi e]
    unfold fin zeroS
    simp
  · rw [(hnd i).2.1, (hpl i hi).2.2.1] at hdn
    unfold newNd at hdn
    simp only [List.getD, List.getElem?_replicate] at hdn
    split at hdn <;> cases hdn
  · rw [hstL, hst i hi d] at hf
    unfold fin zeroS at hf
    simp at hf
  · have he' : e ∈ M.ev := he
    rw [h.e] at he'
    cases he'
  · rw [hld, if_pos ⟨rfl, rfl⟩]
  · refine ⟨fun f hf => ?_, fun i hi => ?_, ?_, rfl, .inl ⟨rfl, ?_, fun i _ hb => absurd hb bit_zero, fun _ => ⟨fun f hf => .inl (hfrm f hf).1, fun i hi => .inl ?_⟩, fun i hi => .inr (.inl ?_)⟩⟩
    · obtain ⟨k1, k2, k3, k4⟩ := hfrm f hf
      have := hbo.wi.fr f hf
      rw [show ({ setN M s { ndAt M s with leads := (ndAt M s).leads.set d (some (newLd s d M.w 0 2)) } with l := M.l ++ startM (newLd s d M.w 0 2) } : Wm).w = w from h.ww] at this
      exact ⟨k3, this, k4, .inl ⟨k1, k2⟩⟩
    · rw [hstL, hst i hi d]
      exact ⟨Int.le_refl _, .inl rfl⟩
    · rw [h.ww]
      exact newLd_I (Int.le_refl _) (by omega)
    · show (0 : Nat) ≠ 2 ^ w.length - 1
      have : 2 ^ 1 ≤ 2 ^ w.length := Nat.pow_le_pow_right (by decide) c1
      omega
    · rw [hstL, hst i hi d]
      rfl
    · refine ⟨⟨s, i, d, 1, 0, false, ⟨0, 0, 0⟩⟩, List.mem_append_right _ ?_, rfl, rfl⟩
      unfold startM
      rw [if_pos (show (newLd s d M.w 0 2).att = 0 from rfl)]
      exact allM_has (m := newLd s d M.w 0 2) (k := 1) (p := 0) (by show i < M.w.length; rw [h.ww]; exact hi) (.inl (by omega))
  · have h1 : wt2L (M.l ++ startM (newLd s d M.w 0 2)) ≤ 2 * (M.l ++ startM (newLd s d M.w 0 2)).length := wt2_le fun f _ => by unfold wt2; split <;> omega
    have h2 := startM_le (newLd s d M.w 0 2)
    rw [show (newLd s d M.w 0 2).w = w from h.ww] at h2
    rw [h.l, List.nil_append] at h1
    have h3 : potL w.length (newLd s d M.w 0 2) = 3 * w.length := by unfold potL; rw [if_pos (show (newLd s d M.w 0 2).wait = 2 from rfl)]
    rw [h3]
    show wt2L (M.l ++ startM (newLd s d M.w 0 2)) + _ ≤ 35
    rw [h.l, List.nil_append]
    omega
end Go.HL
end

/-! PwN -/
section
namespace Go.HL
open Go Go.Proofs
set_option linter.unusedVariables false
set_option linter.unusedSimpArgs false
theorem cm_more {w : List Int} {d s r k : Nat} {M : Wm} (h : CmR w d s r M k) (hne : M.l ≠ []) : 1 ≤ k := by
  obtain ⟨-, -, x, -, -, hk⟩ := h
  obtain ⟨f, R, e⟩ := List.exists_cons_of_ne_nil hne
  rw [e, wt2_cons] at hk
  have : 1 ≤ wt2 f := by unfold wt2; split <;> omega
  omega
theorem outM_all {xs : List Evt} {d : Nat} {p : Int} (h : ∀ e ∈ xs, e.deal = d ∧ e.ph = p) (hl : 1 ≤ xs.length) : outM (xs.map toEv) d 0 = p := by
  obtain ⟨e, r, rfl⟩ := List.exists_cons_of_ne_nil (fun h : xs = [] => by rw [h] at hl; simp at hl)
  have h1 := h e (by simp)
  rw [outM_hit (by simp) (by simp [toEv]; exact h1.1)]
  simp [toEv]
  exact h1.2
set_option maxHeartbeats 2000000 attribute [local irreducible] HW HO HQ HD HC QOp Has Upd Puts Gets seqQ blkQ loopQ fnQ actQ nextP unQ MapF
attribute [local irreducible] newW stsW wdC refsA refuseW beginW deliverW
set_option maxRecDepth 20000 in
theorem worldCommits_calls (T : Nat) (E : Nat → Addr) (a : Option Addr) (cap : Nat) (w : List Int) (s0 d0 r0 : Int) (L : Heap) (hE : Ez T E L) (hR : Rd ic 1 L a w) :
    HC Tryz.prog 3 [.slice a w.length cap, iv s0, iv d0, iv r0] L (fun v L' => v = .bool true ∧ L' = L) := by
  have kb := born_calls T E L hE
  have kw := weightsError_calls a cap w L hR
  cases hc : checkW w with
  | some e =>
    rw [hc] at kw
    have hpos : ¬ cdN' (some e) ≤ 0 := by
      obtain ⟨k, hk⟩ : ∃ k, e = k + 1 := ⟨e - 1, by have := check_pos hc; omega⟩
      subst hk
      simp only [cdN']
      omega
    generalize cdN' (some e) = z at *
    refine Za (fun _ _ => Tryz.call3 _ _) Tryz.func3 rfl Tryz.ntmps3 (Nat.le_of_ble_eq_true rfl) ?_; simp only [args0, Nat.reduceAdd]
    repeat' (first | refine uN ?_ | refine uC (kb) ?_ | refine uC (kw) ?_ | (refine uP ?_ ?_ <;> (intro h; ((try simp only [zs, ne_eq, and_true, true_and, eq_self, reduceCtorEq] at h); try exact zx))) | fail)
    all_goals exact sp1 (LS.refl _) ⟨rfl, rfl⟩
  | none =>
    rw [hc] at kw
    simp only [cdN'] at kw
    obtain ⟨c1, c2, -⟩ := check_none hc
    have kt := two_calls w.length (by omega) L
    have hpw : (2 : Int) ^ w.length = ((2 ^ w.length : Nat) : Int) := by simp
    rw [hpw] at kt
    by_cases hok : (0 ≤ s0 ∧ s0 < w.length) ∧ (0 ≤ d0 ∧ d0 < 6) ∧ 0 ≤ r0 ∧ r0 < ((2 ^ w.length : Nat) : Int)
    · obtain ⟨⟨hs0, hs1⟩, ⟨hd0, hd1⟩, hr0, hr1⟩ := hok
      obtain ⟨s, rfl⟩ := Int.eq_ofNat_of_zero_le hs0
      obtain ⟨d, rfl⟩ := Int.eq_ofNat_of_zero_le hd0
      obtain ⟨r, rfl⟩ := Int.eq_ofNat_of_zero_le hr0
      have hs : s < w.length := by omega
      have hd : d < 6 := by omega
      have hr : r < 2 ^ w.length := by omega
      have ko := fun L hR => ownInts_calls a cap w L hR (by omega)
      have kn0 := fun v c L hG hv => wnew_calls T E v w c L hG hv (by omega)
      simp only [hc] at kn0
      have hM := new_ok hc
      have hz0 : refsA r d 0 (newW w) = newW w := by unfold refsA; rfl
      have kn := fun v c L hG hv => HC.shutN (V := fun u G => u = .tuple ⟨[pt G.wp 0, .nilIface]⟩) (kn0 v c L hG hv)
      have hrv := fun k => refs_view hc hd r k
      have hrs := fun k => refsA_succ r d k (newW w)
      have hrb : (r : Int) ≤ 9223372036854775807 := by
        have : 2 ^ w.length ≤ 2 ^ 7 := Nat.pow_le_pow_right (by decide) c2
        omega
      refine Za (fun _ _ => Tryz.call3 _ _) Tryz.func3 rfl Tryz.ntmps3 (Nat.le_of_ble_eq_true rfl) ?_; simp only [args0, Nat.reduceAdd]
      repeat' (first | refine uN ?_ | refine uC (kb) ?_ | refine uC (kw) ?_ | refine uC (kt) ?_ | (refine uP ?_ ?_ <;> (intro h; ((try simp only [zs, ne_eq, and_true, true_and, eq_self, reduceCtorEq] at h); try exact zx))) | fail)
      all_goals first | (exfalso; omega) | skip
      refine gc (ko _ hR) ?_
      rintro v L' ⟨o1, ho1, rfl⟩
      repeat' (first | refine uN ?_ | refine uC (kb) ?_ | refine uC (kw) ?_ | (refine uP ?_ ?_ <;> (intro h; ((try simp only [zs, ne_eq, and_true, true_and, eq_self, reduceCtorEq] at h); try exact zx))) | fail)
      refine gc (kn _ _ _ (hE.er [2, 3, 4, 6]) ho1) ?_
      rintro v L' ⟨Ga, rfl, hWa, rfl⟩
      repeat' (first | refine uN ?_ | refine uC (kb) ?_ | refine uC (kw) ?_ | (refine uP ?_ ?_ <;> (intro h; ((try simp only [zs, ne_eq, and_true, true_and, eq_self, reduceCtorEq] at h); try exact zx))) | fail)
      refine hw_sp (L' := wdC Ga (refsA r d 0 (newW w)) :: o1 :: L) ?_ (by rw [hz0]; exact LS.refl _)
      refine Zf (σ := Nat × WdG) (fun q => [(0, .slice a w.length cap), (1, iv s), (2, iv d), (3, iv r), (10, pt Ga.wp 0), (12, iv q.1)]) (fun q => wdC q.2 (refsA r d q.1 (newW w)) :: o1 :: L)
        (fun q => q.1 ≤ w.length ∧ WdOk q.2 (refsA r d q.1 (newW w)) ∧ q.2.wp = Ga.wp) (fun q => w.length - q.1) (0, Ga) uS (List.Sublist.refl _) ⟨by simp, by rw [hz0]; exact hWa, rfl⟩ ?_
      rintro ⟨k, G1⟩ ⟨hk, hW1, e1⟩
      simp only at hk hW1 e1 ⊢
      obtain ⟨hv1, -⟩ := hrv k hk
      by_cases hkl : k < w.length
      · have hre := (hrv (k + 1) (by omega)).2 k (by omega)
        have hsk := hrs k
        unfold refA at hsk
        have khk := rHas2_calls r k (by omega) hrb
        have hwi1 := hv1.wi
        clear hrv hrs
        generalize refsA r d k (newW w) = M1 at *
        have kre := fun L hG => HC.shut (V := fun u => u = eV T E (refuseW M1 k d).2) (wrefuse_calls T E G1 M1 k d L hG hW1 hwi1)
        rw [← e1]
        cases hik : inS (r : Int) k with
        | true =>
          rw [hik] at khk
          simp only [hik, if_true] at hsk
          rw [hre hik] at kre
          repeat' (first | refine uN ?_ | refine uC (khk _) ?_ | (refine uP ?_ ?_ <;> (intro h; ((try simp only [zs, ne_eq, and_true, true_and, eq_self, reduceCtorEq] at h); try exact zx))) | fail)
          refine gc (kre _ ((hE.er [2, 6]).cons _)) ?_
          rintro v L' ⟨rfl, G2, e2, hW2, rfl⟩
          rw [← e2]
          repeat' (first | refine uN ?_ | refine uC (khk _) ?_ | (refine uP ?_ ?_ <;> (intro h; ((try simp only [zs, ne_eq, and_true, true_and, eq_self, reduceCtorEq] at h); try exact zx))) | fail)
          exact Zc (k + 1, G2) (by simp only [e2, e1]; exact uS) (by simp only [hsk]; exact LS.refl _) ⟨by simp only; omega, by simp only [hsk]; exact hW2, by simp only [e2, e1]⟩ (by simp only; omega)
        | false =>
          rw [hik] at khk
          simp only [hik, Bool.false_eq_true, if_false] at hsk
          repeat' (first | refine uN ?_ | refine uC (khk _) ?_ | (refine uP ?_ ?_ <;> (intro h; ((try simp only [zs, ne_eq, and_true, true_and, eq_self, reduceCtorEq] at h); try exact zx))) | fail)
          exact Zc (k + 1, G1) (by simp only [e1]; exact uS) (by simp only [hsk]; exact LS.refl _) ⟨by simp only; omega, by simp only [hsk]; exact hW1, by simp only [e1]⟩ (by simp only; omega)
      · obtain rfl : k = w.length := by omega
        obtain ⟨hbe, hcm⟩ := cm_begin hc (r := r) hd hs
        have hwi1 := hv1.wi
        have hl1 := hv1.l
        clear hrv hrs hv1
        generalize refsA r d w.length (newW w) = M1 at *
        have kbg := fun L hG => HC.shut (V := fun u => u = eV T E (beginW M1 s d).2) (wbegin_calls T E G1 M1 s d L hG hW1 hwi1 (by rw [hl1]; simp))
        rw [hbe] at kbg
        rw [← e1]
        repeat' (first | refine uN ?_ | refine uC (kb) ?_ | (refine uP ?_ ?_ <;> (intro h; ((try simp only [zs, ne_eq, and_true, true_and, eq_self, reduceCtorEq] at h); try exact zx))) | fail)
        refine gc (kbg _ ((hE.er [2, 3, 4, 6, 8]).cons _)) ?_
        rintro v L' ⟨rfl, G2, e2, hW2, rfl⟩
        rw [← e2]
        repeat' (first | refine uN ?_ | refine uC (kb) ?_ | (refine uP ?_ ?_ <;> (intro h; ((try simp only [zs, ne_eq, and_true, true_and, eq_self, reduceCtorEq] at h); try exact zx))) | fail)
        generalize (beginW M1 s d).1 = M2 at *
        apply once_o (ι := Wm × WdG) (fun q => (∃ k, CmR w d s r q.1 k) ∧ q.1.l = [] ∧ WdOk q.2 q.1 ∧ q.2.wp = G2.wp) (fun q => [(0, .slice a w.length cap), (1, iv s), (2, iv d), (10, pt G2.wp 0), (15, iv (wantP r)), (106, pt G2.wp 0), (108, iv w.length), (109, iv d)]) (fun q => wdC q.2 q.1 :: o1 :: L)
        · intro key
          refine Zf (σ := Nat × Wm × WdG) (fun q => [(0, .slice a w.length cap), (1, iv s), (2, iv d), (3, iv r), (10, pt G2.wp 0), (14, iv q.1)]) (fun q => wdC q.2.2 q.2.1 :: o1 :: L)
            (fun q => q.1 ≤ 35 ∧ CmR w d s r q.2.1 (35 - q.1) ∧ WdOk q.2.2 q.2.1 ∧ q.2.2.wp = G2.wp) (fun q => 35 - q.1) (0, M2, G2) uS (List.Sublist.refl _) ⟨by simp, hcm, hW2, rfl⟩ ?_
          rintro ⟨i, M3, G3⟩ ⟨hi, hcm3, hW3, e3⟩
          simp only at hi hcm3 hW3 e3 ⊢
          have hI3 := hcm3.1.wi
          have hwl3 : M3.l.length ≤ 70 := by
            obtain ⟨-, -, x, -, -, hk⟩ := hcm3
            have : M3.l.length ≤ wt2L M3.l := by
              generalize M3.l = l
              induction l with
              | nil => simp
              | cons f l ih =>
                rw [wt2_cons, List.length_cons]
                have : 1 ≤ wt2 f := by unfold wt2; split <;> omega
                omega
            omega
          have kfl := fun G L hW => HC.shutR (V := fun v c => FrVec v M3.l c) (wflying_calls G M3 L hW (by omega))
          rw [← e3]
          by_cases hnl : M3.l = []
          · have hz3 : M3.l.length = 0 := by rw [hnl]; rfl
            repeat' (first | refine uN ?_ | refine uC (kb) ?_ | (refine uP ?_ ?_ <;> (intro h; ((try simp only [zs, ne_eq, and_true, true_and, eq_self, reduceCtorEq] at h); try exact zx))) | fail)
            all_goals first | (exfalso; omega) | skip
            refine gc (kfl G3 _ hW3) ?_
            rintro v L' ⟨c10, hv10, rfl⟩
            obtain ⟨a10, cap10, rfl, -, hR10⟩ := hv10.rd fc_len
            rw [hz3]
            by_cases hr00 : r = 0
            · have hw2 : wantP r = 2 := by unfold wantP; rw [if_pos hr00]
              repeat' (first | refine uN ?_ | refine uC (kb) ?_ | (refine uP ?_ ?_ <;> (intro h; ((try simp only [zs, ne_eq, and_true, true_and, eq_self, reduceCtorEq] at h); try exact zx))) | fail)
              all_goals first | (exfalso; omega) | skip
              refine ho_sp (ho_sub (key (M3, G3) ⟨⟨_, hcm3⟩, hnl, hW3, e3⟩) ?_) uL
              simp only [hw2, ← e3]
              exact uS
            · have hw2 : wantP r = 3 := by unfold wantP; rw [if_neg hr00]
              repeat' (first | refine uN ?_ | refine uC (kb) ?_ | (refine uP ?_ ?_ <;> (intro h; ((try simp only [zs, ne_eq, and_true, true_and, eq_self, reduceCtorEq] at h); try exact zx))) | fail)
              all_goals first | (exfalso; omega) | skip
              refine ho_sp (ho_sub (key (M3, G3) ⟨⟨_, hcm3⟩, hnl, hW3, e3⟩) ?_) uL
              simp only [hw2, ← e3]
              exact uS
          · have hpos := List.length_pos_iff.2 hnl
            have hk1 := cm_more hcm3 hnl
            have hcm4 := cm_deliver (k := 35 - (i + 1)) hc hr hd hs (by rw [show 35 - (i + 1) + 1 = 35 - i by omega]; exact hcm3) hnl
            have hde := (deliver_wt hI3 hnl).2
            have kd := fun L hG => HC.shut (V := fun u => u = eV T E (deliverW M3 0).2) (wdeliver_calls T E G3 M3 0 L hG hW3 hI3 (by omega))
            rw [hde] at kd
            repeat' (first | refine uN ?_ | refine uC (kb) ?_ | (refine uP ?_ ?_ <;> (intro h; ((try simp only [zs, ne_eq, and_true, true_and, eq_self, reduceCtorEq] at h); try exact zx))) | fail)
            all_goals first | (exfalso; omega) | skip
            refine gc (kfl G3 _ hW3) ?_
            rintro v L' ⟨c10, hv10, rfl⟩
            obtain ⟨a10, cap10, rfl, -, hR10⟩ := hv10.rd fc_len
            repeat' (first | refine uN ?_ | refine uC (kb) ?_ | (refine uP ?_ ?_ <;> (intro h; ((try simp only [zs, ne_eq, and_true, true_and, eq_self, reduceCtorEq] at h); try exact zx))) | fail)
            all_goals first | (exfalso; omega) | skip
            refine fo 1 ?_
            refine gc (kd _ (((hE.er [2, 3, 4, 5, 6]).cons _).cons _)) ?_
            rintro v L' ⟨rfl, G4, e4, hW4, rfl⟩
            rw [← e4]
            repeat' (first | refine uN ?_ | refine uC (kb) ?_ | (refine uP ?_ ?_ <;> (intro h; ((try simp only [zs, ne_eq, and_true, true_and, eq_self, reduceCtorEq] at h); try exact zx))) | fail)
            exact Zc (i + 1, (deliverW M3 0).1, G4) (by simp only [e4, e3]; exact uS) uL ⟨by simp only; omega, hcm4, hW4, by simp only [e4, e3]⟩ (by simp only; omega)
        · rintro ⟨M3, G3⟩ ⟨⟨k3, hcm3⟩, hnl, hW3, e3⟩
          simp only at hcm3 hnl hW3 e3 ⊢
          obtain ⟨hld, hall, hevn, heva⟩ := cm_final hc hr hd hs hcm3 hnl
          have hI3 := hcm3.1.wi
          have hMw : M3.w.length = w.length := by rw [hcm3.1.ww]
          have hz3 : M3.l.length = 0 := by rw [hnl]; rfl
          have hou := outM_all heva (by omega)
          rw [← e3]
          have hsl : (stsW M3 d).length = w.length := by rw [sts_len, hMw]
          have kst := fun L hG => HC.shutR (V := fun v c => ∃ sv, Vec 43 3 sc sv (stsW M3 d) c ∧ v = .tuple ⟨[sv, .bool true]⟩) (states3_calls T E G3 M3 d L hG hW3 hI3 hd)
          simp only [hMw] at kst
          have kle := fun L hG => HC.shutQ (wlead_calls T E G3 M3 s d L hG hW3 hI3)
          rw [hld] at kle
          simp only at kle
          have kfl := fun G L hW => HC.shutR (V := fun v c => FrVec v M3.l c) (wflying_calls G M3 L hW (by omega))
          have kev := fun G L hW => HC.shutR (V := fun v c => Vec 81 3 ec v M3.ev c) (wevents_calls G M3 L hW (by omega))
          refine gc (kst _ ((hE.er [2, 6]).cons _)) ?_
          rintro v L' ⟨cS, ⟨sv, hsv, rfl⟩, rfl⟩
          obtain ⟨as5, cap5, rfl, -, hR5⟩ := hsv.rd sc_len
          simp only [hsl]
          repeat' (first | refine uN ?_ | refine uC (kb) ?_ | (refine uP ?_ ?_ <;> (intro h; ((try simp only [zs, ne_eq, and_true, true_and, eq_self, reduceCtorEq] at h); try exact zx))) | fail)
          refine fo 1 ?_
          refine gc (kle _ (((hE.er [2]).cons _).cons _)) ?_
          rintro v L' ⟨rfl, rfl⟩
          unfold sDone
          repeat' (first | refine uN ?_ | refine uC (kb) ?_ | (refine uP ?_ ?_ <;> (intro h; ((try simp only [zs, ne_eq, and_true, true_and, eq_self, reduceCtorEq] at h); try exact zx))) | fail)
          refine gc (kfl G3 _ hW3) ?_
          rintro v L' ⟨c10, hv10, rfl⟩
          obtain ⟨a10, cap10, rfl, -, hR10⟩ := hv10.rd fc_len
          rw [hz3]
          repeat' (first | refine uN ?_ | refine uC (kb) ?_ | (refine uP ?_ ?_ <;> (intro h; ((try simp only [zs, ne_eq, and_true, true_and, eq_self, reduceCtorEq] at h); try exact zx))) | fail)
          refine hw_sp (L' := cS :: c10 :: wdC G3 M3 :: o1 :: L) ?_ uL
          refine Zf (σ := Nat) (fun q => [(0, .slice a w.length cap), (2, iv d), (10, pt G3.wp 0), (15, iv (wantP r)), (16, .slice as5 w.length cap5), (19, iv q)]) (fun q => cS :: c10 :: wdC G3 M3 :: o1 :: L)
            (fun q => q ≤ w.length) (fun q => w.length - q) 0 uS (List.Sublist.refl _) (by simp) ?_
          rintro q hq6
          by_cases hql2 : q < w.length
          · obtain ⟨b7, i7, l7, E7, fr7, rfl, hb7, hg7⟩ := (hR5 (c10 :: wdC G3 M3 :: o1 :: L)).at (j := (q : Int)) (by omega) (by omega)
            have hsg := sts_get (M := M3) (d := d) (s := q) (by omega)
            have ex7 : (stsW M3 d)[(q : Int).toNat]'(by rw [hsl]; omega) = stW M3 q d := by
              have h9 : q < (stsW M3 d).length := by omega
              rw [List.getElem?_eq_getElem h9] at hsg
              exact Option.some.inj hsg
            rw [ex7] at hg7
            have hpq := hall q hql2
            generalize stW M3 q d = st at *
            obtain ⟨ph, pr, att⟩ := st
            simp only at hpq
            subst hpq
            repeat' (first | refine uN ?_ | refine uC (kb) ?_ | (refine uP ?_ ?_ <;> (intro h; ((try simp only [zs, ne_eq, and_true, true_and, eq_self, reduceCtorEq] at h); try exact zx))) | fail)
            exact Zc (q + 1) uS uL (by omega) (by omega)
          · obtain rfl : q = w.length := by omega
            repeat' (first | refine uN ?_ | refine uC (kb) ?_ | (refine uP ?_ ?_ <;> (intro h; ((try simp only [zs, ne_eq, and_true, true_and, eq_self, reduceCtorEq] at h); try exact zx))) | fail)
            refine fo 2 ?_
            refine gc (kev G3 _ hW3) ?_
            rintro v L' ⟨c12, hv12, rfl⟩
            obtain ⟨a12, cap12, rfl, hcap12, hR12⟩ := hv12.rd ec_len
            have kou := fun L => outcome_calls a12 cap12 (M3.ev.map toEv) d (c12 :: L) (rd_ev (hR12 _)) (by rw [List.length_map]; omega)
            rw [List.length_map, hou] at kou
            repeat' (first | refine uN ?_ | refine uC (kb) ?_ | refine uC (kou _) ?_ | (refine uP ?_ ?_ <;> (intro h; ((try simp only [zs, ne_eq, and_true, true_and, eq_self, reduceCtorEq] at h); try exact zx))) | fail)
            refine fo 1 ?_
            refine gc (kev G3 _ hW3) ?_
            rintro v L' ⟨c13, hv13, rfl⟩
            obtain ⟨a13, cap13, rfl, hcap13, hR13⟩ := hv13.rd ec_len
            rw [hevn]
            repeat' (first | refine uN ?_ | refine uC (kb) ?_ | (refine uP ?_ ?_ <;> (intro h; ((try simp only [zs, ne_eq, and_true, true_and, eq_self, reduceCtorEq] at h); try exact zx))) | fail)
            refine sp1 (L' := L) (v := .bool (decide ((w.length : Int) = (w.length : Int)))) ?_ ⟨by simp, rfl⟩
            repeat (first | exact LS.refl _ | refine LS.c ?_)
    · refine Za (fun _ _ => Tryz.call3 _ _) Tryz.func3 rfl Tryz.ntmps3 (Nat.le_of_ble_eq_true rfl) ?_; simp only [args0, Nat.reduceAdd]
      repeat' (first | refine uN ?_ | refine uC (kb) ?_ | refine uC (kw) ?_ | refine uC (kt) ?_ | (refine uP ?_ ?_ <;> (intro h; ((try simp only [zs, ne_eq, and_true, true_and, eq_self, reduceCtorEq] at h); try exact zx))) | fail)
      all_goals first | exact sp1 (LS.refl _) ⟨rfl, rfl⟩ | (exfalso; exact hok ⟨⟨by omega, by omega⟩, ⟨by omega, by omega⟩, by omega, by omega⟩)
end Go.HL
end
