/- Texts laid into one, without what the claim does not use. Conditions: none. -/
import Derived.Test.YtkookaogdkdegabDoorSDE
import Derived.Conc.Pipeline3
import Derived.Listen
import Derived.RunNT
import Derived.Conc.LeavingOf
/-! QKMi -/
section
namespace Go.HL
set_option linter.unusedSectionVars false
variable [Tasks]
open Go Go.Conc
set_option linter.unusedVariables false
set_option linter.unusedSectionVars false
set_option linter.unusedSimpArgs false
/-- nearer to its end -/
inductive Down : List Rank → List Rank → Prop
  | main {l l' : List Rank} {f : Nat → Goroutine → Heap → Rank} (n : Nat) (g : Goroutine) (L : Heap) : Down (f n g L :: l') (.mk f :: l)
  | work {r : Rank} {l : List Rank} {i : Nat} {f : Nat → Goroutine → Heap → Rank} (n : Nat) (g : Goroutine) (L : Heap) : l[i]? = some (.mk f) → Down (r :: l.set i (f n g L)) (r :: l)
theorem Down.at0 {rs : List Rank} {f : Nat → Goroutine → Heap → Rank} (h : rs[0]? = some (.mk f)) (n : Nat) (g : Goroutine) (L : Heap) (l' : List Rank) : Down (f n g L :: l') rs := by
  cases rs with
  | nil => simp at h
  | cons a l => simp at h; subst h; exact .main n g L
theorem Down.set {rs : List Rank} {j : Nat} {f : Nat → Goroutine → Heap → Rank} (h : rs[j]? = some (.mk f)) (n : Nat) (g : Goroutine) (L : Heap) : Down (rs.set j (f n g L)) rs := by
  cases rs with
  | nil => simp at h
  | cons a l =>
    cases j with
    | zero => simp at h; subst h; exact .main n g L
    | succ i => exact .work n g L (by simpa using h)
theorem offers_mem {g : Goroutine} {cs : Array CommCase} {sh : CommShape} {r k : Nat} {snd : Bool} : k ∈ offersAt (parked g cs sh) r snd ↔ ∃ cc, cs[k]? = some cc ∧ cc.send.isSome = snd ∧ cc.chan = .chan (some r) := by
  simp only [offersAt, parked, List.mem_map, List.mem_filter, Prod.exists, exists_eq_right, Bool.and_eq_true, beq_iff_eq]
  constructor
  · rintro ⟨cc, hm, h1, h2⟩
    have := Array.mem_zipIdx_iff_getElem?.1 (Array.mem_toList_iff.1 hm)
    refine ⟨cc, by simpa using this, h1, ?_⟩
    split at h2
    · rename_i h; rw [h]; simp at h2; rw [h2]
    · cases h2
  · rintro ⟨cc, hm, h1, h2⟩
    exact ⟨cc, Array.mem_toList_iff.2 (Array.mem_zipIdx_iff_getElem?.2 (by simpa using hm)), h1, by simp [h2]⟩
theorem offers_blocked {g : Goroutine} {r k : Nat} {snd : Bool} (h : k ∈ offersAt g r snd) : g.status = .blocked := by
  apply Classical.byContradiction
  intro hs
  rw [offersAt_of_not_blocked hs] at h
  cases h
section
variable {P : Program} {Φ : Goroutine → Heap → Prop} {k : Ctx} {γ : Gm} {rs : List Rank} {H : List Gh} {L0 : Heap} {tm : Tk} {ws : List Gh} {gs : Array Goroutine} {w : World} {t : Trace} {sl : Option (Nat × Nat)} {j : Nat}
theorem Iv.got (iv : Iv P Φ k γ rs H L0 tm ws gs w t) {i : Nat} {g : Goroutine} (hg : gs[i]? = some g) : ∃ h r, H[i]? = some h ∧ rs[i]? = some r ∧ StG P Φ γ r g h := by
  have hlt : i < H.length := by rw [← iv.gsz]; exact (Array.getElem?_eq_some_iff.1 hg).1
  have h1 := List.getElem?_eq_getElem hlt
  have h2 := List.getElem?_eq_getElem (show i < rs.length by rw [iv.rsz]; exact hlt)
  exact ⟨_, _, h1, h2, iv.st i _ _ g h1 h2 hg⟩
/-- who is blocked, and is not the starter -/
theorem Iv.blockedW (iv : Iv P Φ k γ rs H L0 tm ws gs w t) {i : Nat} {g : Goroutine} (hi : i ≠ 0) (hg : gs[i]? = some g) (hb : g.status = .blocked) :
    ∃ n L tk f g1 cases shape, i = n + 1 ∧ H[i]? = some (.live L tk) ∧ rs[i]? = some (.mk f) ∧ g = parked g1 cases shape ∧ g1.status = .running ∧ CmL (fun m g' L' => Rk P Φ (f (cond m 0 1) g' L') m g' L') false g1 L cases shape := by
  obtain ⟨h, r, h1, h2, h3⟩ := iv.got hg
  cases h with
  | main L tk => exact absurd (iv.isMain h1).1 hi
  | live L tk =>
    rcases h3 with ⟨a, _⟩ | ⟨_, f, g1, cs, sh, rfl, rfl, a, _, b⟩
    · rw [a] at hb; cases hb
    · obtain ⟨n, rfl⟩ := Nat.exists_eq_succ_of_ne_zero hi
      exact ⟨n, L, tk, f, g1, cs, sh, rfl, h1, h2, rfl, a, b⟩
  | tail tk =>
    have := TlR.status h3
    rw [hb] at this
    rcases this with a | a <;> cases a
  | gone tk d =>
    obtain ⟨_, n, _, hq⟩ := h3
    have := hq.status
    rw [hb] at this
    rcases this with a | a <;> cases a
theorem Iv.blockedM (iv : Iv P Φ k γ rs H L0 tm ws gs w t) {g : Goroutine} (hg : gs[0]? = some g) (hb : g.status = .blocked) :
    (∃ f g1 cases shape, rs[0]? = some (.mk f) ∧ g = parked g1 cases shape ∧ g1.status = .running ∧ CmL (fun m g' L' => Rk P Φ (f (cond m 0 1) g' L') m g' L') true g1 L0 cases shape) ∨ tm.st = 9 ∧ γ.sem = 0 ∧ ∃ g0 : Goroutine, g = { g0 with status := .blocked } ∧ g0.offers = none := by
  obtain ⟨h, r, h1, h2, h3⟩ := iv.got hg
  rw [iv.main0] at h1
  cases h1
  rcases h3 with ⟨a, _⟩ | ⟨_, f, g1, cs, sh, rfl, rfl, a, _, b⟩ | ⟨a, b, g0, c, _, d, _⟩
  · rw [a] at hb; cases hb
  · exact .inl ⟨f, g1, cs, sh, h2, rfl, a, b⟩
  · exact .inr ⟨a, b, g0, c, d⟩
/-- the record alone is set anew -/
theorem Iv.setG (iv : Iv P Φ k γ rs H L0 tm ws gs w t) {h : Gh} {r : Rank} {g' : Goroutine} (hj : H[j]? = some h) (hr : rs[j]? = some r) (hst : StG P Φ γ r g' h)
    (nm : ∀ g, (gs.setIfInBounds j g')[0]? = some g → g.status = .blocked → tm.st = 0 → ∀ (i : Nat) gi, i ≠ 0 → (gs.setIfInBounds j g')[i]? = some gi → gi.status = .blocked → tm.a = tm.many ∧ ∃ h, H[i]? = some h ∧ h.tk.st = 20) :
    Iv P Φ k γ rs H L0 tm ws (gs.setIfInBounds j g') w t := by
  refine ⟨iv.hd, iv.nl, by simp [iv.gsz], iv.rsz, fun i x y o hi hr' ho => ?_, iv.sat0, iv.sat, iv.tok, iv.dis, iv.sh, iv.shB, iv.toks, iv.ti, iv.deaf, iv.ho, iv.ok, nm, iv.old⟩
  by_cases e : i = j
  · subst e
    have hlt := (List.getElem?_eq_some_iff.1 hj).1
    rw [Array.getElem?_setIfInBounds_self_of_lt (by rw [iv.gsz]; exact hlt)] at ho
    cases ho
    rw [hj] at hi; cases hi
    rw [hr] at hr'; cases hr'
    exact hst
  · rw [Array.getElem?_setIfInBounds_ne (fun q => e q.symm)] at ho
    exact iv.st i x y o hi hr' ho
theorem Iv.at (iv : Iv P Φ k γ rs H L0 tm ws gs w t) (d : Nat) : Iv P Φ k γ rs H L0 tm ws gs (w.at d) t := by
  have sat : ∀ L, Sat k w L → Sat k (w.at d) L := fun L h => ⟨h.os, h.out, h.tape, h.has, h.nodup, h.nv, h.lt⟩
  exact ⟨iv.hd, iv.nl, iv.gsz, iv.rsz, iv.st, sat _ iv.sat0, fun j h hj => sat _ (iv.sat j h hj), iv.tok, iv.dis, fun a => ⟨(iv.sh a).todo, (iv.sh a).back, (iv.sh a).wg, (iv.sh a).apart⟩, iv.shB, iv.toks, iv.ti, iv.deaf, iv.ho, iv.ok, iv.nm, ⟨iv.old.same, iv.old.own, iv.old.sh, iv.old.lt⟩⟩
/-- it finds the channel closed -/
theorem Iv.shutStep (iv : Iv P Φ k γ rs H L0 tm ws gs w t) {L : Heap} {tk : Tk} {f : Nat → Goroutine → Heap → Rank} {g g' : Goroutine} {u : Trace} (hj : H[j]? = some (.live L tk)) (hr : rs[j]? = some (.mk f)) (hg : gs[j]? = some g) (h20 : tk.st = 20) (hcl : γ.closed = true) (hat : tk.at_ ∈ L.flatten) (hrun : g'.status = .running)
    (hu : ∀ op ∈ u, NoMk op ∧ op.g < H.length) (hk : ∀ L', Upd L tk.todo tk.obj ({ tk with st := 22 } : Tk).obj L' → Rk P Φ (f 1 g' L') false g' L') :
    ∃ L' ws', Iv P Φ k γ (rs.set j (f 1 g' L')) (H.set j (.live L' { tk with st := 22 })) L0 tm ws' (gs.setIfInBounds j g') w (t ++ u) := by
  obtain ⟨L', hU⟩ := upd_ex hat ({ tk with st := 22 } : Tk).obj
  obtain ⟨i, rfl, hH, hi4, hmap⟩ := iv.put (h' := .live L' { tk with st := 22 }) hj (fun L t e => by cases e)
  have hs : Sat k w L := iv.sat _ _ hj
  have htk := hU.gtok (t := tk) (t' := { tk with st := 22 }) rfl (iv.tok _ _ hj) hs.nodup
  have hlt := (List.getElem?_eq_some_iff.1 hj).1
  have hmute : ∀ op ∈ u, op.act.touch? = none := fun op ho => (hu op ho).1.1
  have hne : tm.st ≠ 0 := by
    intro e
    rcases iv.toks.ph with ⟨_, a, _⟩ | ⟨a, _⟩ | ⟨a, _⟩ | ⟨a, _⟩ | ⟨a, _⟩
    · rw [a] at hcl; cases hcl
    · omega
    · omega
    · omega
    · omega
  refine ⟨L', _, hH, ?_, by simp [iv.gsz], by simp [iv.rsz], ?_, iv.sat0, ?_, ?_, ?_, iv.sh, ?_, by rw [hmap]; exact iv.toks.shut hcl hi4 h20, ?_, ?_, ?_, ?_, fun g _ _ e => absurd e hne, ⟨iv.old.same, fun n x b hn hwx ho => ?_, iv.old.sh, iv.old.lt⟩⟩
  · intro x hx L t' e
    rcases List.mem_or_eq_of_mem_set hx with hx | rfl
    · exact iv.nl x hx L t' e
    · cases e
  · intro n x y o hn hr' ho
    rcases Zb hn with ⟨rfl, rfl⟩ | ⟨a, b⟩
    · rcases Zb hr' with ⟨_, rfl⟩ | ⟨a, _⟩
      · rw [Array.getElem?_setIfInBounds_self_of_lt (by rw [iv.gsz]; exact hlt)] at ho
        cases ho
        exact .inl ⟨hrun, hk L' hU⟩
      · exact absurd rfl a
    · rw [Array.getElem?_setIfInBounds_ne (fun q => a q.symm)] at ho
      exact iv.st n x y o b ((Zb hr').resolve_left (fun q => a q.1)).2 ho
  · intro n x hn
    rcases Zb hn with ⟨rfl, rfl⟩ | ⟨a, b⟩
    · exact hU.sat rfl rfl rfl hs
    · exact iv.sat n x b
  · intro n x hn
    rcases Zb hn with ⟨rfl, rfl⟩ | ⟨a, b⟩
    · exact htk.2
    · exact iv.tok n x b
  · intro n n' x y z hnn hx hy hwz hbz
    rcases Zb hx with ⟨rfl, rfl⟩ | ⟨_, b⟩
    · exact iv.dis _ n' _ y z hnn hj ((Zb hy).resolve_left (fun q => hnn q.1.symm)).2 ((hU.gW rfl rfl z).1 hwz) hbz
    · rcases Zb hy with ⟨rfl, rfl⟩ | ⟨_, c⟩
      · exact iv.dis n _ x _ z hnn b hj hwz ((hU.gB rfl rfl z).1 hbz)
      · exact iv.dis n n' x y z hnn b c hwz hbz
  · intro h12 n x b hn hsb hb
    rcases Zb hn with ⟨rfl, rfl⟩ | ⟨_, c⟩
    · exact iv.shB h12 _ _ b hj hsb ((hU.gB rfl rfl b).1 hb)
    · exact iv.shB h12 n x b c hsb hb
  · have hlen : (H.set (i + 1) (Gh.live L' { tk with st := 22 })).length = H.length := by simp
    rw [hlen]
    obtain ⟨hl1, hl2⟩ := LfH_set (h' := Gh.live L' { tk with st := 22 }) hj
    refine iv.ti.mute (Nat.le_refl _) (fun op ho => ⟨hmute op ho, (hu op ho).2, fun a => (hu op ho).1.2 _⟩) (fun n b hb => ?_) (fun n b hb => ?_) (fun n b hp hsb => ?_)
    · by_cases e : n = i + 1
      · subst e; rw [hl1] at hb
        exact (iv.ti.own _ b (by rw [LfH_at hj]; exact (hU.gW rfl rfl b).1 hb)).mute hmute
      · rw [hl2 n e] at hb; exact (iv.ti.own n b hb).mute hmute
    · by_cases e : n = i + 1
      · subst e; rw [hl1] at hb
        exact (iv.ti.rd _ b (by rw [LfH_at hj]; exact (hU.gB rfl rfl b).1 hb)).mute hmute
      · rw [hl2 n e] at hb; exact (iv.ti.rd n b hb).mute hmute
    · obtain ⟨x, hx, hp⟩ := hp
      refine (iv.ti.shp n b ?_ hsb).mute hmute
      rcases Zb hx with ⟨rfl, rfl⟩ | ⟨_, c⟩
      · exact ⟨_, hj, by show tk.st ≠ 25; omega⟩
      · exact ⟨x, c, hp⟩
  · intro n x hn
    rw [Deaf_nomk t n u fun op ho => (hu op ho).1]
    rcases Zb hn with ⟨rfl, rfl⟩ | ⟨_, c⟩
    · exact (show Deaf t (i + 1) = 0 from iv.deaf _ (.live L tk) hj)
    · exact iv.deaf n x c
  · intro n x hn hx
    rcases Zb hn with ⟨rfl, rfl⟩ | ⟨_, c⟩
    · cases hx
    · refine late_stays (iv.ho n x c hx) rfl (fun a => a) fun m hm hgm => ?_
      obtain ⟨op, q1, q2, _⟩ := new_op hm hgm
      exact not_counts_mute q2 (hmute op q1)
  · intro n x hn
    rcases Zb hn with ⟨rfl, rfl⟩ | ⟨_, c⟩
    · show 20 ≤ 22 ∧ 22 ≤ 22; omega
    · exact iv.ok n x c
  · rcases Zb hn with ⟨rfl, rfl⟩ | ⟨_, c⟩
    · exact iv.old.own _ _ b hj ((hU.gW rfl rfl b).1 hwx) ho
    · exact iv.old.own n x b c hwx ho
end
end Go.HL
end

/-! QKMj -/
section
namespace Go.HL
set_option linter.unusedSectionVars false
variable [Tasks]
open Go Go.Conc
set_option linter.unusedVariables false
set_option linter.unusedSectionVars false
set_option linter.unusedSimpArgs false
theorem stand_other {gs : Array Goroutine} {i j : Nat} {x : Goroutine} (h : (gs.setIfInBounds j ph)[i]? = some x) (hb : x.status = .blocked) : i ≠ j ∧ gs[i]? = some x := by
  rcases getElem?_stand gs j i x h with ⟨rfl, rfl⟩ | ⟨a, b⟩
  · cases hb
  · exact ⟨a, b⟩
section
variable {P : Program} {Φ : Goroutine → Heap → Prop} {k : Ctx} {γ : Gm} {rs : List Rank} {H : List Gh} {L0 : Heap} {tm : Tk} {ws : List Gh} {gs : Array Goroutine} {w : World} {t : Trace} {sl : Option (Nat × Nat)} {j : Nat}
/-- a starter's select, taken apart -/
theorem cm_select {X : Bool → Goroutine → Heap → Prop} {g : Goroutine} {L : Heap} {cases : Array CommCase} {shape : CommShape} (h : CmL X true g L cases shape) : ∃ (t : Tk) (c0 : CommCase) (z : Value), cases = #[c0, rcase t.back z] ∧ shape = .select ∧ t.st = 0 ∧ t.at_ ∈ L.flatten ∧ t.b < t.many ∧ 1 ≤ t.n ∧
    (c0 = (if t.a = t.many then { chan := .chan none, send := some (.int .i64 (t.a : Nat)), zero := .int .i64 0 } else scase t.todo (.int .i64 (t.a : Nat)) (.int .i64 0))) ∧
    (t.a < t.many → ∀ L', Upd L t.todo t.obj ({ t with a := t.a + 1, l := t.a :: t.l } : Tk).obj L' → X true (Conc.served g (.tuple #[goInt 0, .bool false, z])) L') ∧
    (∀ i v bl L', i ∈ t.l → Tasks.R t.tag i v bl → Upd L t.todo t.obj ({ t with b := t.b + 1, l := t.l.erase i } : Tk).obj L' → X true (Conc.served g (.tuple #[goInt 1, .bool true, v])) (bl :: L')) := by
  cases h with
  | select t c0 z a b c d e f g => exact ⟨t, c0, z, rfl, rfl, a, b, c, d, e, f, g⟩
theorem cm_work {X : Bool → Goroutine → Heap → Prop} {g : Goroutine} {L : Heap} {cases : Array CommCase} {shape : CommShape} (h : CmL X false g L cases shape) : (∃ (t : Tk) (z : Value), cases = #[rcase t.todo z] ∧ shape = .recv true ∧ t.st = 20 ∧ t.at_ ∈ L.flatten ∧
      (∀ i L', t.b ≤ i → i < t.many → Upd L t.todo t.obj ({ t with st := 21, a := i, b := i + 1 } : Tk).obj L' → X false (Conc.served g (.tuple #[.int .i64 (i : Nat), .bool true])) L') ∧
      (∀ L', Upd L t.todo t.obj ({ t with st := 22 } : Tk).obj L' → X false (Conc.served g (.tuple #[z, .bool false])) L')) ∨
    ∃ (t : Tk) (v z : Value) (bl : List Blk) (L1 L' : Heap), cases = #[scase t.back v z] ∧ shape = .send ∧ t.st = 21 ∧ Upd L t.todo t.obj ({ t with st := 20 } : Tk).obj L1 ∧ LS (bl ++ L'.flatten) L1.flatten ∧ (∀ p ∈ bl, pln p.2 = true) ∧ Tasks.R t.tag t.a v bl ∧ X false (Conc.served g undef) L' := by
  cases h with
  | recv t z a b c d => exact .inl ⟨t, z, rfl, rfl, a, b, c, d⟩
  | send t v z bl a b c d e f => exact .inr ⟨t, v, z, bl, _, _, rfl, rfl, a, b, c, d, e, f⟩
theorem select_served (P : Program) (g : Goroutine) (c0 : CommCase) (c : Nat) (z v : Value) (hc : c0.send.isSome = true) : g.finishComm P #[c0, rcase c z] .select 0 undef false = Conc.served g (.tuple #[goInt 0, .bool false, z]) ∧ g.finishComm P #[c0, rcase c z] .select 1 v true = Conc.served g (.tuple #[goInt 1, .bool true, v]) := by
  have hn : c0.send.isNone = false := by cases h : c0.send <;> simp_all
  constructor <;> simp [Goroutine.finishComm, commResult, Conc.served, hn, rcase]
/-- a channel's counts turn -/
theorem chan_cnt {γ : Gm} {w : World} (h : Shr γ w) {c s d : Nat} {closed : Bool} (hc : c = γ.todo ∧ closed = γ.closed ∨ c = γ.back ∧ closed = false) : Cnt γ w ((w.at d).setChan c 0 #[] closed (s + 1) (s + 1) false) ∧ Shr γ ((w.at d).setChan c 0 #[] closed (s + 1) (s + 1) false) := by
  have hlt : c < w.heap.size := by rcases hc with ⟨rfl, _⟩ | ⟨rfl, _⟩; exact h.lt (.inl rfl); exact h.lt (.inr (.inl rfl))
  have hat : ((w.at d).setChan c 0 #[] closed (s + 1) (s + 1) false).heap[c]? = some (.chan 0 #[] closed (s + 1) (s + 1) false) := by
    show (w.heap.setIfInBounds c _)[c]? = _
    rw [Array.getElem?_setIfInBounds_self_of_lt hlt]
  have hne : ∀ b, b ≠ c → ((w.at d).setChan c 0 #[] closed (s + 1) (s + 1) false).heap[b]? = w.heap[b]? := fun b hb => by
    show (w.heap.setIfInBounds c _)[b]? = _
    rw [Array.getElem?_setIfInBounds_ne (fun q => hb q.symm)]
  refine ⟨⟨by show (w.heap.setIfInBounds c _).size = _; simp, rfl, rfl, rfl, fun b hb => hne b fun e => hb ?_⟩, ?_⟩
  · rcases hc with ⟨rfl, _⟩ | ⟨rfl, _⟩
    · exact .inl e
    · exact .inr (.inl e)
  · obtain ⟨⟨a, h1⟩, ⟨b, h2⟩, h3, h4, h5, h6⟩ := h
    rcases hc with ⟨rfl, rfl⟩ | ⟨rfl, rfl⟩
    · exact ⟨⟨s + 1, hat⟩, ⟨b, by rw [hne _ h4.symm]; exact h2⟩, by rw [hne _ h5.symm]; exact h3, h4, h5, h6⟩
    · exact ⟨⟨a, by rw [hne _ h4]; exact h1⟩, ⟨s + 1, hat⟩, by rw [hne _ h6.symm]; exact h3, h4, h5, h6⟩
theorem meet_nomk {a b c s n : Nat} {fa fb : FuncId} {pa pb : String} {snd : Bool} (ha : a < n) (hb : b < n) : ∀ op ∈ meetOps (fun x => { g := a, fn := fa, pos := pa, act := x }) (fun x => { g := b, fn := fb, pos := pb, act := x }) c s snd, NoMk op ∧ op.g < n := by
  intro op ho
  unfold meetOps at ho
  split at ho <;> simp only [List.mem_toArray, List.mem_cons, List.not_mem_nil, or_false] at ho <;> rcases ho with rfl | rfl | rfl | rfl <;> exact ⟨⟨rfl, fun m e => by cases e⟩, by assumption⟩
/-- who takes a value knows what its giver knew -/
theorem meet_knows {t : Trace} {a b c s n : Nat} {fa fb : FuncId} {pa pb : String} {snd : Bool} (ha : a < n) (hb : b < n) (h1 : Deaf t a = 0) (h2 : Deaf t b = 0) {i : Nat} (hk : Knows t (if snd then a else b) i) :
    Knows (t ++ meetOps (fun x => { g := a, fn := fa, pos := pa, act := x }) (fun x => { g := b, fn := fb, pos := pb, act := x }) c s snd) (if snd then b else a) i := by
  have hno := meet_nomk (c := c) (s := s) (fa := fa) (fb := fb) (pa := pa) (pb := pb) (snd := snd) ha hb
  generalize hu : meetOps (fun x => ({ g := a, fn := fa, pos := pa, act := x } : MemOp)) (fun x => { g := b, fn := fb, pos := pb, act := x }) c s snd = u at *
  have hl : u.toList.length = 4 := by subst hu; unfold meetOps; split <;> rfl
  have dd : ∀ m, m ≤ 4 → ∀ x, (t ++ u).deaf x (t.size + m) = Deaf t x := fun m hm x => by
    have := deaf_nomk t x u.toList (fun op ho => (hno op (by simpa using ho)).1) (m := m) (by omega)
    simpa using this
  have hget : ∀ m (hm : m < 4), (t ++ u)[t.size + m]? = u[m]? := fun m hm => by rw [Array.getElem?_append_right (by omega)]; congr 1; omega
  cases snd with
  | true =>
    simp only [if_true] at hk ⊢
    have e0 : (t ++ u)[t.size + 0]? = some { g := a, fn := fa, pos := pa, act := .send c s } := by rw [hget 0 (by omega)]; subst hu; rfl
    have e3 : (t ++ u)[t.size + 3]? = some { g := b, fn := fb, pos := pb, act := .recvDone c s } := by rw [hget 3 (by omega)]; subst hu; rfl
    exact hand_knows (by omega) e0 rfl rfl e3 rfl rfl ⟨a, by unfold Trace.g?; rw [e0]; rfl, by rw [dd 0 (by omega)]; exact h1⟩ ⟨b, by unfold Trace.g?; rw [e3]; rfl, by rw [dd 3 (by omega)]; exact h2⟩ hk
  | false =>
    simp only [Bool.false_eq_true, if_false] at hk ⊢
    have e0 : (t ++ u)[t.size + 0]? = some { g := b, fn := fb, pos := pb, act := .send c s } := by rw [hget 0 (by omega)]; subst hu; rfl
    have e3 : (t ++ u)[t.size + 3]? = some { g := a, fn := fa, pos := pa, act := .recvDone c s } := by rw [hget 3 (by omega)]; subst hu; rfl
    exact hand_knows (by omega) e0 rfl rfl e3 rfl rfl ⟨b, by unfold Trace.g?; rw [e0]; rfl, by rw [dd 0 (by omega)]; exact h2⟩ ⟨a, by unfold Trace.g?; rw [e3]; rfl, by rw [dd 3 (by omega)]; exact h1⟩ hk
/-- what comes of it -/
def Came (P : Program) (Φ : Goroutine → Heap → Prop) (k : Ctx) (rs : List Rank) (gs : Array Goroutine) (w : World) (t : Trace) (sl : Option (Nat × Nat)) (j : Nat) : Prop :=
  (∃ (γ : Gm) (H : List Gh) (L0 : Heap) (tm : Tk) (ws : List Gh) (g' : Goroutine), runT P (crowd gs w sl) j = (.next (crowd (gs.setIfInBounds j g') w sl), #[]) ∧ g'.status = .blocked ∧ Iv P Φ k γ rs H L0 tm ws (gs.setIfInBounds j g') w t) ∨
  ∃ γ' rs' H' L0' tm' ws' gs' w' ops, runT P (crowd gs w sl) j = (.next (crowd gs' w' sl), ops) ∧ Down rs' rs ∧ Iv P Φ k γ' rs' H' L0' tm' ws' gs' w' (t ++ ops)
theorem Down.meet {rs : List Rank} {i : Nat} {f : Nat → Goroutine → Heap → Rank} (h : rs[0]? = some (.mk f)) (n : Nat) (g : Goroutine) (L : Heap) (y : Rank) : Down ((rs.set 0 (f n g L)).set (i + 1) y) rs := by
  cases rs with
  | nil => simp at h
  | cons a l => simp at h; subst h; exact .main n g L
/-- it parks -/
theorem Iv.parkStep (iv : Iv P Φ k γ rs H L0 tm ws gs w t) {main : Bool} {L : Heap} {tk : Tk} {f : Nat → Goroutine → Heap → Rank} {g0 : Goroutine} {cases : Array CommCase} {shape : CommShape} (hj : H[j]? = some (gh main L tk)) (hr : rs[j]? = some (.mk f)) (hr0 : g0.status = .running) (hcl : γ.closed = false)
    (hst : ∀ k w, Sat k w L → stepG P main g0 w = .comm g0 cases true shape w #[]) (hcm : CmL (fun m g' L' => Rk P Φ (f (cond m 0 1) g' L') m g' L') main g0 L cases shape)
    (nm : ∀ g, (gs.setIfInBounds j (parked g0 cases shape))[0]? = some g → g.status = .blocked → tm.st = 0 → ∀ (i : Nat) gi, i ≠ 0 → (gs.setIfInBounds j (parked g0 cases shape))[i]? = some gi → gi.status = .blocked → tm.a = tm.many ∧ ∃ h, H[i]? = some h ∧ h.tk.st = 20) :
    Iv P Φ k γ rs H L0 tm ws (gs.setIfInBounds j (parked g0 cases shape)) w t := by
  refine iv.setG hj hr ?_ nm
  cases main with
  | true => exact .inr (.inl ⟨hcl, f, g0, cases, shape, rfl, rfl, hr0, hst, hcm⟩)
  | false => exact .inr ⟨hcl, f, g0, cases, shape, rfl, rfl, hr0, hst, hcm⟩
theorem set_blocked {i : Nat} {g' x : Goroutine} (h : (gs.setIfInBounds j g')[i]? = some x) : (i = j ∧ x = g') ∨ (i ≠ j ∧ gs[i]? = some x) := by
  by_cases e : i = j
  · subst e
    by_cases hlt : i < gs.size
    · rw [Array.getElem?_setIfInBounds_self_of_lt hlt] at h; cases h; exact .inl ⟨rfl, rfl⟩
    · rw [Array.getElem?_eq_none (by simpa using hlt)] at h; cases h
  · rw [Array.getElem?_setIfInBounds_ne (fun q => e q.symm)] at h
    exact .inr ⟨e, h⟩
theorem ways_recv {w : World} {st : Array Goroutine} {c s : Nat} {closed : Bool} {z : Value} (hc : w.heap[c]? = some (.chan 0 #[] closed s s false)) (h : ways w st (rcase c z) = []) : closed = false ∧ partners st c true = [] := by
  simp only [ways, rcase, hc, List.size_toArray, List.length_nil, gt_iff_lt, Nat.lt_irrefl, if_false] at h
  cases hp : partners st c true with
  | nil => rw [hp] at h; cases closed <;> simp_all
  | cons p ps => rw [hp] at h; simp at h
theorem ways_send {w : World} {st : Array Goroutine} {c s : Nat} {v z : Value} (hc : w.heap[c]? = some (.chan 0 #[] false s s false)) (h : ways w st (scase c v z) = []) : partners st c false = [] := by
  simp only [ways, scase, hc, Bool.false_eq_true, if_false] at h
  cases hp : partners st c false with
  | nil => rfl
  | cons p ps => rw [hp] at h; simp at h
theorem no_partner {st : Array Goroutine} {c i n : Nat} {snd : Bool} {x : Goroutine} (h : partners st c snd = []) (hx : st[i]? = some x) (ho : n ∈ offersAt x c snd) : False := by
  have : (i, n) ∈ partners st c snd := mem_partners.2 ⟨x, hx, ho⟩
  rw [h] at this; cases this
end
end Go.HL
end

/-! QKMk -/
section
namespace Go.HL
set_option linter.unusedSectionVars false
variable [Tasks]
open Go Go.Conc
set_option linter.unusedVariables false
set_option linter.unusedSectionVars false
set_option linter.unusedSimpArgs false
theorem gs3 {gs : Array Goroutine} {a b : Nat} {x y : Goroutine} (hab : a ≠ b) (ha : a < gs.size) (hb : b < gs.size) : (((gs.setIfInBounds a ph).setIfInBounds b y).setIfInBounds a x)[a]? = some x ∧ (((gs.setIfInBounds a ph).setIfInBounds b y).setIfInBounds a x)[b]? = some y ∧
    (∀ n, n ≠ a → n ≠ b → (((gs.setIfInBounds a ph).setIfInBounds b y).setIfInBounds a x)[n]? = gs[n]?) ∧ (((gs.setIfInBounds a ph).setIfInBounds b y).setIfInBounds a x).size = gs.size := by
  refine ⟨Array.getElem?_setIfInBounds_self_of_lt (by simpa using ha), ?_, fun n h1 h2 => ?_, by simp⟩
  · rw [Array.getElem?_setIfInBounds_ne hab, Array.getElem?_setIfInBounds_self_of_lt (by simpa using hb)]
  · rw [Array.getElem?_setIfInBounds_ne (fun q => h1 q.symm), Array.getElem?_setIfInBounds_ne (fun q => h2 q.symm), Array.getElem?_setIfInBounds_ne (fun q => h1 q.symm)]
theorem Toks.open0 {γ : Gm} {tm : Tk} {ts : List Tk} (h : Toks γ tm ts) (h0 : tm.st = 0) : γ.closed = false ∧ tm.a ≤ tm.many ∧ tm.a = tm.b + tm.l.length ∧ List.Perm (busy ts) tm.l ∧ ts.countP up20 = tm.n ∧ ∀ t ∈ ts, t.st = 20 ∨ t.st = 21 ∨ t.st = 25 := by
  rcases h.ph with ⟨_, a, _, _, d, e, _, g1, g2, g3⟩ | ⟨a, _⟩ | ⟨a, _⟩ | ⟨a, _⟩ | ⟨a, _⟩ <;> (try (exfalso; omega))
  exact ⟨a, g3.1, g2, g1, e, d⟩
theorem Toks.open21 {γ : Gm} {tm : Tk} {ts : List Tk} (h : Toks γ tm ts) {t : Tk} (ht : t ∈ ts) (h21 : t.st = 21) : γ.closed = false := by
  rcases h.ph with ⟨_, a, _⟩ | ⟨_, _, _, _, d, _⟩ | ⟨_, _, d, _⟩ | ⟨_, _, _, _, _, d⟩ | ⟨_, d⟩
  · exact a
  · have := d t ht; omega
  · exact absurd h21 (d t ht)
  · have := d t ht; omega
  · have := d t ht; omega
theorem offers_none {g : Goroutine} {r n : Nat} {snd : Bool} (h : n ∈ offersAt { g with status := .blocked } r snd) (ho : g.offers = none) : False := by
  simp [offersAt, ho] at h
section
variable {P : Program} {Φ : Goroutine → Heap → Prop} {k : Ctx} {γ : Gm} {rs : List Rank} {H : List Gh} {L0 : Heap} {tm : Tk} {ws : List Gh} {gs : Array Goroutine} {w : World} {t : Trace} {sl : Option (Nat × Nat)} {j : Nat}
theorem Iv.tkOf (iv : Iv P Φ k γ rs H L0 tm ws gs w t) {h : Gh} {t2 : Tk} (hj : H[j]? = some h) (ha : t2.at_ ∈ h.L.flatten) : t2 = h.tk := Tk.inj (iv.tok j h hj _ ha rfl)
theorem Iv.commWork (iv : Iv P Φ k γ rs H L0 tm ws gs w t) {L : Heap} {tk : Tk} {f : Nat → Goroutine → Heap → Rank} {g g0 : Goroutine} {cases : Array CommCase} {shape : CommShape} (hj : H[j]? = some (.live L tk)) (hr : rs[j]? = some (.mk f)) (hg : gs[j]? = some g) (hr0 : g0.status = .running)
    (hst : ∀ k w, Sat k w L → stepG P false g w = .comm g0 cases true shape w #[]) (hst0 : ∀ k w, Sat k w L → stepG P false g0 w = .comm g0 cases true shape w #[]) (hcm : CmL (fun m g' L' => Rk P Φ (f (cond m 0 1) g' L') m g' L') false g0 L cases shape) : Came P Φ k rs gs w t sl j := by
  obtain ⟨i, rfl, hwi, _, hmem, hi4⟩ := iv.isWork hj (fun L t e => by cases e)
  have hmem : tk ∈ ws.map Gh.tk := hmem
  have hok : 20 ≤ tk.st ∧ tk.st ≤ 22 := iv.ok _ _ hj
  have h12 : tm.st ≠ 12 := iv.toks.up hmem (by omega)
  have hcmp := iv.toks.cmpW hmem (by omega)
  have hshr := iv.sh h12
  obtain ⟨⟨s1, e1⟩, ⟨s2, e2⟩, _, hap⟩ := iv.sh h12
  have hs : Sat k w L := iv.sat _ _ hj
  have hlen : gs.size = H.length := iv.gsz
  have hlt : i + 1 < H.length := (List.getElem?_eq_some_iff.1 hj).1
  have hl0 : 0 < H.length := by omega
  have hstep : stepG P (i + 1 == 0) g w = .comm g0 cases true shape w #[] := hst k w hs
  have hcm0 := hcm
  have ne : (i + 1) ≠ 0 := by omega
  rcases cm_work hcm with ⟨t2, z, rfl, rfl, h20, hat, n1, n2⟩ | ⟨t2, v, z, bl, L1, L', rfl, rfl, h21, hU, hls, hbl, hR, hX⟩
  · obtain rfl : t2 = tk := iv.tkOf hj hat
    have hch : (rcase t2.todo z).chan = .chan (some t2.todo) := rfl
    have etd : w.heap[t2.todo]? = some (.chan 0 #[] γ.closed s1 s1 false) := by rw [hcmp.1]; exact e1
    have hunb : ∀ cc ∈ #[rcase t2.todo z], Unb w cc := fun cc hc => by
      simp at hc; subst hc
      exact .inr ⟨_, s1, γ.closed, rfl, etd, fun h => by cases h⟩
    rcases crowd_any (sl := sl) hg hstep hunb with ⟨hw, hrt⟩ | ⟨kk, cc, c, s, d, hk, hsn, hch2, hh, hp, hrt⟩ | ⟨kk, cc, c, s, closed, i', ki, d, v, v', ok, hk, hch2, hh, hp, hv, hrt⟩
    · obtain ⟨hcl, hp⟩ := ways_recv etd (hw (rcase t2.todo z) (by simp))
      refine .inl ⟨γ, H, L0, tm, ws, _, hrt, rfl, iv.parkStep (main := false) hj hr hr0 hcl hst0 hcm0 fun gg hg0 hb h00 n gn hn hgn hbn => ?_⟩
      have hg0' := (set_blocked hg0).resolve_left (fun q => ne q.1.symm) |>.2
      have hab : tm.a = tm.many := by
        rcases iv.blockedM hg0' hb with ⟨fm, g1, cs, sh, _, rfl, _, hc2⟩ | ⟨a, _⟩
        · obtain ⟨t3, c0, z0, rfl, rfl, _, hat3, _, _, hc0, _⟩ := cm_select hc2
          obtain rfl : t3 = tm := iv.tkOf iv.main0 hat3
          apply Classical.byContradiction
          intro hne
          rw [if_neg hne] at hc0
          refine no_partner (i := 0) (n := 0) hp (by rw [Array.getElem?_setIfInBounds_ne ne]; exact hg0') (offers_mem.2 ⟨c0, rfl, by rw [hc0]; rfl, ?_⟩)
          rw [hc0, hcmp.1, ← (iv.toks.main h12).1]; rfl
        · omega
      refine ⟨hab, ?_⟩
      by_cases e : n = i + 1
      · subst e; exact ⟨_, hj, h20⟩
      · exact (iv.nm gg hg0' hb h00 n gn hn ((set_blocked hgn).resolve_left (fun q => e q.1) |>.2) hbn).2
    · have hk' : cc = rcase t2.todo z ∧ kk = 0 := by
        have := (Array.getElem?_eq_some_iff.1 hk)
        obtain ⟨h1, h2⟩ := this
        simp at h1; subst h1; exact ⟨h2.symm, rfl⟩
      obtain ⟨rfl, rfl⟩ := hk'
      have hc2 : t2.todo = c := by cases hch2; rfl
      subst hc2
      have hcl : γ.closed = true := by
        have := etd.symm.trans hh
        simp only [Option.some.injEq, Obj.chan.injEq] at this
        exact this.2.2.1
      have hfin : g0.finishComm P #[rcase t2.todo z] (.recv true) ((0 : Nat) : Int) (rcase t2.todo z).zero false = Conc.served g0 (.tuple #[z, .bool false]) := rfl
      rw [hfin] at hrt
      obtain ⟨L2, ws', hiv⟩ := (iv.at d).shutStep (u := #[{ g := i + 1, fn := g0.frame.fn, pos := g0.frame.place, act := .recvClosed t2.todo }]) hj hr hg h20 hcl hat (g' := Conc.served g0 (.tuple #[z, .bool false])) rfl (fun op ho => by
        simp at ho; subst ho; exact ⟨⟨rfl, fun m e => by cases e⟩, hlt⟩) n2
      exact .inr ⟨_, _, _, _, _, _, _, _, _, hrt, .set hr _ _ _, hiv⟩
    · have hk' : cc = rcase t2.todo z ∧ kk = 0 := by
        obtain ⟨h1, h2⟩ := (Array.getElem?_eq_some_iff.1 hk)
        simp at h1; subst h1; exact ⟨h2.symm, rfl⟩
      obtain ⟨rfl, rfl⟩ := hk'
      have hc2 : t2.todo = c := by cases hch2; rfl
      subst hc2
      obtain ⟨x, hx, ho⟩ := mem_partners.1 hp
      obtain ⟨hij, hxg⟩ := stand_other hx (offers_blocked ho)
      have ho : ki ∈ offersAt x t2.todo true := ho
      by_cases hi0 : i' = 0
      · subst hi0
        rcases iv.blockedM hxg (offers_blocked ho) with ⟨fm, g1, cs, sh, hrm, rfl, hr1, hc2⟩ | ⟨_, _, g1, rfl, hof⟩
        · obtain ⟨t3, c0, z0, rfl, rfl, h30, hat3, _, _, hc0, hN1, _⟩ := cm_select hc2
          obtain rfl : t3 = tm := iv.tkOf iv.main0 hat3
          obtain ⟨cc, hcc, hss, hcch⟩ := offers_mem.1 ho
          have hki : ki = 0 ∧ cc = c0 := by
            obtain ⟨h1, h2⟩ := (Array.getElem?_eq_some_iff.1 hcc)
            simp at h1
            rcases (show ki = 0 ∨ ki = 1 by omega) with rfl | rfl
            · exact ⟨rfl, h2.symm⟩
            · simp at h2; subst h2; cases hss
          obtain ⟨rfl, rfl⟩ := hki
          have hlo := iv.toks.open0 h30
          have hne : t3.a ≠ t3.many := fun e => by rw [if_pos e] at hc0; rw [hc0] at hcch; cases hcch
          rw [if_neg hne] at hc0
          have hlt3 : t3.a < t3.many := by omega
          have hsome : cc.send.isSome = true := by rw [hc0]; rfl
          obtain ⟨hv1, hv2, hv3⟩ := hv
          have hov : offeredValue (gs.setIfInBounds (i + 1) ph) 0 0 = .int .i64 (t3.a : Nat) := by
            simp [offeredValue, hx, parked, hc0, scase]
          have hfp := finishPartner_at P (gs.setIfInBounds (i + 1) ph) hx (cs := #[cc, rcase t3.back z0]) (sh := .select) rfl 0 undef
          have hgm : (parked g1 #[cc, rcase t3.back z0] .select).finishComm P #[cc, rcase t3.back z0] .select ((0 : Nat) : Int) undef ((((#[cc, rcase t3.back z0] : Array CommCase)[0]?).map (·.send.isNone)).getD false) = Conc.served g1 (.tuple #[goInt 0, .bool false, z0]) := by
            have : ((((#[cc, rcase t3.back z0] : Array CommCase)[0]?).map (·.send.isNone)).getD false) = false := by simp [hc0, scase]
            rw [this]
            exact (select_served P g1 cc t3.back z0 undef hsome).1
          rw [hv2, hfp, hgm, hv1, hov, hv3] at hrt
          obtain ⟨q1, q2, q3, q4⟩ := gs3 (gs := gs) (a := i + 1) (b := 0) (x := g0.finishComm P #[rcase t2.todo z] (.recv true) ((0 : Nat) : Int) (.int .i64 (t3.a : Nat)) true) (y := Conc.served g1 (.tuple #[goInt 0, .bool false, z0])) ne (by omega) (by omega)
          have hcc2 := chan_cnt hshr (c := t2.todo) (s := s) (d := d) (closed := closed) (.inl ⟨hcmp.1, by rw [etd] at hh; cases hh; rfl⟩)
          obtain ⟨n1', L1', n2', L2', H', L0', tm', ws', hiv⟩ := iv.task hj h30 h20 hlt3 hat3 hat q4 q2 q1 (fun n a b => q3 n b a) rfl rfl hcc2.1 hcc2.2 (meet_nomk (c := t2.todo) (s := s) (fa := g0.frame.fn) (pa := g0.frame.place) (fb := ((gs.setIfInBounds (i + 1) ph).getD 0 default).frame.fn) (pb := ((gs.setIfInBounds (i + 1) ph).getD 0 default).frame.place) (snd := false) hlt hl0)
            (fun L' hL => hN1 hlt3 L' hL) (fun L' hL => n1 t3.a L' (iv.toks.low h30 hmem (by omega)) (by
              have := (iv.toks.same t2 hmem (by omega)).2.2.2.2
              rw [this]; exact hlt3) hL)
          exact .inr ⟨_, _, _, _, _, _, _, _, _, hrt, .meet hrm _ _ _ _, hiv⟩
        · exact (offers_none ho hof).elim
      · obtain ⟨n, Lx, tx, fx, g1, cs, sh, rfl, hHx, _, rfl, _, hc2⟩ := iv.blockedW hi0 hxg (offers_blocked ho)
        obtain ⟨cc, hcc, hss, hcch⟩ := offers_mem.1 ho
        rcases cm_work hc2 with ⟨t3, z3, rfl, rfl, _⟩ | ⟨t3, v3, z3, _, L3, _, rfl, rfl, _, hU3, _⟩
        · obtain ⟨h1, h2⟩ := (Array.getElem?_eq_some_iff.1 hcc)
          simp at h1; subst h1; simp at h2; subst h2; cases hss
        · obtain ⟨h1, h2⟩ := (Array.getElem?_eq_some_iff.1 hcc)
          simp at h1; subst h1; simp at h2; subst h2
          obtain rfl : t3 = tx := iv.tkOf hHx hU3.mem
          obtain ⟨_, _, _, _, hmx, _⟩ := iv.isWork hHx (fun L t e => by cases e)
          have hkx : 20 ≤ t3.st ∧ t3.st ≤ 22 := iv.ok _ _ hHx
          have := iv.toks.cmpW hmx (show t3.st ≠ 25 by omega)
          simp [scase] at hcch
          exact absurd (hcmp.1.symm.trans (hcch.symm.trans this.2.1)) hap.1
  · obtain rfl : t2 = tk := iv.tkOf hj hU.mem
    have ebk : w.heap[t2.back]? = some (.chan 0 #[] false s2 s2 false) := by rw [hcmp.2.1]; exact e2
    have hcl := iv.toks.open21 hmem h21
    have hunb : ∀ cc ∈ #[scase t2.back v z], Unb w cc := fun cc hc => by
      simp at hc; subst hc
      exact .inr ⟨_, s2, false, rfl, ebk, fun _ => rfl⟩
    rcases crowd_any (sl := sl) hg hstep hunb with ⟨hw, hrt⟩ | ⟨kk, cc, c, s, d, hk, hsn, hch2, hh, hp, hrt⟩ | ⟨kk, cc, c, s, closed, i', ki, d, vv, v', ok, hk, hch2, hh, hp, hv, hrt⟩
    · have hp := ways_send ebk (hw (scase t2.back v z) (by simp))
      refine .inl ⟨γ, H, L0, tm, ws, _, hrt, rfl, iv.parkStep (main := false) hj hr hr0 hcl hst0 hcm0 fun gg hg0 hb h00 n gn hn hgn hbn => ?_⟩
      have hg0' := (set_blocked hg0).resolve_left (fun q => ne q.1.symm) |>.2
      exfalso
      rcases iv.blockedM hg0' hb with ⟨fm, g1, cs, sh, _, rfl, _, hc2⟩ | ⟨a, _⟩
      · obtain ⟨t3, c0, z0, rfl, rfl, _, hat3, _, _, hc0, _⟩ := cm_select hc2
        obtain rfl : t3 = tm := iv.tkOf iv.main0 hat3
        refine no_partner (i := 0) (n := 1) hp (by rw [Array.getElem?_setIfInBounds_ne ne]; exact hg0') (offers_mem.2 ⟨rcase t3.back z0, rfl, rfl, ?_⟩)
        rw [hcmp.2.1, ← (iv.toks.main h12).2.1]; rfl
      · omega
    · exfalso
      obtain ⟨h1, h2⟩ := (Array.getElem?_eq_some_iff.1 hk)
      simp at h1; subst h1; simp at h2; subst h2; cases hsn
    · have hk' : cc = scase t2.back v z ∧ kk = 0 := by
        obtain ⟨h1, h2⟩ := (Array.getElem?_eq_some_iff.1 hk)
        simp at h1; subst h1; exact ⟨h2.symm, rfl⟩
      obtain ⟨rfl, rfl⟩ := hk'
      have hc2 : t2.back = c := by cases hch2; rfl
      subst hc2
      obtain ⟨x, hx, ho⟩ := mem_partners.1 hp
      obtain ⟨hij, hxg⟩ := stand_other hx (offers_blocked ho)
      have ho : ki ∈ offersAt x t2.back false := ho
      by_cases hi0 : i' = 0
      · subst hi0
        rcases iv.blockedM hxg (offers_blocked ho) with ⟨fm, g1, cs, sh, hrm, rfl, hr1, hc2⟩ | ⟨_, _, g1, rfl, hof⟩
        · obtain ⟨t3, c0, z0, rfl, rfl, h30, hat3, _, _, hc0, _, hN2⟩ := cm_select hc2
          obtain rfl : t3 = tm := iv.tkOf iv.main0 hat3
          obtain ⟨cc, hcc, hss, hcch⟩ := offers_mem.1 ho
          have hsome : c0.send.isSome = true := by rw [hc0]; split <;> rfl
          have hki : ki = 1 ∧ cc = rcase t3.back z0 := by
            obtain ⟨h1, h2⟩ := (Array.getElem?_eq_some_iff.1 hcc)
            simp at h1
            rcases (show ki = 0 ∨ ki = 1 by omega) with rfl | rfl
            · simp at h2; subst h2; rw [hsome] at hss; cases hss
            · exact ⟨rfl, h2.symm⟩
          obtain ⟨rfl, rfl⟩ := hki
          obtain ⟨hv1, hv2, hv3⟩ := hv
          have hfp := finishPartner_at P (gs.setIfInBounds (i + 1) ph) hx (cs := #[c0, rcase t3.back z0]) (sh := .select) rfl 1 v
          have hgm : (parked g1 #[c0, rcase t3.back z0] .select).finishComm P #[c0, rcase t3.back z0] .select ((1 : Nat) : Int) v ((((#[c0, rcase t3.back z0] : Array CommCase)[1]?).map (·.send.isNone)).getD false) = Conc.served g1 (.tuple #[goInt 1, .bool true, v]) :=
            (select_served P g1 c0 t3.back z0 v hsome).2
          rw [hv2, hfp, hgm, hv1, hv3] at hrt
          obtain ⟨q1, q2, q3, q4⟩ := gs3 (gs := gs) (a := i + 1) (b := 0) (x := g0.finishComm P #[scase t2.back v z] .send ((0 : Nat) : Int) undef false) (y := Conc.served g1 (.tuple #[goInt 1, .bool true, v])) ne (by omega) (by omega)
          have hcc2 := chan_cnt hshr (c := t2.back) (s := s) (d := d) (closed := closed) (.inr ⟨hcmp.2.1, by rw [ebk] at hh; cases hh; rfl⟩)
          have hd1 : Deaf t (i + 1) = 0 := iv.deaf _ _ hj
          have hd0 : Deaf t 0 = 0 := by rw [iv.deaf 0 _ iv.main0]; simp [Gh.df, dfm, h30]
          obtain ⟨n1', L1', n2', L2', H', L0', tm', ws', hiv⟩ := iv.done (u := meetOps _ _ t2.back s true) hj h30 h21 hat3 hU hls hbl hR q4 q2 q1 (fun n a b => q3 n b a) rfl rfl hcc2.1 hcc2.2 (meet_nomk (fa := g0.frame.fn) (pa := g0.frame.place) (fb := ((gs.setIfInBounds (i + 1) ph).getD 0 default).frame.fn) (pb := ((gs.setIfInBounds (i + 1) ph).getD 0 default).frame.place) hlt hl0)
            (fun i bl L' a b c => hN2 i v bl L' a b c) hX (fun n hn => meet_knows (snd := true) hlt hl0 hd1 hd0 hn)
          exact .inr ⟨_, _, _, _, _, _, _, _, _, hrt, .meet hrm _ _ _ _, hiv⟩
        · exact (offers_none ho hof).elim
      · obtain ⟨n, Lx, tx, fx, g1, cs, sh, rfl, hHx, _, rfl, _, hc2⟩ := iv.blockedW hi0 hxg (offers_blocked ho)
        obtain ⟨cc, hcc, hss, hcch⟩ := offers_mem.1 ho
        rcases cm_work hc2 with ⟨t3, z3, rfl, rfl, h320, hat3, _⟩ | ⟨t3, v3, z3, _, L3, _, rfl, rfl, _, hU3, _⟩
        · obtain ⟨h1, h2⟩ := (Array.getElem?_eq_some_iff.1 hcc)
          simp at h1; subst h1; simp at h2; subst h2
          obtain rfl : t3 = tx := iv.tkOf hHx hat3
          obtain ⟨_, _, _, _, hmx, _⟩ := iv.isWork hHx (fun L t e => by cases e)
          have := iv.toks.cmpW hmx (show t3.st ≠ 25 by omega)
          simp [rcase] at hcch
          exact absurd (this.1.symm.trans (hcch.trans hcmp.2.1)) hap.1
        · obtain ⟨h1, h2⟩ := (Array.getElem?_eq_some_iff.1 hcc)
          simp at h1; subst h1; simp at h2; subst h2; cases hss
end
end Go.HL
end

/-! QKMl -/
section
namespace Go.HL
set_option linter.unusedSectionVars false
variable [Tasks]
open Go Go.Conc
set_option linter.unusedVariables false
set_option linter.unusedSectionVars false
set_option linter.unusedSimpArgs false
section
variable {P : Program} {Φ : Goroutine → Heap → Prop} {k : Ctx} {γ : Gm} {rs : List Rank} {H : List Gh} {L0 : Heap} {tm : Tk} {ws : List Gh} {gs : Array Goroutine} {w : World} {t : Trace} {sl : Option (Nat × Nat)} {j : Nat}
theorem Iv.commMain (iv : Iv P Φ k γ rs H L0 tm ws gs w t) {f : Nat → Goroutine → Heap → Rank} {g g0 : Goroutine} {cases : Array CommCase} {shape : CommShape} (hr : rs[0]? = some (.mk f)) (hg : gs[0]? = some g) (hr0 : g0.status = .running)
    (hst : ∀ k w, Sat k w L0 → stepG P true g w = .comm g0 cases true shape w #[]) (hst0 : ∀ k w, Sat k w L0 → stepG P true g0 w = .comm g0 cases true shape w #[]) (hcm : CmL (fun m g' L' => Rk P Φ (f (cond m 0 1) g' L') m g' L') true g0 L0 cases shape) : Came P Φ k rs gs w t sl 0 := by
  have hj := iv.main0
  have hs : Sat k w L0 := iv.sat 0 _ hj
  have hlen : gs.size = H.length := iv.gsz
  have hl0 : 0 < H.length := (List.getElem?_eq_some_iff.1 hj).1
  have hstep : stepG P (0 == 0) g w = .comm g0 cases true shape w #[] := hst k w hs
  have hcm0 := hcm
  obtain ⟨t2, c0, z, rfl, rfl, h0, hat, hbm, hn1, hc0, hN1, hN2⟩ := cm_select hcm
  obtain rfl : t2 = tm := iv.tkOf hj hat
  have h12 : t2.st ≠ 12 := by omega
  have hcmp := iv.toks.cmpM h12
  have hshr := iv.sh h12
  obtain ⟨⟨s1, e1⟩, ⟨s2, e2⟩, _, hap⟩ := iv.sh h12
  obtain ⟨hcl, hle, _, _, _, _⟩ := iv.toks.open0 h0
  rw [hcl] at e1
  have etd : w.heap[t2.todo]? = some (.chan 0 #[] false s1 s1 false) := by rw [hcmp.1]; exact e1
  have ebk : w.heap[t2.back]? = some (.chan 0 #[] false s2 s2 false) := by rw [hcmp.2.1]; exact e2
  have hsome : c0.send.isSome = true := by rw [hc0]; split <;> rfl
  have hd0 : Deaf t 0 = 0 := by rw [iv.deaf 0 _ hj]; simp [Gh.df, dfm, h0]
  have hunb : ∀ cc ∈ #[c0, rcase t2.back z], Unb w cc := fun cc hc => by
    simp at hc
    rcases hc with rfl | rfl
    · rw [hc0]
      split
      · exact .inl rfl
      · exact .inr ⟨_, s1, false, rfl, etd, fun _ => rfl⟩
    · exact .inr ⟨_, s2, false, rfl, ebk, fun h => by cases h⟩
  rcases crowd_any (sl := sl) hg hstep hunb with ⟨hw, hrt⟩ | ⟨kk, cc, c, s, d, hk, hsn, hch2, hh, hp, hrt⟩ | ⟨kk, cc, c, s, closed, i', ki, d, vv, v', ok, hk, hch2, hh, hp, hv, hrt⟩
  · have hp2 := (ways_recv ebk (hw (rcase t2.back z) (by simp))).2
    refine .inl ⟨γ, H, L0, t2, ws, _, hrt, rfl, iv.parkStep (main := true) hj hr hr0 hcl hst0 hcm0 fun gg hg0 hb h00 n gn hn hgn hbn => ?_⟩
    have hgn' := (set_blocked hgn).resolve_left (fun q => hn q.1) |>.2
    obtain ⟨m, Lx, tx, fx, g1, cs, sh, rfl, hHx, _, rfl, _, hc2⟩ := iv.blockedW hn hgn' hbn
    obtain ⟨_, _, _, _, hmx, _⟩ := iv.isWork hHx (fun L t e => by cases e)
    have hkx : 20 ≤ tx.st ∧ tx.st ≤ 22 := iv.ok _ _ hHx
    have hcx := iv.toks.cmpW hmx (show tx.st ≠ 25 by omega)
    have hstd : (gs.setIfInBounds 0 ph)[m + 1]? = some (parked g1 cs sh) := by rw [Array.getElem?_setIfInBounds_ne (by omega)]; exact hgn'
    rcases cm_work hc2 with ⟨t3, z3, rfl, rfl, h320, hat3, _⟩ | ⟨t3, v3, z3, _, L3, _, rfl, rfl, _, hU3, _⟩
    · obtain rfl : t3 = tx := iv.tkOf hHx hat3
      refine ⟨?_, _, hHx, h320⟩
      apply Classical.byContradiction
      intro hne
      rw [if_neg hne] at hc0
      have hp1 := ways_send etd (by rw [← hc0]; exact hw c0 (by simp))
      exact no_partner (n := 0) hp1 hstd (offers_mem.2 ⟨_, rfl, rfl, by rw [hcmp.1, ← hcx.1]; rfl⟩)
    · obtain rfl : t3 = tx := iv.tkOf hHx hU3.mem
      exact (no_partner (n := 0) hp2 hstd (offers_mem.2 ⟨_, rfl, rfl, by rw [hcmp.2.1, ← hcx.2.1]; rfl⟩)).elim
  · exfalso
    obtain ⟨h1, h2⟩ := (Array.getElem?_eq_some_iff.1 hk)
    simp at h1
    rcases (show kk = 0 ∨ kk = 1 by omega) with rfl | rfl
    · simp at h2; subst h2; rw [hsn] at hsome; cases hsome
    · simp at h2; subst h2
      have : t2.back = c := by cases hch2; rfl
      subst this
      rw [ebk] at hh; cases hh
  · obtain ⟨h1, h2⟩ := (Array.getElem?_eq_some_iff.1 hk)
    simp at h1
    obtain ⟨x, hx, ho⟩ := mem_partners.1 hp
    obtain ⟨hi0, hxg⟩ := stand_other hx (offers_blocked ho)
    obtain ⟨m, Lx, tx, fx, g1, cs, sh, rfl, hHx, hrx, rfl, _, hc2⟩ := iv.blockedW hi0 hxg (offers_blocked ho)
    obtain ⟨_, _, _, _, hmx, _⟩ := iv.isWork hHx (fun L t e => by cases e)
    have hkx : 20 ≤ tx.st ∧ tx.st ≤ 22 := iv.ok _ _ hHx
    have hcx := iv.toks.cmpW hmx (show tx.st ≠ 25 by omega)
    have hltm : m + 1 < H.length := (List.getElem?_eq_some_iff.1 hHx).1
    obtain ⟨cc2, hcc, hss, hcch⟩ := offers_mem.1 ho
    rcases (show kk = 0 ∨ kk = 1 by omega) with rfl | rfl
    · simp at h2; subst h2
      have hne : t2.a ≠ t2.many := fun e => by rw [if_pos e] at hc0; rw [hc0] at hch2; cases hch2
      rw [if_neg hne] at hc0
      have hlt3 : t2.a < t2.many := by omega
      have hc3 : t2.todo = c := by rw [hc0] at hch2; cases hch2; rfl
      subst hc3
      have hcn : c0.send = some (.int .i64 (t2.a : Nat)) := by rw [hc0]; rfl
      rw [hcn] at hv hss hrt
      obtain ⟨hv1, hv2, hv3⟩ := hv
      rcases cm_work hc2 with ⟨t3, z3, rfl, rfl, h320, hat3, n1, _⟩ | ⟨t3, v3, z3, _, L3, _, rfl, rfl, _, hU3, _⟩
      · obtain rfl : t3 = tx := iv.tkOf hHx hat3
        have hki : ki = 0 := by
          obtain ⟨q1, q2⟩ := (Array.getElem?_eq_some_iff.1 hcc)
          simpa using q1
        subst hki
        have hfp := finishPartner_at P (gs.setIfInBounds 0 ph) hx (cs := #[rcase t3.todo z3]) (sh := .recv true) rfl 0 (.int .i64 (t2.a : Nat))
        have hgm : (parked g1 #[rcase t3.todo z3] (.recv true)).finishComm P #[rcase t3.todo z3] (.recv true) ((0 : Nat) : Int) (.int .i64 (t2.a : Nat)) ((((#[rcase t3.todo z3] : Array CommCase)[0]?).map (·.send.isNone)).getD false) = Conc.served g1 (.tuple #[.int .i64 (t2.a : Nat), .bool true]) := rfl
        rw [hv2, hfp, hgm, hv1, hv3] at hrt
        have hgm2 := (select_served P g0 c0 t2.back z undef hsome).1
        have hrt2 : runT P (crowd gs w sl) 0 = _ := hrt
        rw [show g0.finishComm P #[c0, rcase t2.back z] .select ((0 : Nat) : Int) undef false = Conc.served g0 (.tuple #[goInt 0, .bool false, z]) from hgm2] at hrt2
        obtain ⟨q1, q2, q3, q4⟩ := gs3 (gs := gs) (a := 0) (b := m + 1) (x := Conc.served g0 (.tuple #[goInt 0, .bool false, z])) (y := Conc.served g1 (.tuple #[.int .i64 (t2.a : Nat), .bool true])) (by omega) (by omega) (by omega)
        have hcc2 := chan_cnt hshr (c := t2.todo) (s := s) (d := d) (closed := closed) (.inl ⟨hcmp.1, by rw [etd] at hh; cases hh; rw [hcl]⟩)
        obtain ⟨n1', L1', n2', L2', H', L0', tm', ws', hiv⟩ := iv.task (u := meetOps _ _ t2.todo s true) hHx h0 h320 hlt3 hat hat3 q4 q1 q2 q3 rfl rfl hcc2.1 hcc2.2 (meet_nomk (fa := g0.frame.fn) (pa := g0.frame.place) (fb := ((gs.setIfInBounds 0 ph).getD (m + 1) default).frame.fn) (pb := ((gs.setIfInBounds 0 ph).getD (m + 1) default).frame.place) hl0 hltm)
          (fun L' hL => hN1 hlt3 L' hL) (fun L' hL => n1 t2.a L' (iv.toks.low h0 hmx (show t3.st ≠ 25 by omega)) (by
            have := (iv.toks.same t3 hmx (show t3.st ≠ 25 by omega)).2.2.2.2
            rw [this]; exact hlt3) hL)
        exact .inr ⟨_, _, _, _, _, _, _, _, _, hrt2, .meet hr _ _ _ _, hiv⟩
      · exfalso
        obtain ⟨q1, q2⟩ := (Array.getElem?_eq_some_iff.1 hcc)
        simp at q1; subst q1; simp at q2; subst q2; cases hss
    · simp at h2; subst h2
      have hc3 : t2.back = c := by cases hch2; rfl
      subst hc3
      have hss : cc2.send.isSome = true := hss
      rcases cm_work hc2 with ⟨t3, z3, rfl, rfl, h320, hat3, n1, _⟩ | ⟨t3, v3, z3, bl, L3, L4, rfl, rfl, h321, hU3, hls, hbl, hR, hX⟩
      · exfalso
        obtain ⟨q1, q2⟩ := (Array.getElem?_eq_some_iff.1 hcc)
        simp at q1; subst q1; simp at q2; subst q2; cases hss
      · obtain rfl : t3 = tx := iv.tkOf hHx hU3.mem
        have hki : ki = 0 := by
          obtain ⟨q1, q2⟩ := (Array.getElem?_eq_some_iff.1 hcc)
          simpa using q1
        subst hki
        obtain ⟨hv1, hv2, hv3⟩ := hv
        have hov : offeredValue (gs.setIfInBounds 0 ph) (m + 1) 0 = v3 := by simp [offeredValue, hx, parked, scase]
        have hfp := finishPartner_at P (gs.setIfInBounds 0 ph) hx (cs := #[scase t3.back v3 z3]) (sh := .send) rfl 0 undef
        have hgm : (parked g1 #[scase t3.back v3 z3] .send).finishComm P #[scase t3.back v3 z3] .send ((0 : Nat) : Int) undef ((((#[scase t3.back v3 z3] : Array CommCase)[0]?).map (·.send.isNone)).getD false) = Conc.served g1 undef := rfl
        rw [hv2, hfp, hgm, hv1, hov, hv3] at hrt
        have hgm2 := (select_served P g0 c0 t2.back z v3 hsome).2
        have hrt2 : runT P (crowd gs w sl) 0 = _ := hrt
        rw [show g0.finishComm P #[c0, rcase t2.back z] .select ((1 : Nat) : Int) v3 true = Conc.served g0 (.tuple #[goInt 1, .bool true, v3]) from hgm2] at hrt2
        obtain ⟨q1, q2, q3, q4⟩ := gs3 (gs := gs) (a := 0) (b := m + 1) (x := Conc.served g0 (.tuple #[goInt 1, .bool true, v3])) (y := Conc.served g1 undef) (by omega) (by omega) (by omega)
        have hcc2 := chan_cnt hshr (c := t2.back) (s := s) (d := d) (closed := closed) (.inr ⟨hcmp.2.1, by rw [ebk] at hh; cases hh; rfl⟩)
        have hd1 : Deaf t (m + 1) = 0 := iv.deaf _ _ hHx
        obtain ⟨n1', L1', n2', L2', H', L0', tm', ws', hiv⟩ := iv.done (u := meetOps _ _ t2.back s false) hHx h0 h321 hat hU3 hls hbl hR q4 q1 q2 q3 rfl rfl hcc2.1 hcc2.2 (meet_nomk (fa := g0.frame.fn) (pa := g0.frame.place) (fb := ((gs.setIfInBounds 0 ph).getD (m + 1) default).frame.fn) (pb := ((gs.setIfInBounds 0 ph).getD (m + 1) default).frame.place) hl0 hltm)
          (fun i bl L' a b c => hN2 i v3 bl L' a b c) hX (fun n hn => meet_knows (snd := false) hl0 hltm hd0 hd1 hn)
        exact .inr ⟨_, _, _, _, _, _, _, _, _, hrt2, .meet hr _ _ _ _, hiv⟩
end
end Go.HL
end

/-! QKMm -/
section
namespace Go.HL
set_option linter.unusedSectionVars false
variable [Tasks]
open Go Go.Conc
set_option linter.unusedVariables false
set_option linter.unusedSectionVars false
set_option linter.unusedSimpArgs false
/-! ### every way down ends -/
def Wd (l' l : List Rank) : Prop := ∃ (i : Nat) (f : Nat → Goroutine → Heap → Rank) (n : Nat) (g : Goroutine) (L : Heap), l[i]? = some (.mk f) ∧ l' = l.set i (f n g L)
theorem wd_nil : Acc Wd [] := ⟨_, fun y ⟨i, f, n, g, L, h, _⟩ => by simp at h⟩
theorem wd_cons : ∀ (x : Rank) (l : List Rank), Acc Wd l → Acc Wd (x :: l) := by
  intro x
  induction x with
  | z =>
    intro l hl
    induction hl with
    | intro l h ih =>
      refine ⟨_, fun y ⟨i, f, n, g, L, h1, h2⟩ => ?_⟩
      subst h2
      cases i with
      | zero => simp at h1
      | succ i => exact ih _ ⟨i, f, n, g, L, by simpa using h1, rfl⟩
  | mk f ihf =>
    intro l hl
    induction hl with
    | intro l h ih =>
      refine ⟨_, fun y ⟨i, f', n, g, L, h1, h2⟩ => ?_⟩
      subst h2
      cases i with
      | zero => simp at h1; subst h1; exact ihf n g L l ⟨l, h⟩
      | succ i => exact ih _ ⟨i, f', n, g, L, by simpa using h1, rfl⟩
theorem wd_acc : ∀ l, Acc Wd l
  | [] => wd_nil
  | x :: l => wd_cons x l (wd_acc l)
theorem down_cons : ∀ (r : Rank) (l : List Rank), Acc Down (r :: l) := by
  intro r
  induction r with
  | z =>
    intro l
    have hl := wd_acc l
    induction hl with
    | intro l h ih =>
      refine ⟨_, fun y hy => ?_⟩
      cases hy with
      | work n g L h1 => exact ih _ ⟨_, _, n, g, L, h1, rfl⟩
  | mk f ihf =>
    intro l
    have hl := wd_acc l
    induction hl with
    | intro l h ih =>
      refine ⟨_, fun y hy => ?_⟩
      cases hy with
      | main n g L => exact ihf n g L _
      | work n g L h1 => exact ih _ ⟨_, _, n, g, L, h1, rfl⟩
theorem down_acc : ∀ rs, Acc Down rs
  | [] => ⟨_, fun y hy => by cases hy⟩
  | r :: l => down_cons r l
/-! ### how many may still stop to wait -/
def up (g : Goroutine) : Bool := match g.status with | .blocked => false | _ => true
def nb (gs : Array Goroutine) : Nat := gs.toList.countP up
theorem nb_less {gs : Array Goroutine} {j : Nat} {g g' : Goroutine} (hg : gs[j]? = some g) (hu : g.status = .running) (hb : g'.status = .blocked) : nb (gs.setIfInBounds j g') < nb gs := by
  have h1 : gs.toList[j]? = some g := by simpa using hg
  have h2 : (gs.setIfInBounds j g').toList = gs.toList.set j g' := by simp
  have key : ∀ (l : List Goroutine) (j : Nat), l[j]? = some g → (l.set j g').countP up < l.countP up := by
    intro l
    induction l with
    | nil => intro j h; simp at h
    | cons x l ih =>
      intro j h
      cases j with
      | zero =>
        simp at h; subst h
        have e1 : up x = true := by simp [up, hu]
        have e2 : up g' = false := by simp [up, hb]
        simp [List.countP_cons, e1, e2]
      | succ j =>
        have := ih j (by simpa using h)
        simp only [List.set_cons_succ, List.countP_cons]
        omega
  unfold nb
  rw [h2]
  exact key _ j h1
section
variable {P : Program} {Φ : Goroutine → Heap → Prop} {k : Ctx} {γ : Gm} {rs : List Rank} {H : List Gh} {L0 : Heap} {tm : Tk} {ws : List Gh} {gs : Array Goroutine} {w : World} {t : Trace} {sl : Option (Nat × Nat)} {j : Nat}
/-- it goes down, the machine as9 it stands -/
def Ghost (P : Program) (Φ : Goroutine → Heap → Prop) (k : Ctx) (rs : List Rank) (gs : Array Goroutine) (w : World) (t : Trace) : Prop :=
  ∃ (γ : Gm) (rs' : List Rank) (H : List Gh) (L0 : Heap) (tm : Tk) (ws : List Gh), Down rs' rs ∧ Iv P Φ k γ rs' H L0 tm ws gs w t
theorem Only.refl {γ : Gm} {w : World} : Only γ w w := ⟨rfl, rfl, rfl, rfl, fun _ _ _ => rfl⟩
theorem Iv.step (iv : Iv P Φ k γ rs H L0 tm ws gs w t) {g : Goroutine} (hg : gs[j]? = some g) (hrun : g.status = .running) : (j = 0 ∧ Φ g L0) ∨ Ghost P Φ k rs gs w t ∨ Came P Φ k rs gs w t sl j := by
  obtain ⟨h, r, hH, hR, hS⟩ := iv.got hg
  have actor : ∀ (main : Bool) (L : Heap) (tk : Tk) (f : Nat → Goroutine → Heap → Rank), r = .mk f → h = gh main L tk → StL P (fun m g' L' => Rk P Φ (f (cond m 0 1) g' L') m g' L') (fun g' t' => TlR P (f 2 g' [[t'.at_]]) g' t') main g L → Ghost P Φ k rs gs w t ∨ Came P Φ k rs gs w t sl j := by
    rintro main L tk f rfl rfl hst
    obtain ⟨hm, hmt, hcm, hin, _⟩ := iv.actor hH
    have hs : Sat k w L := by have := iv.sat j _ hH; rwa [gh_L] at this
    have htk : ∀ t2 : Tk, t2.at_ ∈ L.flatten → t2 = tk := fun t2 h => by
      have := iv.tkOf hH (t2 := t2) (by rw [gh_L]; exact h)
      rwa [gh_tk] at this
    have h25 : tk.st ≠ 25 := by
      have := iv.ok j _ hH
      cases main <;> simp only [gh, cond_true, cond_false, Gh.ok] at this <;> omega
    cases hst with
    | own K a step next =>
      obtain ⟨g', w', es, L', e1, e2, e3, e4, e5, e6⟩ := step k w hs
      obtain ⟨L0', ws', r1, r2⟩ := iv.ownStep (sl := sl) hH hR hg e1 e2 e3 e5 (next g' L' e6)
      exact .inr (.inr ⟨_, _, _, _, _, _, _, _, _, r1, .set hR _ _ _, r2⟩)
    | weak a b =>
      obtain ⟨L0', ws', r1⟩ := iv.weakStep hH hg hrun a b
      exact .inl ⟨_, _, _, _, _, _, .set hR _ _ _, r1⟩
    | shared t2 K a hat h12 step next =>
      obtain rfl := htk t2 hat
      obtain ⟨ht12, hcmp⟩ := hcm h12 h25
      rcases step k w γ hs (iv.sh ht12) hcmp with ⟨g', w', es, t', γ', L', e1, e2, e3, e4, e5, e6, e7, e8⟩ | ⟨e1, e2, e3, e4⟩
      · obtain ⟨L0', tm', ws', r1, r2⟩ := iv.sharedStep (sl := sl) hH hR hg e1 e2 e3 e4 e5 e6 e7 h12 (next g' L' e8)
        exact .inr (.inr ⟨_, _, _, _, _, _, _, _, _, r1, .set hR _ _ _, r2⟩)
      · cases main with
        | true =>
          obtain ⟨r1, r2⟩ := iv.blockStep (sl := sl) hH hR hg hrun e4 e1 e2 e3 (.shared t2 K a hat h12 step next)
          exact .inr (.inl ⟨_, _, _, _, _, _, r1, rfl, r2⟩)
        | false =>
          have : 20 ≤ t2.st ∧ t2.st ≤ 22 := iv.ok j _ hH
          omega
    | lib t2 K a hat h12 step next =>
      obtain rfl := htk t2 hat
      obtain ⟨ht12, hcmp⟩ := hcm h12 h25
      obtain ⟨g', w', es, L', e1, e2, e3, e4, e5, e6⟩ := step k w γ hs (iv.sh ht12) hcmp
      obtain ⟨L0', ws', r1, r2⟩ := iv.ownStep (sl := sl) hH hR hg e1 e2 e3 e5 (next g' L' e6)
      exact .inr (.inr ⟨_, _, _, _, _, _, _, _, _, r1, .set hR _ _ _, r2⟩)
    | rel t2 K a h22 hat step next =>
      obtain rfl := htk t2 hat
      obtain ⟨ht12, hcmp⟩ := hcm (by omega) h25
      obtain ⟨g', e1, b, e2⟩ := step k w γ hs (iv.sh ht12) hcmp iv.old.same
      obtain ⟨gs', ws', ops, r1, r2⟩ := iv.relStep (sl := sl) hH hR hg e1 b h22 (next g' e2)
      exact .inr (.inr ⟨_, _, _, _, _, _, _, _, _, r1, .set hR _ _ _, r2⟩)
    | begin t2 t' c d u E h12 a0 a1 a2 a3 a4 a5 a6 a7 hls next =>
      have hat : t2.at_ ∈ L.flatten := hls.mem (by simp)
      obtain rfl := htk t2 hat
      obtain ⟨γ', L0', tm', ws', r1⟩ := iv.beginStep (E := 0) hH ⟨_, hR⟩ hg hrun h12 a0 a1 a2 a3 a4 a5 a6 a7 hls next
      exact .inl ⟨_, _, _, _, _, _, .set hR _ _ _, r1⟩
    | go t2 d a b h3 step hu hgv nc nm =>
      obtain rfl := htk t2 hu.mem
      obtain ⟨gs', ops, r1, r2⟩ := iv.spawnStep (sl := sl) hH hg (step k w hs) b h3 hu hgv nm nc
      have hj0 : j = 0 := (iv.isMain hH).1
      subst hj0
      refine .inr (.inr ⟨_, _, _, _, _, _, _, _, _, r1, ?_, r2⟩)
      cases rs with
      | nil => simp at hR
      | cons x l => simp at hR; subst hR; exact .main 0 _ _
    | odd t2 hat hx =>
      obtain rfl := htk t2 hat
      exfalso
      have := iv.ok j _ hH
      cases main <;> simp only [gh, cond_true, cond_false, Gh.ok] at this <;> rcases hx with ⟨q, hx⟩ | ⟨q, hx⟩ <;> first | omega | cases q
    | comm a b step step0 hc =>
      cases main with
      | true =>
        obtain ⟨rfl, rfl, rfl⟩ := iv.isMain (show H[j]? = some (.main L tk) from hH)
        exact .inr (iv.commMain hR hg b step step0 hc)
      | false => exact .inr (iv.commWork hH hR hg b step step0 hc)
  cases h with
  | main L tk =>
    obtain ⟨rfl, rfl, rfl⟩ := iv.isMain hH
    rcases hS with ⟨_, b⟩ | ⟨_, f, g0, cs, sh, _, rfl, _⟩ | ⟨_, _, g0, rfl, _⟩
    · cases r with
      | z => exact .inl ⟨rfl, b.2⟩
      | mk f => exact .inr (actor true L tk f rfl rfl b)
    · cases hrun
    · cases hrun
  | live L tk =>
    rcases hS with ⟨_, b⟩ | ⟨_, f, g0, cs, sh, _, rfl, _⟩
    · cases r with
      | z => cases b.1
      | mk f => exact .inr (actor false L tk f rfl rfl b)
    · cases hrun
  | tail tk =>
    right
    cases r with
    | z => exact (show False from hS).elim
    | mk f =>
      have hS : StT P (fun g' t' => TlR P (f 2 g' [[t'.at_]]) g' t') (fun n => f 2 g [] = Tn n) g tk := hS
      obtain ⟨i, rfl, _, _, hmem, _⟩ := iv.isWork hH (fun L t e => by cases e)
      have hmem : tk ∈ ws.map Gh.tk := hmem
      cases hS with
      | ctl a b h25 step next =>
        have h12 := iv.toks.up hmem h25
        obtain ⟨gs', ws', ops, r1, r2⟩ := iv.tailStep (sl := sl) hH hR hg (step w γ (iv.sh h12) (iv.toks.cmpW hmem h25) iv.old.same) b .idle .refl (iv.sh h12) .refl h25 next
        exact .inr (.inr ⟨_, _, _, _, _, _, _, _, _, r1, .set hR _ _ _, r2⟩)
      | shared K a h25 step next =>
        have h12 := iv.toks.up hmem h25
        obtain ⟨g', w', es, t', γ', e1, e2, e3, e4, e5, e6, e7⟩ := step w γ (iv.sh h12) (iv.toks.cmpW hmem h25) iv.old.same
        obtain ⟨gs', ws', ops, r1, r2⟩ := iv.tailStep (sl := sl) hH hR hg e1 e2 e3 e4 e5 e6 h25 (next g' t' e7)
        exact .inr (.inr ⟨_, _, _, _, _, _, _, _, _, r1, .set hR _ _ _, r2⟩)
      | quit n h25 hq hf =>
        obtain ⟨ws', r1⟩ := iv.quitStep hH hg h25 hq
        rw [← hf] at r1
        exact .inl ⟨_, _, _, _, _, _, .set hR _ _ _, r1⟩
  | gone tk d =>
    right; right
    obtain ⟨h25, n, rfl, hq⟩ := hS
    cases n with
    | zero => have := hq.1; rw [hrun] at this; cases this
    | succ n =>
      rcases hq with ⟨a, _⟩ | ⟨_, g', es, hm, step, hq⟩
      · rw [hrun] at a; cases a
      · obtain ⟨i, rfl, _⟩ := iv.isWork hH (fun L t e => by cases e)
        obtain ⟨gs', ws', ops, r1, r2⟩ := iv.goneStep (sl := sl) hH hR hg (step w) hm hq rfl
        refine .inr ⟨_, _, _, _, _, _, _, _, _, r1, ?_, r2⟩
        exact Down.set (f := fun _ _ _ => Tn n) hR 0 g' []
/-- somebody runs -/
theorem Iv.someone (iv : Iv P Φ k γ rs H L0 tm ws gs w t) : ∃ (i : Nat) (g : Goroutine), gs[i]? = some g ∧ g.status = .running := by
  have hl0 : 0 < gs.size := by rw [iv.gsz, iv.hd]; simp
  obtain ⟨g, hg⟩ : ∃ g, gs[0]? = some g := ⟨_, Array.getElem?_eq_getElem hl0⟩
  apply Classical.byContradiction
  intro hno
  have hnr : ∀ (i : Nat) x, gs[i]? = some x → x.status ≠ .running := fun i x hx e => hno ⟨i, x, hx, e⟩
  obtain ⟨h, r, hH, hR, hS⟩ := iv.got hg
  rw [iv.main0] at hH; cases hH
  -- whoever is not through is parked
  have hwork : ∀ tk ∈ ws.map Gh.tk, tk.st ≠ 25 → ∃ (n : Nat) (gn : Goroutine), gs[n + 1]? = some gn ∧ gn.status = .blocked ∧ ∃ h, H[n + 1]? = some h ∧ h.tk = tk ∧ γ.closed = false := fun tk htk h25 => by
    obtain ⟨h, hh, rfl⟩ := List.mem_map.1 htk
    obtain ⟨n, hn⟩ := List.getElem?_of_mem hh
    have hHn : H[n + 1]? = some h := by rw [iv.hd]; simpa using hn
    have hlt : n + 1 < gs.size := by rw [iv.gsz]; exact (List.getElem?_eq_some_iff.1 hHn).1
    obtain ⟨gn, hgn⟩ : ∃ gn, gs[n + 1]? = some gn := ⟨_, Array.getElem?_eq_getElem hlt⟩
    obtain ⟨h', r', hH', hR', hS'⟩ := iv.got hgn
    rw [hHn] at hH'; cases hH'
    refine ⟨n, gn, hgn, ?_⟩
    cases h with
    | main L t => exact absurd rfl (iv.nl _ hh L t)
    | live L t =>
      rcases hS' with ⟨a, _⟩ | ⟨a, f, g0, cs, sh, _, rfl, _⟩
      · exact absurd a (hnr _ _ hgn)
      · exact ⟨rfl, _, hHn, rfl, a⟩
    | tail t =>
      have hS' : TlR P r' gn t := hS'
      cases r' with
      | z => exact hS'.elim
      | mk f =>
        cases hS' with
        | ctl a => exact absurd a (hnr _ _ hgn)
        | shared K a => exact absurd a (hnr _ _ hgn)
        | quit n a => exact absurd a h25
    | gone t d => exact absurd hS'.1 h25
  rcases hS with ⟨a, _⟩ | ⟨hcl, f, g0, cs, sh, rfl, rfl, hr0, hst, hcm⟩ | ⟨h9, hs0, _⟩
  · exact hnr 0 g hg a
  · obtain ⟨t2, c0, z, rfl, rfl, h0, hat, hbm, hn1, _⟩ := cm_select hcm
    obtain rfl : t2 = tm := iv.tkOf iv.main0 hat
    obtain ⟨_, hle, hab, hbu, hcn, hsts⟩ := iv.toks.open0 h0
    have hp : 0 < (ws.map Gh.tk).countP up20 := by omega
    obtain ⟨tk, htk, hu⟩ := List.countP_pos_iff.1 hp
    have h25 : tk.st ≠ 25 := by intro e; simp [up20, e, Nat.ble_eq] at hu
    obtain ⟨n, gn, hgn, hb, h, hh, rfl, _⟩ := hwork tk htk h25
    obtain ⟨ha, _⟩ := iv.nm _ hg rfl h0 (n + 1) gn (by omega) hgn hb
    have hnil : busy (ws.map Gh.tk) = [] := by
      simp only [busy, List.map_eq_nil_iff, List.filter_eq_nil_iff]
      intro x hx h21
      have h21 : x.st = 21 := by simpa [is21] using h21
      obtain ⟨n', gn', hgn', hb', h', hh', rfl, _⟩ := hwork x hx (by omega)
      obtain ⟨_, h'', hh'', h20⟩ := iv.nm _ hg rfl h0 (n' + 1) gn' (by omega) hgn' hb'
      rw [hh'] at hh''; cases hh''
      omega
    rw [hnil] at hbu
    have := hbu.nil_eq
    rw [← this] at hab
    simp at hab
    omega
  · have key : ∀ tk ∈ ws.map Gh.tk, tk.st ≠ 25 → False := fun tk htk h25 => by
      obtain ⟨_, _, _, _, _, _, _, hcl⟩ := hwork tk htk h25
      rcases iv.toks.ph with ⟨a, _⟩ | ⟨a, _⟩ | ⟨_, a, _⟩ | ⟨a, _⟩ | ⟨a, _⟩ <;> (try (exfalso; omega))
      rw [hcl] at a; cases a
    have hz : ∀ (p : Tk → Bool), (∀ t, p t = true → t.st ≠ 25) → (ws.map Gh.tk).countP p = 0 := fun p hp => by
      rw [List.countP_eq_zero]
      intro x hx hpx
      exact key x hx (hp x hpx)
    have z1 := hz up20 fun t h e => by simp [up20, e, Nat.ble_eq] at h
    have z2 := hz is27 fun t h e => by simp [is27, e] at h
    have z3 := hz is28 fun t h e => by simp [is28, e] at h
    rcases iv.toks.ph with ⟨a, _⟩ | ⟨a, _⟩ | ⟨_, _, _, a⟩ | ⟨a, _⟩ | ⟨a, _⟩
    · omega
    · omega
    · omega
    · omega
    · omega
theorem Iv.awake (iv : Iv P Φ k γ rs H L0 tm ws gs w t) : ∀ g ∈ gs, Conc.awake g := by
  intro g hm
  obtain ⟨i, hi, rfl⟩ := Array.mem_iff_getElem.1 hm
  obtain ⟨h, r, _, _, hS⟩ := iv.got (Array.getElem?_eq_getElem hi)
  refine awake_of ?_
  cases h with
  | main L t =>
    rcases hS with ⟨a, _⟩ | ⟨_, f, g0, cs, sh, _, e, _⟩ | ⟨_, _, g0, e, _⟩
    · exact .inl a
    · rw [e]; exact .inr (.inl rfl)
    · rw [e]; exact .inr (.inl rfl)
  | live L t =>
    rcases hS with ⟨a, _⟩ | ⟨_, f, g0, cs, sh, _, e, _⟩
    · exact .inl a
    · rw [e]; exact .inr (.inl rfl)
  | tail t => exact (TlR.status hS).imp id .inr
  | gone t d => obtain ⟨_, n, _, hq⟩ := hS; exact hq.status.imp id .inr
/-- the starter comes to its stop -/
def Ends (P : Program) (Φ : Goroutine → Heap → Prop) (k : Ctx) (gs : Array Goroutine) (w : World) (sl : Option (Nat × Nat)) (t : Trace) : Prop :=
  ∃ (n : Nat) (gs' : Array Goroutine) (w' : World) (sl' : Option (Nat × Nat)) (t' : Trace), runNT P n (crowd gs w sl) t = (.next (crowd gs' w' sl'), t') ∧
    ∃ (γ : Gm) (rs : List Rank) (H : List Gh) (L0 : Heap) (tm : Tk) (ws : List Gh) (g : Goroutine), Iv P Φ k γ rs H L0 tm ws gs' w' t' ∧ gs'[0]? = some g ∧ Φ g L0 ∧ ∃ (d : Nat) (sl2 : Option (Nat × Nat)), stepT P (crowd gs' w' sl') = runT P (crowd gs' (w'.at d) sl2) 0
theorem Ends.after {gs gs1 : Array Goroutine} {w w1 : World} {sl sl1 : Option (Nat × Nat)} {t ops : Trace} (hs : stepT P (crowd gs w sl) = (.next (crowd gs1 w1 sl1), ops)) (h : Ends P Φ k gs1 w1 sl1 (t ++ ops)) : Ends P Φ k gs w sl t := by
  obtain ⟨n, gs', w', sl', t', h1, h2⟩ := h
  exact ⟨n + 1, gs', w', sl', t', by rw [runNT_succ_next hs]; exact h1, h2⟩
theorem iv_ends (rs : List Rank) : ∀ (b : Nat) {γ : Gm} {H : List Gh} {L0 : Heap} {tm : Tk} {ws : List Gh} {gs : Array Goroutine} {w : World} {sl : Option (Nat × Nat)} {t : Trace}, nb gs ≤ b → Iv P Φ k γ rs H L0 tm ws gs w t → Ends P Φ k gs w sl t := by
  have ha := down_acc rs
  induction ha with
  | intro rs _ ih =>
    intro b
    induction b with
    | zero =>
      intro γ H L0 tm ws gs w sl t hb iv
      exfalso
      obtain ⟨i, g, hg, hr⟩ := iv.someone
      have : 0 < nb gs := List.countP_pos_iff.2 ⟨g, by
        have := Array.mem_of_getElem? hg
        simpa using this, by simp [up, hr]⟩
      omega
    | succ b ihb =>
      intro γ H L0 tm ws gs w sl t hb iv
      obtain ⟨i, g, d, sl', hg, hr, hst⟩ := crowd_pick (P := P) (sl := sl) (w := w) iv.awake iv.someone
      rcases (iv.at d).step (sl := sl') hg hr with ⟨rfl, hΦ⟩ | ⟨γ', rs', H', L0', tm', ws', hd, hiv⟩ | ⟨γ', H', L0', tm', ws', g', hrt, hbl, hiv⟩ | ⟨γ', rs', H', L0', tm', ws', gs', w', ops, hrt, hd, hiv⟩
      · exact ⟨0, gs, w, sl, t, rfl, γ, rs, H, L0, tm, ws, g, iv, hg, hΦ, d, sl', hst⟩
      · have := hiv.at w.drawn
        exact ih rs' hd (nb gs) (Nat.le_refl _) this
      · refine Ends.after (hst.trans hrt) ?_
        rw [Array.append_empty]
        exact ihb (by have := nb_less hg hr hbl; omega) hiv
      · exact Ends.after (hst.trans hrt) (ih rs' hd (nb gs') (Nat.le_refl _) hiv)
end
end Go.HL
end

/-! QKMn -/
section
namespace Go.HL
set_option linter.unusedSectionVars false
variable [Tasks]
open Go Go.Conc
set_option linter.unusedVariables false
set_option linter.unusedSectionVars false
set_option linter.unusedSimpArgs false
section
variable {P : Program} {Φ : Goroutine → Heap → Prop} {k : Ctx}
theorem begins {L : Heap} {tm : Tk} {g : Goroutine} {W : World} (hlo : Lo P true Φ g L) (hs : Sat k W L) (hg : g.status = .running) (h12 : tm.st = 12) (htok : ∀ p ∈ L.flatten, gho p.2 = true → p = tm.at_)
    (hO : ∀ b, Tasks.O b → b < W.heap.size ∧ W.heap[b]? = Tasks.W0.heap[b]? ∧ ¬ InW L b) : ∃ r γ, Iv P Φ k γ [r] [.main L tm] L tm [] #[g] W #[] := by
  obtain ⟨r, hr⟩ := lo_rk (Φ := Φ) hlo (fun _ => rfl) (fun h => by cases h)
  have one : ∀ {j : Nat} {h : Gh}, [Gh.main L tm][j]? = some h → j = 0 ∧ h = .main L tm := fun {j h} hj => by
    cases j with
    | zero => simp at hj; exact ⟨rfl, hj.symm⟩
    | succ j => simp at hj
  have nt : ∀ i, touchAt #[] i = none := fun i => by simp [touchAt, Trace.act?]
  refine ⟨r, ⟨0, 0, 0, 0, 0, 0, 0, false⟩, rfl, by simp, rfl, rfl, ?_, ⟨hs.os, hs.out, hs.tape, by simp, by simp, by simp, by simp⟩, ?_, ?_, ?_, fun h => absurd h12 h, fun h => absurd h12 h, ?_, ?_, ?_, ?_, ?_, ?_, ⟨fun b hb => (hO b hb).2.1, ?_, fun h => absurd h12 h, fun b hb => (hO b hb).1⟩⟩
  · intro j h r' g' hj hr' hg'
    obtain ⟨rfl, rfl⟩ := one hj
    simp at hr' hg'
    subst hr' hg'
    exact .inl ⟨hg, hr⟩
  · intro j h hj
    obtain ⟨rfl, rfl⟩ := one hj
    exact hs
  · intro j h hj
    obtain ⟨rfl, rfl⟩ := one hj
    exact htok
  · intro i j a b x hij ha hb
    obtain ⟨rfl, _⟩ := one ha
    obtain ⟨rfl, _⟩ := one hb
    exact absurd rfl hij
  · exact ⟨by simp, by simp, fun h => absurd h12 h, Nat.zero_le _, .inr (.inr (.inr (.inr ⟨h12, by simp⟩)))⟩
  · refine ⟨fun said => ?_, fun i op h => (by simp at h), fun i a b h => (by rw [nt] at h; cases h), fun j b _ i a h => (by rw [nt] at h; cases h), fun j b _ i a h => (by rw [nt] at h; cases h), fun j b _ _ i a h => (by rw [nt] at h; cases h), fun i a h => (by rw [nt] at h; cases h), fun i a h => (by simp [Trace.act?] at h)⟩
    rintro ⟨i, j, _, ⟨a, b, ha, _⟩, _⟩
    simp [Trace.act?] at ha
  · intro j h hj
    obtain ⟨rfl, rfl⟩ := one hj
    simp [Deaf, Trace.deaf, Gh.df, dfm, h12]
  · intro j h hj hl
    obtain ⟨rfl, rfl⟩ := one hj
    cases hl
  · intro j h hj
    obtain ⟨rfl, rfl⟩ := one hj
    show tm.st ≤ 12
    omega
  · intro o ho hb
    simp at ho
    subst ho
    rw [hg] at hb; cases hb
  · intro j h b hj hw ho
    obtain ⟨rfl, rfl⟩ := one hj
    exact (hO b ho).2.2 hw
theorem runNT_last {m m' : Machine} {t t' ops : Trace} {o : Outcome} {w : World} : ∀ {N : Nat}, runNT P N m t = (.next m', t') → stepT P m' = (.ended o w, ops) → ∀ {t0 : Trace}, True → runNT P (N + 1) m t = (.ended o w, t' ++ ops) := by
  intro N
  induction N generalizing m t with
  | zero =>
    intro h hs _ _
    simp only [runNT, Prod.mk.injEq, Stepped.next.injEq] at h
    obtain ⟨rfl, rfl⟩ := h
    simp [runNT, hs]
  | succ N ih =>
    intro h hs t0 _
    rw [runNT] at h ⊢
    cases hm : stepT P m with
    | mk e u =>
      rw [hm] at h
      cases e with
      | next m1 => exact ih h hs (t0 := t0) trivial
      | _ => simp at h
/-- at the bottom, about to return -/
def AtBot (P : Program) (f : Nat) (fn : Func) (Q : Value → Heap → Prop) (g : Goroutine) (L : Heap) : Prop :=
  ∃ (a : Act) (todo : List Item) (ρ : Env), g = Conc.G { (Conc.base f).at a todo with mode := .returning } [] ∧ a.defers = [] ∧ Agr fn.ntmps a ρ ∧ fnQ P fn Q .ret ρ L
theorem lo_bottom {f : Nat} {fn : Func} {c : Code} {args : List Value} {L : Heap} {Q : Value → Heap → Prop} (hf : P.funcs[f]? = some fn) (hb : fn.body = some c) {n : Nat} (hn : fn.ntmps = n) (hlen : args.length ≤ n) (h : HW P n c (fnQ P fn Q) (args0 0 args) L) :
    Lo P true (AtBot P f fn Q) (Conc.G (Frame.enter P f ⟨args⟩ .normal) []) L := by
  subst hn
  rw [Conc.enter_at _ hf hb]
  refine h true _ (Conc.base f) [] [] _ (by simp [Conc.base]) (fun e ρ' L' q => ?_) ⟨?_, ?_⟩
  · cases e with
    | normal => exact fun a hd ha => .ctl rfl rfl (fun w => Conc.stepG_end) (.stop ⟨a, [], ρ', rfl, hd, ha, q⟩)
    | ret => exact fun a todo hd ha => .stop ⟨a, todo, ρ', rfl, hd, ha, q⟩
    | exit i => exact q.elim
    | goto i => exact q.elim
    | panic ch => exact q.elim
    | outgrown => exact q.elim
  · simp; omega
  · intro t v hv
    obtain ⟨_, h2⟩ := lk_args0 args 0 t v hv
    have hlt : t < args.length := (List.getElem?_eq_some_iff.1 h2).1
    simp only []
    rw [Array.getElem?_append_left (by simpa using hlt)]
    simpa using h2
theorem stepG_bottom {b : Frame} {a : Act} {todo : List Item} {w : World} {fn : Func} {v : Value} (hn : b.kind = .normal) (hd : a.defers = []) (hf : P.funcs[b.fn]? = some fn) (hi : P.inits.idxOf? b.fn = none) (hr : (results fn a.tmps).run P w = .ok v w) :
    stepG P true (Conc.G { b.at a todo with mode := .returning } []) w = .ended (.done v) w (seen P b.fn ((results fn a.tmps).events P w #[])) := by
  simp [Conc.G, stepG, unwind, doReturn, Frame.at, hn, hd, hf, hr, hi, GStep.after]
theorem runT_end {gs : Array Goroutine} {w w' : World} {sl : Option (Nat × Nat)} {i : Nat} {g : Goroutine} {o : Outcome} {es : Array Event} (hi : gs[i]? = some g) (h : stepG P (i == 0) g w = .ended o w' es) :
    runT P (crowd gs w sl) i = (.ended o w', MemOp.ofEvents i g.frame.fn g.frame.place es) := by
  obtain ⟨hlt, rfl⟩ := Array.getElem?_eq_some_iff.1 hi
  have hsw := swapAt_of_lt hlt { (default : Goroutine) with status := .finished }
  show runT P { world := w, gs := gs, rest := { timers := #[], alone := none, slice := sl } } i = _
  unfold runT
  simp only [hsw, h, GStep.es]
end
end Go.HL
end

/-! QKMo -/
section
namespace Go.HL
set_option linter.unusedSectionVars false
variable [Tasks]
open Go Go.Conc
set_option linter.unusedVariables false
set_option linter.unusedSectionVars false
set_option linter.unusedSimpArgs false
section
variable {P : Program} {Φ : Goroutine → Heap → Prop} {k : Ctx}
theorem run_good {f : Nat} {fn : Func} {c : Code} {args : List Value} {L : Heap} {Q : Value → Heap → Prop} {W : World} {tm : Tk} (hf : P.funcs[f]? = some fn) (hin : P.inits.idxOf? f = none) (hb : fn.body = some c) {n : Nat} (hn : fn.ntmps = n) (hlen : args.length ≤ n)
    (hw : HW P n c (fnQ P fn Q) (args0 0 args) L) (hQ : ∀ v L', Q v L' → ∃ t : Tk, t.at_ ∈ L'.flatten ∧ t.st = 12)
    (hs : Sat k W L) (h12 : tm.st = 12) (htok : ∀ p ∈ L.flatten, gho p.2 = true → p = tm.at_) (hO : ∀ b, Tasks.O b → b < W.heap.size ∧ W.heap[b]? = Tasks.W0.heap[b]? ∧ ¬ InW L b) :
    ∃ N last o w' t', runNT P (N + 1) (solo (G (Frame.enter P f ⟨args⟩ .normal) []) W) #[] = (.ended o w', t') ∧ runN P N (solo (G (Frame.enter P f ⟨args⟩ .normal) []) W) = .next last ∧ step P last = .ended o w' ∧
      Conc.Good P (fun v w' => ∃ L', Q v L' ∧ Sat k w' L' ∧ ∀ b, Tasks.O b → w'.heap[b]? = Tasks.W0.heap[b]?) last o w' t' := by
  obtain ⟨r, γ0, iv0⟩ := begins (lo_bottom hf hb hn hlen hw) hs rfl h12 htok hO
  obtain ⟨N, gs, w0, sl, t, hrun, γ, rs, H, L0, tm', ws, g, iv1, hg, ⟨a, todo, ρ, rfl, hd, ha, hq⟩, d, sl2, hst⟩ := iv_ends _ _ (sl := none) (Nat.le_refl _) iv0
  have iv := iv1.at d
  have hL0 : Sat k (w0.at d) L0 := iv.sat 0 _ iv.main0
  obtain ⟨v, L', h1, h2, h3⟩ := hq k (w0.at d) a hL0 ha
  obtain ⟨t0, ht0, hst0⟩ := hQ v L' h3
  obtain rfl : t0 = tm' := iv.tkOf iv.main0 (h2.tok _ ht0 rfl)
  have hstep := stepG_bottom (P := P) (b := Conc.base f) (todo := todo) rfl hd hf hin h1
  have hrt := runT_end (sl := sl2) hg (by simpa using hstep)
  have hstT := hst.trans hrt
  have htr : Tr (w0.at d) (w0.at d) L0 L0 (seen P (Conc.base f).fn ((results fn a.tmps).events P (w0.at d) #[])) := Tr.seen (tr_pl hL0 (pl_results _ _) (fun w2 hs2 => by
    obtain ⟨v2, _, h4, _⟩ := hq k w2 a hs2 ha
    exact ⟨v2, w2, h4⟩) h1 (.refl _ _))
  generalize hu : MemOp.ofEvents 0 (Conc.G { (Conc.base f).at a todo with mode := .returning } []).frame.fn (Conc.G { (Conc.base f).at a todo with mode := .returning } []).frame.place (seen P (Conc.base f).fn ((results fn a.tmps).events P (w0.at d) #[])) = u at *
  have ug : ∀ op ∈ u, op.g = 0 := fun op ho => by rw [← hu] at ho; obtain ⟨e, _, rfl⟩ := mem_ofEvents ho; rfl
  have hall : ∀ x ∈ ws.map Gh.tk, x.st = 25 := by
    rcases iv.toks.ph with ⟨q, _⟩ | ⟨q, _⟩ | ⟨q, _⟩ | ⟨q, _⟩ | ⟨_, q⟩ <;> (try (exfalso; omega))
    exact q
  have hl0 : 0 < H.length := (List.getElem?_eq_some_iff.1 iv.main0).1
  have inL : ∀ i b, InB (LfH H i) b → ∃ x, H[i]? = some x ∧ InB x.L b := fun i b hb => by
    cases hi : H[i]? with
    | none => rw [LfH, hi] at hb; exact absurd hb noB
    | some x => rw [LfH_at hi] at hb; exact ⟨x, rfl, hb⟩
  have hti := iv.ti.step (u := u) (M := (w0.at d).heap.size) (j := 0) (Lf' := LfH H) hl0 (Nat.le_refl _) ⟨fun _ h => .inl h, fun _ h => .inl h⟩ (fun _ _ => rfl)
    (fun i b hij hw hb => by
      obtain ⟨x, hx, _⟩ := inL i b hw.b
      obtain ⟨y, hy, hyb⟩ := inL 0 b hb
      rw [LfH_at hx] at hw
      exact iv.dis i 0 x y b hij hx hy hw hyb)
    (fun i b hij hw hb => by
      obtain ⟨x, hx, hxb⟩ := inL i b hb
      obtain ⟨y, hy, _⟩ := inL 0 b hw.b
      rw [LfH_at hy] at hw
      exact iv.dis 0 i y x b (fun e => hij e.symm) hy hx hw hxb)
    (fun i b hsb hb => absurd hst0 hsb.1) (fun i b hb => by obtain ⟨x, hx, hxb⟩ := inL i b hb; exact hxb.lt (iv.sat i x hx)) (fun b hsb => absurd hst0 hsb.1)
    (fun op ho => by
      rw [← hu] at ho
      obtain ⟨e, he, rfl⟩ := mem_ofEvents ho
      rw [LfH_at iv.main0]
      exact okT_ev (htr.evs e he).1 (htr.evs e he).2)
  -- who is left
  have left : ∀ (i : Nat) x, i ≠ 0 → H[i]? = some x → x.late = true ∧ x.tk.st = 25 := fun i x hi hx => by
    obtain ⟨n, rfl, _, _, hm, _⟩ := iv.isWork hx (fun L t e => by subst e; exact hi (iv.isMain hx).1)
    have h25 := hall _ hm
    refine ⟨?_, h25⟩
    cases x with
    | main L t => exact absurd (iv.isMain hx).1 hi
    | live L t => have h6 : 20 ≤ t.st ∧ t.st ≤ 22 := iv.ok _ _ hx; simp only [Gh.tk] at h25; omega
    | tail t => rfl
    | gone t d => rfl
  have quits : ∀ (i : Nat) y, i ≠ 0 → gs[i]? = some y → ∃ n, QuitsD P n (Deaf (t ++ u) i) y := fun i y hi hy => by
    obtain ⟨x, r', hx, _, hS⟩ := iv.got hy
    have hl := left i x hi hx
    rw [Deaf_other t (fun e => hi e.symm) u ug, iv.deaf i x hx]
    cases x with
    | main L t => exact absurd (iv.isMain hx).1 hi
    | live L t => cases hl.1
    | tail tk =>
      have h25 : tk.st = 25 := hl.2
      have hS : TlR P r' y tk := hS
      cases r' with
      | z => exact hS.elim
      | mk f =>
        cases hS with
        | ctl _ _ q => exact absurd h25 q
        | shared K _ q => exact absurd h25 q
        | quit n _ q => exact ⟨n, by simpa [Gh.df, h25] using q⟩
    | gone tk d => obtain ⟨_, n, _, q⟩ := hS; exact ⟨n, q⟩
  have hrun' : runNT P N (solo (G (Frame.enter P f ⟨args⟩ .normal) []) W) #[] = (.next (crowd gs w0 sl), t) := hrun
  refine ⟨N, crowd gs w0 sl, .done v, w0.at d, t ++ u, runNT_last hrun' hstT (t0 := #[]) trivial, by rw [← runNT_fst P N _ #[], hrun'], by rw [← stepT_fst P _ true, hstT], v, rfl, ⟨L', h3, h2.sat k _ hL0, iv.old.same⟩, hti.nr, ?_, ⟨?_, rfl⟩, ?_⟩
  · intro i g' hgi hne hc
    have hlt : g' < H.length := by
      obtain ⟨op, q1, q2⟩ := Option.map_eq_some_iff.1 hgi
      have := hti.g i op q1
      omega
    obtain ⟨x, hx⟩ : ∃ x, H[g']? = some x := ⟨_, List.getElem?_eq_getElem hlt⟩
    have hl := left g' x hne hx
    have hho := (iv.ho g' x hx hl.1).resolve_right fun q => q.1 hst0
    exact (hho.app (others_silent hne ug)) i hgi hc
  · intro y hy
    rw [List.mem_iff_getElem?] at hy
    obtain ⟨i, hi⟩ := hy
    rw [List.getElem?_drop] at hi
    have hi' : gs[1 + i]? = some y := by rw [← hi]; simp [crowd]
    obtain ⟨n, q⟩ := quits (1 + i) y (by omega) hi'
    exact ⟨n, q.leaves⟩
  · intro i y hy hi
    obtain ⟨n, q⟩ := quits i y hi hy
    exact ⟨n, q.hears _⟩
end
end Go.HL
end

/-! QSdL -/
section
namespace Go.HL 
open Go Go.Proofs Go.Conc Go.ChangeShapes Go.WideShapes Go.ChangeAt Go.RowKit
set_option linter.unusedVariables false
set_option linter.unusedSimpArgs false
/-- the tasks of two groups: one frame, and the frames told -/
@[reducible] def sideTasks (W : World) (E : Nat → Addr) (ss : List (List UInt8)) : Tasks where
  R g i v bl := v = doneV i (frD (if g = 0 then [encS fr1] else ss) i) (eV 267 E (ecD (if g = 0 then [encS fr1] else ss) i)) ∧ bl = []
  m := 0
  O b := b < W.heap.size
  W0 := W
  T := 212
@[reducible] def noTasks (W : World) : Tasks where
  R _ _ _ _ := False
  m := 0
  O b := b < W.heap.size
  W0 := W
  T := 212
theorem ro_blks [Tasks] {W : World} : ∀ p ∈ ([blks W] : Heap).flatten, rob p.2 = true := fun p hp => by
  rw [show ([blks W] : Heap).flatten = blks W by simp] at hp
  obtain ⟨c, E, fr, h1, h2⟩ := of_blks hp
  rw [h2]
  exact rob_mark _ _ _
theorem no_gho [Tasks] {W : World} : ∀ p ∈ ([blks W] : Heap).flatten, gho p.2 = false := fun p hp => by
  rw [show ([blks W] : Heap).flatten = blks W by simp] at hp
  obtain ⟨c, E, fr, h1, h2⟩ := of_blks hp
  rw [h2]; rfl
/-- the token ahead of all -/
def tok0 (b : Nat) : Tk := ⟨0, b, 0, 0, 0, 0, 12, 0, 0, []⟩
theorem sat_tok [Tasks] {W : World} {b : Nat} (hb : b < W.heap.size) (hn : ∀ c E fr, W.heap[b]? ≠ some (.cells c E fr)) : Sat (ctx W) W ([(tok0 b).at_] :: [blks W]) := by
  have h := sat_init W
  have hf : ([(tok0 b).at_] :: [blks W] : Heap).flatten = (tok0 b).at_ :: ([blks W] : Heap).flatten := by simp
  refine ⟨rfl, rfl, rfl, fun p hp hg => ?_, ?_, fun p hp => ?_, fun p hp => ?_⟩ <;> rw [hf] at *
  · rcases List.mem_cons.1 hp with rfl | hp
    · exact absurd hg (by simp [Tk.at_, Tk.gho])
    · exact h.has p hp hg
  · rw [List.map_cons, List.nodup_cons]
    refine ⟨fun hm => ?_, h.nodup⟩
    obtain ⟨q, hq, e⟩ := List.mem_map.1 hm
    rw [show ([blks W] : Heap).flatten = blks W by simp] at hq
    obtain ⟨c, E, fr, h1, h2⟩ := of_blks hq
    rw [e] at h1
    exact hn c E fr h1
  · rcases List.mem_cons.1 hp with rfl | hp
    · rfl
    · exact h.nv p hp
  · rcases List.mem_cons.1 hp with rfl | hp
    · exact hb
    · exact h.lt p hp
theorem side_run {W : World} {E : Nat → Addr} {ss : List (List UInt8)} {wk : Int} {a : Option Addr} {cap b : Nat} (hb : b < W.heap.size) (hn : ∀ c E fr, W.heap[b]? ≠ some (.cells c E fr))
    (hE : letI := sideTasks W E ss; Ez 267 E [blks W]) (hRd : letI := sideTasks W E ss; Rd bsc 1 [blks W] a ss) :
    ∃ N last o w' t', runNT Tryd.prog (N + 1) (solo (G (Frame.enter Tryd.prog 13 ⟨[.slice a ss.length cap, iv wk]⟩ .normal) []) W) #[] = (.ended o w', t') ∧ runN Tryd.prog N (solo (G (Frame.enter Tryd.prog 13 ⟨[.slice a ss.length cap, iv wk]⟩ .normal) []) W) = .next last ∧ step Tryd.prog last = .ended o w' ∧
      Conc.Good Tryd.prog (fun v w' => v = .bool true ∧ Below W.heap.size W w') last o w' t' := by
  letI := sideTasks W E ss
  letI : Go.ConcR.Payload := ⟨0⟩
  obtain ⟨l, Eg, frg, hg1, hg2⟩ := hE.et
  rw [Has, show ([blks W] : Heap).flatten = blks W by simp] at hg1
  obtain ⟨c, E1, fr, hg3, hg4⟩ := of_blks hg1
  have hc : c = ⟨l⟩ := by
    simp only [ronly, Obj.cells.injEq] at hg4
    exact hg4.1.symm
  subst hc
  have hg5 : Obj.cells ⟨l⟩ Eg frg = ronly (.cells ⟨l⟩ E1 fr) := hg4
  have hg6 : (⟨l⟩ : Array Value)[0]? = some (.iface 241 (.agg #[.pointer (some ⟨10, 37, none⟩)])) := by simpa using hg2
  have hA : AtC 9 (.cells ⟨l⟩ E1 fr) [blks W] := ⟨⟨_, by rw [show ([blks W] : Heap).flatten = blks W by simp]; exact hg1, rfl, by rw [hg5, act_mark]⟩, (Array.getElem?_eq_some_iff.1 hg3).1, hg3, fun x y z e => by
    unfold wgObj at e
    simp only [Obj.cells.injEq] at e
    have := e.1
    simp only [Array.mk.injEq] at this
    rw [this] at hg2
    simp at hg2⟩
  obtain ⟨cd, n, h1, h2, h3, h4, h5⟩ := sideDec_calls (t := tok0 b) (L0 := [blks W]) 267 E ss wk a cap rfl hA hg6 rfl ro_blks (LS.refl _) hE hRd (fun i _ => ⟨rfl, rfl⟩) (fun i v bl h => h) (fun i _ => ⟨rfl, rfl⟩) (fun i v bl h => h)
  obtain ⟨N, last, o, w', t', r1, r2, r3, r4⟩ := run_good (tm := tok0 b) h1 (by kernel_rfl) h2 h3 h4 h5 (fun v L' ⟨t', ht, _, e⟩ => ⟨t', by rw [e]; simp, ht⟩) (sat_tok hb hn) rfl (fun p hp hg => by
      rw [show ([(tok0 b).at_] :: [blks W] : Heap).flatten = (tok0 b).at_ :: ([blks W] : Heap).flatten by simp] at hp
      rcases List.mem_cons.1 hp with rfl | hp
      · rfl
      · rw [no_gho p hp] at hg; cases hg) (fun x hx => ⟨hx, rfl, fun ⟨o, ho, hp⟩ => by
      rw [show ([(tok0 b).at_] :: [blks W] : Heap).flatten = (tok0 b).at_ :: ([blks W] : Heap).flatten by simp] at ho
      unfold pln at hp
      rcases List.mem_cons.1 ho with e | ho
      · cases e; simp [Tk.gho] at hp
      · rw [ro_blks _ ho] at hp; simp at hp⟩)
  refine ⟨N, last, o, w', t', r1, r2, r3, r4.elim fun v x => ⟨v, x.1, ?_, x.2.2⟩⟩
  obtain ⟨L', ⟨t2, -, hv, -⟩, hs, hO⟩ := x.2.1
  refine ⟨hv, hs.os, hs.tape, hs.out, ?_, fun k hk => hO k hk⟩
  cases hz : W.heap.size with
  | zero => omega
  | succ m =>
    have hm : m < W.heap.size := by omega
    have h1 : w'.heap[m]? = W.heap[m]? := hO m hm
    have h3 : w'.heap[m]? = some (W.heap[m]'hm) := h1.trans (Array.getElem?_eq_getElem hm)
    obtain ⟨h4, _⟩ := Array.getElem?_eq_some_iff.1 h3
    omega
end Go.HL
end

