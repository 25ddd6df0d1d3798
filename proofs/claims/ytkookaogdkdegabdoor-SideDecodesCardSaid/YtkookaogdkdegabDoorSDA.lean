/- Texts laid into one, without what the claim does not use. Conditions: none. -/
import Derived.Leaving
import Derived.Conc.Holds
import Derived.SevenTiedAt
import Derived.JoinedCond
import Derived.Conc.LeavingOf
import Derived.Deep.DeepHandedRow
import Derived.WalkKit
import Derived.Conc.Listed
import Derived.Conc.Own5
import Derived.Conc.RecvAny
import Derived.WalkSpells
import Derived.WalkLawsBesides
import Derived.Deep.Quiet
import Derived.KernelRfl
import Derived.Conc.CompanyCalls
import Derived.Conc.QuitsD
import Derived.Test.YtkookaogdkdegabDoorProg
/-! QCdLv -/
section
namespace Go.HL 
open Go
theorem holds_tied_goes (Lk : Looks) {p : Pinned} {s : OpenSpec} {c : OpenClaim} (al : List (List PathCond)) (kinds : List LaidKind) (tests : Bool) (har : Bool × String) (lk : Bool) (g : Bool)
    (hc : c.holds p s) (hal : ∀ D ∈ al, (c.withDomain D).holds p s) (hw : c.wfByText s = true) (hwal : ∀ D ∈ al, (c.withDomain D).wfByText s = true)
    (htie : c.laidByTextAt Lk p kinds tests)
    (hst : c.start = .entering) (hnb : c.noBlocks = false ∧ c.again = false) (hm : p.checked.prog.mainIs = some (har.1, har.2.toList)) (hn : (!har.1 && har.2.isEmpty && !lk) = false)
    (hl : ∀ f fn, p.checked.prog.funcNamed c.func = some f → p.checked.prog.funcs[f]? = some fn → lk = p.checked.prog.looks [] ∧ ∀ (j : Nat) t, fn.params[j]? = some t → p.checked.prog.wantsStandIn t = false)
    (hg : g = c.goesBy p.checked.prog) :
    Claim7.holds p (.plain s) { stood := { row := c, standIns := [], harness := har, looks := lk }, kinds := [], alts := al, laidByText := true, laidKinds := kinds, laidTests := tests, laidLooks := Lk, goes := g } := by
  have h6 : ∀ r : OpenClaim, Claim7.isSixth { stood := { row := r, standIns := [], harness := har, looks := lk }, kinds := [] } = false := fun r => by simpa [Claim7.isSixth] using hn
  refine ⟨Claim7.tied_new_at Lk kinds tests (Claim7.new_of_sixth hc har lk hst hnb hm (h6 c) hl) hw, fun D hD => ?_, htie, (fun h => by cases h), hg⟩
  exact Claim7.tied_new_at Lk kinds tests (Claim7.new_of_sixth (hal D hD) har lk hst hnb hm (h6 _) hl) (hwal D hD)
end Go.HL
end

/-! QCdLr -/
section
namespace Go.HL 
open Go Go.Conc
set_option linter.unusedVariables false
theorem leaving_of_row {H : Type} {enc : TypeId × Value → H} {a : Assume} {C : Checked} {os : Os} {f : FuncId} {fn : Func} {s : OpenSpec} {F : Stop.Interp} {conds : List PathCond} {apart fresh handsOn again : Bool} {laid : List (String × DataW Unit)}
    (own : ownKnob C.prog.godebug = none) (started : os.Started) (hfn : C.prog.funcs[f]? = some fn)
    (witness : ∃ (w : World) (tape : Tape) (i : Input), w.os = os ∧ (w.forCall tape i).Shaped C.prog ∧ i.vars = [] ∧ Input.okWide C.prog (w.forCall tape i) .any w.heap.size f i ∧
      s.preRow enc C.prog fn conds apart laid (w.forCall tape i).memory i.args ∧ a.holds C.prog (lone (Frame.enter C.prog f i.args .normal) [] (w.forCall tape i)))
    (contract : ∀ (W : World) (base : Nat) (args : Array Value) (ds gs : List (DataW H)) (before : List MemPlace),
      (∀ (j : Nat) t v, fn.params[j]? = some t → args[j]? = some v → Value.okWide C.prog W .any base t v) →
      DataW.Whole enc C.prog fn.params.toList s.vars apart W args.toList ds gs before →
      laidMetH C.prog laid W →
      W.ShapedOpen C.prog →
      ∃ M last o w' t', runNT C.prog (M + 1) (solo (G (Frame.enter C.prog f args .normal) []) W) #[] = (.ended o w', t') ∧ runN C.prog M (solo (G (Frame.enter C.prog f args .normal) []) W) = .next last ∧
        step C.prog last = .ended o w' ∧ Conc.Good C.prog (fun v W' => (s.at F).post enc C.prog fn apart fresh handsOn again W args v W') last o w' t') :
    ReturnsInLeavingWide a C os f .any (s.preRow enc C.prog fn conds apart laid) ((s.at F).post enc C.prog fn apart fresh handsOn again) := by
  refine returnsInLeavingWide_of_good own started witness ?_
  intro w tape i _ hsh _ hok hpre hholds
  obtain ⟨_, _, _, fn', hfn', _, _, _, _, hval⟩ := hok
  have e : fn' = fn := Option.some.inj (hfn'.symm.trans hfn)
  subst e
  obtain ⟨⟨hp, hl⟩, hz⟩ := hpre
  obtain ⟨ds, gs, before, hw, hc, hk⟩ := OpenSpec.pre_parts hp
  have hw' := DataW.Whole.of_heap (w' := w.forCall tape i) (by rfl) hw
  obtain ⟨M, last, o, w', t', h1, h2, h3, h4⟩ := contract (w.forCall tape i) w.heap.size i.args ds gs before hval hw' (hl.of_heap (by rfl)) hsh
  exact ⟨M, last, o, w', t', h1, h2, h3, h4.mono fun v hp => ChangeSpec.post_blind hp⟩
end Go.HL
end

/-! QKLoc -/
section
namespace Go.HL
open Go
set_option linter.unusedVariables false
set_option linter.unusedSimpArgs false
def noView : Obj → Bool
  | .view _ _ => false
  | _ => true
/-- it ends by a halt, whatever the world -/
def Halts {α : Type} (P : Program) (s : Sem α) : Prop := ∀ w, ∃ h w', s.run P w = .halt h w'
/-- marks that order nothing -/
def PMark (m : Mark) : Prop := m = .noRoom ∨ ∃ f, m = .extern f
/-- what an operation may do: it freezes nothing, asks for no shape of foreign blocks, writes what it may write -/
def Plo {α : Type} (P : Program) (B W : Nat → Prop) (N : Nat) : Sem α → Prop
  | .pure _ => True
  | .halt _ => True
  | .load m a k => (∀ v, Plo P B W N (k v)) ∨ Halts P (.load m a k)
  | .store m a v k => ((W a.block ∨ N ≤ a.block) ∧ Plo P B W N k) ∨ Halts P (.store m a v k)
  | .new o k => (noView o = true ∧ ∀ r, N ≤ r → Plo P B W N (k r)) ∨ Halts P (.new o k)
  | .shape r k => ((B r ∨ N ≤ r) ∧ ∀ s, Plo P B W N (k s)) ∨ Halts P (.shape r k)
  | .freeze a n k => ((W a.block ∨ N ≤ a.block) ∧ Plo P B W N k) ∨ Halts P (.freeze a n k)
  | .frozen a k => ((B a.block ∨ N ≤ a.block) ∧ ∀ b, Plo P B W N (k b)) ∨ Halts P (.frozen a k)
  | .getObj r k => (∀ o, Plo P B W N (k o)) ∨ Halts P (.getObj r k)
  | .setObj r o k => ((W r ∨ N ≤ r) ∧ noView o = true ∧ Plo P B W N k) ∨ Halts P (.setObj r o k)
  | .choose q k => (∀ n, Plo P B W N (k n)) ∨ Halts P (.choose q k)
  | .sys c k => Halts P (.sys c k)
  | .program k => Plo P B W N (k P) ∨ Halts P (.program k)
  | .mark m k => (PMark m ∧ Plo P B W N k) ∨ Halts P (.mark m k)
theorem pl_of_halts {α : Type} {P : Program} {B W : Nat → Prop} {N : Nat} {s : Sem α} (h : Halts P s) : Plo P B W N s := by
  cases s <;> first | exact trivial | exact .inr h | exact h
theorem Halts.bind {α β : Type} {P : Program} {s : Sem α} (h : Halts P s) (f : α → Sem β) : Halts P (s.bind f) := fun w => by
  obtain ⟨x, w', hx⟩ := h w
  have key : ∀ (s : Sem α) (w : World), s.run P w = .halt x w' → (s.bind f).run P w = .halt x w' := by
    intro s
    induction s with
    | pure a => intro w h; cases h
    | halt y => intro w h; simpa [Sem.bind, Sem.run] using h
    | load m a k ih =>
      intro w h
      simp only [Sem.bind, Sem.run] at h ⊢
      cases hc : w.cell? a with
      | some v => rw [hc] at h; exact ih v w h
      | none =>
        rw [hc] at h
        cases hf : w.farLoad P a (m == .atomic) with
        | ok r => rw [hf] at h; exact ih r.1 w h
        | error e => rw [hf] at h; simpa using h
    | store m a v k ih =>
      intro w h
      have hrun : ∀ {γ : Type} (q : Sem γ), (∀ cs, v ≠ .agg cs) → (∀ cs, v ≠ .tuple cs) → (Sem.store m a v q).run P w = match w.cell? a with
          | some _ => if w.frozen? a then .halt (.unsupported (.unsafePointer "a write to bytes that a string shares")) w else q.run P (w.setCell a v)
          | none => match w.farStore P a v (m == .atomic) with
            | .ok (w, _) => q.run P w
            | .error h => .halt h w := fun q h1 h2 => by
        cases v <;> first | exact absurd rfl (h1 _) | exact absurd rfl (h2 _) | rfl
      by_cases h1 : ∃ cs, v = .agg cs
      · obtain ⟨cs, rfl⟩ := h1; simpa [Sem.bind, Sem.run] using h
      by_cases h2 : ∃ cs, v = .tuple cs
      · obtain ⟨cs, rfl⟩ := h2; simpa [Sem.bind, Sem.run] using h
      have h1' : ∀ cs, v ≠ .agg cs := fun cs e => h1 ⟨cs, e⟩
      have h2' : ∀ cs, v ≠ .tuple cs := fun cs e => h2 ⟨cs, e⟩
      simp only [Sem.bind]
      rw [hrun _ h1' h2'] at h ⊢
      cases hc : w.cell? a with
      | some y =>
        rw [hc] at h
        cases hz : w.frozen? a with
        | true => rw [hz] at h; simpa using h
        | false => rw [hz] at h; simp only [Bool.false_eq_true, if_false] at h ⊢; exact ih _ h
      | none =>
        rw [hc] at h
        cases hf : w.farStore P a v (m == .atomic) with
        | ok r => rw [hf] at h; exact ih _ h
        | error e => rw [hf] at h; simpa using h
    | new o k ih => intro w h; exact ih _ _ h
    | shape r k ih => intro w h; exact ih _ _ h
    | freeze a n k ih => intro w h; exact ih _ h
    | frozen a k ih => intro w h; exact ih _ _ h
    | getObj r k ih =>
      intro w h
      simp only [Sem.bind, Sem.run] at h ⊢
      cases hr : w.heap[r]? with
      | none => rw [hr] at h; simpa using h
      | some o => rw [hr] at h; cases o <;> first | exact ih _ _ h | simpa using h
    | setObj r o k ih =>
      intro w h
      simp only [Sem.bind, Sem.run] at h ⊢
      cases hr : w.heap[r]? with
      | none => rw [hr] at h; simpa using h
      | some o => rw [hr] at h; cases o <;> first | exact ih _ h | simpa using h
    | choose q k ih =>
      intro w h
      simp only [Sem.bind, Sem.run] at h ⊢
      split at h
      · rename_i e; rw [if_pos e]; exact ih _ _ h
      · rename_i e; rw [if_neg e]; exact ih _ _ h
    | sys c k ih => intro w h; exact ih _ _ h
    | program k ih => intro w h; exact ih _ _ h
    | mark m k ih => intro w h; exact ih _ h
  exact ⟨x, w', key s w hx⟩
section
variable {P : Program} {B W : Nat → Prop} {N : Nat}
theorem Plo.bind' {α β : Type} {x : Sem α} {f : α → Sem β} (hx : Plo P B W N x) (hf : ∀ a, Plo P B W N (f a)) : Plo P B W N (x.bind f) := by
  induction x with
  | pure a => exact hf a
  | halt h => exact trivial
  | load m a k ih => exact hx.imp (fun hx v => ih v (hx v)) fun h => h.bind f
  | store m a v k ih => exact hx.imp (fun hx => ⟨hx.1, ih hx.2⟩) fun h => h.bind f
  | new o k ih => exact hx.imp (fun hx => ⟨hx.1, fun r hr => ih r (hx.2 r hr)⟩) fun h => h.bind f
  | shape r k ih => exact hx.imp (fun hx => ⟨hx.1, fun s => ih s (hx.2 s)⟩) fun h => h.bind f
  | freeze a n k ih => exact hx.imp (fun hx => ⟨hx.1, ih hx.2⟩) fun h => h.bind f
  | frozen a k ih => exact hx.imp (fun hx => ⟨hx.1, fun b => ih b (hx.2 b)⟩) fun h => h.bind f
  | getObj r k ih => exact hx.imp (fun hx o => ih o (hx o)) fun h => h.bind f
  | setObj r o k ih => exact hx.imp (fun hx => ⟨hx.1, hx.2.1, ih hx.2.2⟩) fun h => h.bind f
  | choose q k ih => exact hx.imp (fun hx n => ih n (hx n)) fun h => h.bind f
  | sys c k ih => exact Halts.bind hx f
  | program k ih => exact hx.imp (fun hx => ih P hx) fun h => h.bind f
  | mark m k ih => exact hx.imp (fun hx => ⟨hx.1, ih hx.2⟩) fun h => h.bind f
theorem Plo.bind {α β : Type} {x : Sem α} {f : α → Sem β} (hx : Plo P B W N x) (hf : ∀ a, Plo P B W N (f a)) : Plo P B W N (x >>= f) := hx.bind' hf
/-- two worlds that agree where one may look -/
structure Ag (B : Nat → Prop) (N : Nat) (w w2 : World) : Prop where
  size : w2.heap.size = w.heap.size
  tape : w2.tape = w.tape
  drawn : w2.drawn = w.drawn
  os : w2.os = w.os
  out : w2.output = w.output
  same : ∀ b, B b ∨ N ≤ b → w2.heap[b]? = w.heap[b]?
theorem Ag.refl (w : World) : Ag B N w w := ⟨rfl, rfl, rfl, rfl, rfl, fun _ _ => rfl⟩
/-- an event within bounds -/
def EvIn (B W : Nat → Prop) (N : Nat) (e : Event) : Prop := (∃ b, (e.loc = .obj b ∨ ∃ a, e.loc = .cell a ∧ a.block = b) ∧ (if e.write then W b ∨ N ≤ b else B b ∨ N ≤ b)) ∨ ∃ m, e = ⟨.mark m, false, true⟩ ∧ PMark m
/-- the block is there -/
def EvLt (M : Nat) (e : Event) : Prop := ∀ b, (e.loc = .obj b ∨ ∃ a, e.loc = .cell a ∧ a.block = b) → b < M
theorem EvLt.cell {M : Nat} {a : Addr} {x y : Bool} (h : a.block < M) : EvLt M ⟨.cell a, x, y⟩ := fun b hb => by
  rcases hb with h1 | ⟨a', h1, h2⟩
  · cases h1
  · cases h1; exact h2 ▸ h
theorem EvLt.obj {M r : Nat} {x y : Bool} (h : r < M) : EvLt M ⟨.obj r, x, y⟩ := fun b hb => by
  rcases hb with h1 | ⟨a', h1, h2⟩
  · cases h1; exact h
  · cases h1
theorem EvLt.mark {M : Nat} {m : Mark} {x y : Bool} : EvLt M ⟨.mark m, x, y⟩ := fun b hb => by
  rcases hb with h1 | ⟨a', h1, h2⟩ <;> cases h1
def NV (B : Nat → Prop) (N : Nat) (w : World) : Prop := ∀ b o, B b ∨ N ≤ b → w.heap[b]? = some o → noView o = true
theorem world_heap (w : World) (h : Array Obj) (e : h = w.heap) : ({ w with heap := h } : World) = w := by subst e; rfl
def junkW (w : World) (b : Nat) : World := { w with heap := w.heap.setIfInBounds b (.cells #[] 0 (0, 0)) }
theorem junk_ag {w : World} {b : Nat} (hb : ¬ (B b ∨ N ≤ b)) : Ag B N w (junkW w b) := ⟨by simp [junkW], rfl, rfl, rfl, rfl, fun c hc => by
  have : b ≠ c := fun e => hb (e ▸ hc)
  simp [junkW, Array.getElem?_setIfInBounds_ne this]⟩
theorem junk_at {w : World} {b : Nat} (h : b < w.heap.size) : (junkW w b).heap[b]? = some (.cells #[] 0 (0, 0)) := by
  simp [junkW, h]
theorem getElem?_lt {w : World} {b : Nat} {o : Obj} (h : w.heap[b]? = some o) : b < w.heap.size := (Array.getElem?_eq_some_iff.1 h).1
/-- one step of such an operation, the rest being well -/
def Loc1 {α : Type} (P : Program) (B W : Nat → Prop) (N : Nat) (s : Sem α) : Prop := ∀ (w : World) (es : Array Event), N ≤ w.heap.size → NV B N w → (∀ w2, Ag B N w w2 → ∃ v w', s.run P w2 = .ok v w') →
    ∃ v w' es', s.runT P w es = (.ok v w', es ++ es') ∧ (∀ e ∈ es', EvIn B W N e ∧ EvLt w'.heap.size e) ∧ w.heap.size ≤ w'.heap.size ∧ ∀ b, b < N → ¬ W b → w'.heap[b]? = w.heap[b]?
theorem evs_push {es es' : Array Event} {e : Event} : (es.push e) ++ es' = es ++ (#[e] ++ es') := by
  apply Array.ext'; simp
theorem loc_push {B W : Nat → Prop} {N M : Nat} {e : Event} {es' : Array Event} (he : EvIn B W N e) (hm : EvLt M e) (h : ∀ x ∈ es', EvIn B W N x ∧ EvLt M x) : ∀ x ∈ #[e] ++ es', EvIn B W N x ∧ EvLt M x := fun x hx => by
  rcases Array.mem_append.1 hx with hx | hx
  · have : x = e := by simpa using hx
    rw [this]; exact ⟨he, hm⟩
  · exact h x hx
theorem ev_cell {a : Addr} {sy : Bool} (h : B a.block ∨ N ≤ a.block) : EvIn B W N ⟨.cell a, false, sy⟩ := .inl ⟨a.block, .inr ⟨a, rfl, rfl⟩, by simpa using h⟩
theorem ev_cellw {a : Addr} {sy : Bool} (h : W a.block ∨ N ≤ a.block) : EvIn B W N ⟨.cell a, true, sy⟩ := .inl ⟨a.block, .inr ⟨a, rfl, rfl⟩, by simpa using h⟩
theorem ev_obj {r : Nat} {sy : Bool} (h : B r ∨ N ≤ r) : EvIn B W N ⟨.obj r, false, sy⟩ := .inl ⟨r, .inl rfl, by simpa using h⟩
theorem ev_objw {r : Nat} {sy : Bool} (h : W r ∨ N ≤ r) : EvIn B W N ⟨.obj r, true, sy⟩ := .inl ⟨r, .inl rfl, by simpa using h⟩
theorem Ag.swap {w w' w2 : World} {b : Nat} {o : Obj} (hb : w.heap[b]? = some o) (h : Ag B N w' w2) (h1 : w'.heap.size = w.heap.size) (h2 : w'.tape = w.tape) (h3 : w'.drawn = w.drawn) (h4 : w'.os = w.os) (h5 : w'.output = w.output)
    (h6 : ∀ j, j ≠ b → w'.heap[j]? = w.heap[j]?) : Ag B N w { w2 with heap := w2.heap.setIfInBounds b o } := by
  have hlt := getElem?_lt hb
  refine ⟨by simp [h.size, h1], h.tape.trans h2, h.drawn.trans h3, h.os.trans h4, h.out.trans h5, fun c hc => ?_⟩
  by_cases e : b = c
  · subst e
    rw [Array.getElem?_setIfInBounds_self_of_lt (by rw [h.size, h1]; exact hlt), hb]
  · simp only [Array.getElem?_setIfInBounds_ne e]
    rw [h.same c hc, h6 c (fun q => e q.symm)]
theorem set_back {h : Array Obj} {b : Nat} {o x : Obj} (hx : h[b]? = some x) : (h.setIfInBounds b o).setIfInBounds b x = h := by
  apply Array.ext_getElem?
  intro j
  have hlt := (Array.getElem?_eq_some_iff.1 hx).1
  by_cases e : b = j
  · subst e; rw [Array.getElem?_setIfInBounds_self_of_lt (by simpa using hlt), hx]
  · simp [Array.getElem?_setIfInBounds_ne e]
theorem loc_load {P : Program} {α : Type} {m : Mode} {a : Addr} {k : Value → Sem α} (ih : ∀ v, Loc1 P B W N (k v)) : Loc1 P B W N (.load m a k) := by
  intro w es hN hv hok
  by_cases hb : B a.block ∨ N ≤ a.block
  · have hcell : ∀ w2, Ag B N w w2 → w2.cell? a = w.cell? a := fun w2 h2 => by unfold World.cell?; rw [h2.same _ hb]
    cases hc : w.cell? a with
    | some v =>
      obtain ⟨x, w', es', h1, h2, h3, h4⟩ := ih v w (es.push ⟨.cell a, false, m == .atomic⟩) hN hv fun w2 h2 => by
        have := hok w2 h2
        simpa only [Sem.run, hcell w2 h2, hc] using this
      refine ⟨x, w', #[⟨.cell a, false, m == .atomic⟩] ++ es', ?_, loc_push (ev_cell hb) (.cell (by
        unfold World.cell? at hc
        split at hc
        · exact Nat.lt_of_lt_of_le (getElem?_lt (by assumption)) h3
        · cases hc)) h2, h3, h4⟩
      simp only [Sem.runT, hc]
      rw [h1, evs_push]
    | none =>
      obtain ⟨x, w', h⟩ := hok w (.refl w)
      simp only [Sem.run, hc] at h
      exfalso
      unfold World.farLoad at h
      cases hw : w.heap[a.block]? with
      | none => rw [hw] at h; simp at h
      | some o =>
        have := hv _ _ hb hw
        rw [hw] at h
        cases o <;> simp [noView] at this h
  · exfalso
    have hlt : a.block < w.heap.size := by omega
    obtain ⟨x, w', h⟩ := hok _ (junk_ag hb)
    have hj := junk_at hlt
    have hc : (junkW w a.block).cell? a = none := by
      unfold World.cell?
      rw [hj]
      simp
    simp only [Sem.run, hc] at h
    unfold World.farLoad at h
    rw [hj] at h
    simp at h
theorem loc_store {P : Program} {α : Type} {m : Mode} {a : Addr} {v : Value} {k : Sem α} (hW : W a.block ∨ N ≤ a.block) (hWB : ∀ b, W b → B b) (ih : Loc1 P B W N k) : Loc1 P B W N (.store m a v k) := by
  intro w es hN hv hok
  have hb : B a.block ∨ N ≤ a.block := hW.imp (hWB _) id
  obtain ⟨x0, w0, h0⟩ := hok w (.refl w)
  have hone : (∀ cs, v ≠ .agg cs) ∧ ∀ cs, v ≠ .tuple cs := ⟨fun cs e => by subst e; simp [Sem.run] at h0, fun cs e => by subst e; simp [Sem.run] at h0⟩
  have hrun : ∀ w2 : World, (Sem.store m a v k).run P w2 = match w2.cell? a with
    | some _ => if w2.frozen? a then .halt (.unsupported (.unsafePointer "a write to bytes that a string shares")) w2 else k.run P (w2.setCell a v)
    | none => match w2.farStore P a v (m == .atomic) with
      | .ok (w, _) => k.run P w
      | .error h => .halt h w2 := fun w2 => by
    cases v <;> first | exact absurd rfl (hone.1 _) | exact absurd rfl (hone.2 _) | rfl
  have hrunT : (Sem.store m a v k).runT P w es = match w.cell? a with
    | some _ => if w.frozen? a then (.halt (.unsupported (.unsafePointer "a write to bytes that a string shares")) w, es) else k.runT P (w.setCell a v) (es.push ⟨.cell a, true, m == .atomic⟩)
    | none => match w.farStore P a v (m == .atomic) with
      | .ok (w, touched) => k.runT P w (es ++ touched.toArray.map (⟨.cell ·, true, m == .atomic⟩))
      | .error h => (.halt h w, es) := by
    cases v <;> first | exact absurd rfl (hone.1 _) | exact absurd rfl (hone.2 _) | rfl
  rw [hrun] at h0
  cases hc : w.cell? a with
  | none =>
    exfalso
    rw [hc] at h0
    unfold World.farStore at h0
    cases hw : w.heap[a.block]? with
    | none => rw [hw] at h0; simp at h0
    | some o =>
      have := hv _ _ hb hw
      rw [hw] at h0
      cases o <;> simp [noView] at this h0
  | some y =>
    rw [hc] at h0 hrunT
    cases hf : w.frozen? a with
    | true => rw [hf] at h0; simp at h0
    | false =>
      rw [hf] at hrunT
      simp only [Bool.false_eq_true, if_false] at hrunT
      obtain ⟨c, E, fr, hw⟩ : ∃ c E fr, w.heap[a.block]? = some (.cells c E fr) := by
        unfold World.cell? at hc
        split at hc
        · exact ⟨_, _, _, by assumption⟩
        · cases hc
      have hlt := getElem?_lt hw
      have hset : ∀ w2 : World, w2.heap[a.block]? = some (.cells c E fr) → (w2.setCell a v).heap = w2.heap.setIfInBounds a.block (.cells (if a.spot.isSome then c else c.setIfInBounds a.off v) E fr) := fun w2 h2 => by
        apply Array.ext_getElem?
        intro j
        have hl2 := getElem?_lt h2
        by_cases e : a.block = j
        · subst e
          rw [Array.getElem?_setIfInBounds_self_of_lt hl2]
          simp only [World.setCell, Array.getElem?_modify, h2, Option.map_some, if_true]
        · simp [World.setCell, Array.getElem?_modify, e, Array.getElem?_setIfInBounds_ne e]
      obtain ⟨x, w', es', h1, h2, h3, h4⟩ := ih (w.setCell a v) (es.push ⟨.cell a, true, m == .atomic⟩) (by simpa [World.setCell] using hN) (fun b o hb2 ho => by
        rw [hset w hw] at ho
        by_cases e : a.block = b
        · subst e
          simp [hlt] at ho
          rw [← ho]; rfl
        · rw [Array.getElem?_setIfInBounds_ne e] at ho
          exact hv b o hb2 ho) (fun w2 ha2 => by
        have hs2 : w2.heap[a.block]? = some (.cells (if a.spot.isSome then c else c.setIfInBounds a.off v) E fr) := by
          rw [ha2.same _ hb, hset w hw]
          simp [hlt]
        have hag : Ag B N w { w2 with heap := w2.heap.setIfInBounds a.block (.cells c E fr) } := ha2.swap hw (by simp [World.setCell]) rfl rfl rfl rfl (fun j hj => by rw [hset w hw, Array.getElem?_setIfInBounds_ne (fun e => hj e.symm)])
        have h5 := hok _ hag
        have hl2 := getElem?_lt hs2
        have hb3 : ({ w2 with heap := w2.heap.setIfInBounds a.block (.cells c E fr) } : World).heap[a.block]? = some (.cells c E fr) := by simp [hl2]
        have hc2 : ({ w2 with heap := w2.heap.setIfInBounds a.block (.cells c E fr) } : World).cell? a = some y := by
          rw [← hc]
          unfold World.cell?
          rw [hb3, hw]
        have hf2 : ({ w2 with heap := w2.heap.setIfInBounds a.block (.cells c E fr) } : World).frozen? a = false := by
          rw [← hf]
          unfold World.frozen?
          rw [hb3, hw]
        rw [hrun, hc2, hf2] at h5
        simp only [Bool.false_eq_true, if_false] at h5
        have e : ({ w2 with heap := w2.heap.setIfInBounds a.block (.cells c E fr) } : World).setCell a v = w2 := by
          have := hset _ hb3
          show (World.mk _ _ _ _ _) = _
          refine world_heap w2 _ ?_
          exact this.trans (set_back hs2)
        rw [e] at h5
        exact h5)
      refine ⟨x, w', #[⟨.cell a, true, m == .atomic⟩] ++ es', by rw [hrunT, h1, evs_push], loc_push (ev_cellw hW) (.cell (Nat.lt_of_lt_of_le hlt (by simpa [World.setCell] using h3))) h2, by simpa [World.setCell] using h3, fun b hbN hWb => ?_⟩
      rw [h4 b hbN hWb, hset w hw]
      have : a.block ≠ b := fun e => by
        rcases hW with h | h
        · exact hWb (e ▸ h)
        · omega
      rw [Array.getElem?_setIfInBounds_ne this]
theorem loc_new {P : Program} {α : Type} {o : Obj} {k : Nat → Sem α} (ho : noView o = true) (ih : ∀ r, N ≤ r → Loc1 P B W N (k r)) : Loc1 P B W N (.new o k) := by
  intro w es hN hv hok
  obtain ⟨x, w', es', h1, h2, h3, h4⟩ := ih w.heap.size hN { w with heap := w.heap.push o } es (by simp; omega) (fun b p hb hp => by
    simp only [Array.getElem?_push] at hp
    split at hp
    · cases hp; exact ho
    · exact hv b p hb hp) (fun w2 h2 => by
    have hs : w2.heap.size = w.heap.size + 1 := by have := h2.size; simpa using this
    have hl : w2.heap[w.heap.size]? = some o := by rw [h2.same _ (.inr hN)]; simp
    have hag : Ag B N w { w2 with heap := w2.heap.pop } := ⟨by simp [hs], h2.tape, h2.drawn, h2.os, h2.out, fun b hb => by
      by_cases e : b < w.heap.size
      · simp only [Array.getElem?_pop, hs, Nat.add_sub_cancel, if_pos e]
        rw [h2.same b hb]
        simp [Array.getElem?_push, Nat.ne_of_lt e]
      · have h8 : w.heap.size ≤ b := by omega
        rw [Array.getElem?_eq_none (by simp [hs]; omega), Array.getElem?_eq_none h8]⟩
    have h5 := hok _ hag
    have e : ({ w2 with heap := w2.heap.pop.push o } : World) = w2 := by
      refine world_heap w2 _ ?_
      apply Array.ext_getElem?
      intro j
      simp only [Array.getElem?_push, Array.size_pop, hs, Nat.add_sub_cancel, Array.getElem?_pop]
      split
      · rename_i hj; rw [hj, hl]
      · split
        · rfl
        · rw [Array.getElem?_eq_none (by omega)]
    simp only [Sem.run, Array.size_pop, hs, Nat.add_sub_cancel] at h5
    rw [e] at h5
    exact h5)
  refine ⟨x, w', es', h1, h2, by simp at h3; omega, fun b hb hWb => ?_⟩
  rw [h4 b hb hWb]
  simp [Array.getElem?_push, show ¬ b = w.heap.size by omega]
theorem loc_shape {P : Program} {α : Type} {r : Nat} {k : Option (TypeId × Nat) → Sem α} (hb : B r ∨ N ≤ r) (ih : ∀ s, Loc1 P B W N (k s)) : Loc1 P B W N (.shape r k) := by
  intro w es hN hv hok
  exact ih (w.shape? r) w es hN hv fun w2 h2 => by
    have := hok w2 h2
    have e : w2.shape? r = w.shape? r := by unfold World.shape?; rw [h2.same r hb]
    simpa only [Sem.run, e] using this
theorem loc_frozen {P : Program} {α : Type} {a : Addr} {k : Bool → Sem α} (hb : B a.block ∨ N ≤ a.block) (ih : ∀ s, Loc1 P B W N (k s)) : Loc1 P B W N (.frozen a k) := by
  intro w es hN hv hok
  exact ih (w.frozen? a) w es hN hv fun w2 h2 => by
    have := hok w2 h2
    have e : w2.frozen? a = w.frozen? a := by unfold World.frozen?; rw [h2.same _ hb]
    simpa only [Sem.run, e] using this
theorem loc_freeze {P : Program} {α : Type} {a : Addr} {n : Nat} {k : Sem α} (hW : W a.block ∨ N ≤ a.block) (hWB : ∀ b, W b → B b) (ih : Loc1 P B W N k) : Loc1 P B W N (.freeze a n k) := by
  intro w es hN hv hok
  have hb : B a.block ∨ N ≤ a.block := hW.imp (hWB _) id
  have hsame : ∀ (w2 : World) (j : Nat), j ≠ a.block → (w2.freeze a n).heap[j]? = w2.heap[j]? := fun w2 j hj => by
    unfold World.freeze
    split
    · rfl
    · simp only [Array.getElem?_modify]
      rw [if_neg (fun e => hj e.symm)]
  have hsize : ∀ w2 : World, (w2.freeze a n).heap.size = w2.heap.size := fun w2 => by unfold World.freeze; split <;> simp
  have hrest : ∀ w2 : World, (w2.freeze a n).tape = w2.tape ∧ (w2.freeze a n).drawn = w2.drawn ∧ (w2.freeze a n).os = w2.os ∧ (w2.freeze a n).output = w2.output := fun w2 => by unfold World.freeze; split <;> exact ⟨rfl, rfl, rfl, rfl⟩
  have hat : ∀ w2 w3 : World, w2.heap[a.block]? = w3.heap[a.block]? → (w2.freeze a n).heap[a.block]? = (w3.freeze a n).heap[a.block]? := fun w2 w3 e => by
    unfold World.freeze
    split
    · exact e
    · simp only [Array.getElem?_modify, if_true, e]
  obtain ⟨x, w', es', h1, h2, h3, h4⟩ := ih (w.freeze a n) es (by rw [hsize]; exact hN) (fun b o hb2 ho => by
    by_cases e : b = a.block
    · subst e
      cases hw : w.heap[a.block]? with
      | none =>
        have := getElem?_lt ho
        rw [hsize] at this
        rw [Array.getElem?_eq_getElem this] at hw
        cases hw
      | some o' =>
        have hv' := hv _ _ hb2 hw
        unfold World.freeze at ho
        split at ho
        · rw [hw] at ho; cases ho; exact hv'
        · simp only [Array.getElem?_modify, if_true, hw, Option.map_some, Option.some.injEq] at ho
          subst ho
          cases o' <;> first | rfl | exact hv'
    · rw [hsame w b e] at ho
      exact hv b o hb2 ho) fun w2 ha2 => by
    -- the world ahead of it
    obtain ⟨hp, tp, dr, o2, ou⟩ := w2
    have hz : hp.size = w.heap.size := by have := ha2.size; rw [hsize] at this; exact this
    let w3 : World := ⟨(match w.heap[a.block]? with | some o => hp.setIfInBounds a.block o | none => hp), tp, dr, o2, ou⟩
    have e3 : w3.heap[a.block]? = w.heap[a.block]? := by
      show (match w.heap[a.block]? with | some o => hp.setIfInBounds a.block o | none => hp)[a.block]? = _
      cases hw : w.heap[a.block]? with
      | none =>
        have : w.heap.size ≤ a.block := by
          rcases Nat.lt_or_ge a.block w.heap.size with h | h
          · rw [Array.getElem?_eq_getElem h] at hw; cases hw
          · exact h
        show hp[a.block]? = none
        exact Array.getElem?_eq_none (by omega)
      | some o =>
        have := getElem?_lt hw
        exact Array.getElem?_setIfInBounds_self_of_lt (by omega)
    have e4 : ∀ j, j ≠ a.block → w3.heap[j]? = hp[j]? := fun j hj => by
      show (match w.heap[a.block]? with | some o => hp.setIfInBounds a.block o | none => hp)[j]? = _
      split
      · exact Array.getElem?_setIfInBounds_ne (fun e => hj e.symm)
      · rfl
    have e5 : w3.heap.size = hp.size := by
      show (match w.heap[a.block]? with | some o => hp.setIfInBounds a.block o | none => hp).size = _
      split <;> simp
    have hr := hrest w
    have hag : Ag B N w w3 := ⟨by rw [e5, hz], ha2.tape.trans hr.1, ha2.drawn.trans hr.2.1, ha2.os.trans hr.2.2.1, ha2.out.trans hr.2.2.2, fun c hc => by
      by_cases e : c = a.block
      · subst e; exact e3
      · rw [e4 c e]
        have := ha2.same c hc
        rw [hsame w c e] at this
        exact this⟩
    have h5 := hok w3 hag
    have e6 : w3.freeze a n = (⟨hp, tp, dr, o2, ou⟩ : World) := by
      have hr3 := hrest w3
      have : (w3.freeze a n).heap = hp := by
        apply Array.ext_getElem?
        intro j
        by_cases e : j = a.block
        · subst e
          rw [hat w3 w e3]
          exact (ha2.same _ hb).symm
        · rw [hsame w3 j e, e4 j e]
      generalize hq : w3.freeze a n = q at this hr3
      obtain ⟨q1, q2, q3, q4, q5⟩ := q
      simp only at this hr3
      obtain ⟨r1, r2, r3, r4⟩ := hr3
      subst this r1 r2 r3 r4
      rfl
    simp only [Sem.run, e6] at h5
    exact h5
  refine ⟨x, w', es', by simp only [Sem.runT]; exact h1, h2, by rw [hsize] at h3; exact h3, fun b hb2 hWb => ?_⟩
  rw [h4 b hb2 hWb]
  refine hsame w b fun e => ?_
  subst e
  rcases hW with h | h
  · exact hWb h
  · omega
theorem loc_getObj {P : Program} {α : Type} {r : Nat} {k : Obj → Sem α} (ih : ∀ o, Loc1 P B W N (k o)) : Loc1 P B W N (.getObj r k) := by
  intro w es hN hv hok
  by_cases hb : B r ∨ N ≤ r
  · have hrun : ∀ w2, Ag B N w w2 → w2.heap[r]? = w.heap[r]? := fun w2 h2 => h2.same r hb
    obtain ⟨x0, w0, h0⟩ := hok w (.refl w)
    cases hr : w.heap[r]? with
    | none => simp [Sem.run, hr] at h0
    | some o =>
      have hnc : ∀ c E fr, o ≠ .cells c E fr := fun c E fr e => by subst e; simp [Sem.run, hr] at h0
      have hstep : ∀ w2 : World, w2.heap[r]? = some o → (Sem.getObj r k).run P w2 = (k o).run P w2 := fun w2 h2 => by
        simp only [Sem.run, h2]
      have hstepT : (Sem.getObj r k).runT P w es = (k o).runT P w (es.push ⟨.obj r, false, o.isChan⟩) := by
        simp only [Sem.runT, hr]
      obtain ⟨x, w', es', h1, h2, h3, h4⟩ := ih o w (es.push ⟨.obj r, false, o.isChan⟩) hN hv fun w2 h2 => by
        have := hok w2 h2
        rwa [hstep w2 (by rw [hrun w2 h2, hr])] at this
      exact ⟨x, w', #[⟨.obj r, false, o.isChan⟩] ++ es', by rw [hstepT, h1, evs_push], loc_push (ev_obj hb) (.obj (Nat.lt_of_lt_of_le (getElem?_lt hr) h3)) h2, h3, h4⟩
  · exfalso
    obtain ⟨x, w', h⟩ := hok _ (junk_ag hb)
    simp only [Sem.run, junk_at (show r < w.heap.size by omega)] at h
    simp at h
theorem loc_setObj {P : Program} {α : Type} {r : Nat} {o : Obj} {k : Sem α} (hW : W r ∨ N ≤ r) (ho : noView o = true) (hWB : ∀ b, W b → B b) (ih : Loc1 P B W N k) : Loc1 P B W N (.setObj r o k) := by
  intro w es hN hv hok
  have hb : B r ∨ N ≤ r := hW.imp (hWB _) id
  obtain ⟨x0, w0, h0⟩ := hok w (.refl w)
  cases hr : w.heap[r]? with
  | none => simp [Sem.run, hr] at h0
  | some y =>
    have hlt := getElem?_lt hr
    have hnc : ∀ c E fr, y ≠ .cells c E fr := fun c E fr e => by subst e; simp [Sem.run, hr] at h0
    have hstep : ∀ w2 : World, w2.heap[r]? = some y → (Sem.setObj r o k).run P w2 = k.run P { w2 with heap := w2.heap.setIfInBounds r o } := fun w2 h2 => by
      simp only [Sem.run, h2]
    have hstepT : (Sem.setObj r o k).runT P w es = k.runT P { w with heap := w.heap.setIfInBounds r o } (es.push ⟨.obj r, true, o.isChan⟩) := by
      simp only [Sem.runT, hr]
    obtain ⟨x, w', es', h1, h2, h3, h4⟩ := ih { w with heap := w.heap.setIfInBounds r o } (es.push ⟨.obj r, true, o.isChan⟩) (by simpa using hN) (fun b p hb2 hp => by
      by_cases e : r = b
      · subst e
        simp [hlt] at hp
        rw [← hp]; exact ho
      · simp only [Array.getElem?_setIfInBounds_ne e] at hp
        exact hv b p hb2 hp) (fun w2 ha2 => by
      have hs2 : w2.heap[r]? = some o := by rw [ha2.same _ hb]; simp [hlt]
      have hag : Ag B N w { w2 with heap := w2.heap.setIfInBounds r y } := ha2.swap hr (by simp) rfl rfl rfl rfl (fun j hj => by simp only [Array.getElem?_setIfInBounds_ne (fun e => hj e.symm)])
      have h5 := hok _ hag
      have hl2 := getElem?_lt hs2
      rw [hstep _ (by simp [hl2])] at h5
      have e : ({ w2 with heap := (w2.heap.setIfInBounds r y).setIfInBounds r o } : World) = w2 := world_heap w2 _ (set_back hs2)
      rw [e] at h5
      exact h5)
    refine ⟨x, w', #[⟨.obj r, true, o.isChan⟩] ++ es', by rw [hstepT, h1, evs_push], loc_push (ev_objw hW) (.obj (Nat.lt_of_lt_of_le hlt (by simpa using h3))) h2, by simpa using h3, fun b hbN hWb => ?_⟩
    rw [h4 b hbN hWb]
    have : r ≠ b := fun e => by
      rcases hW with h | h
      · exact hWb (e ▸ h)
      · omega
    simp only [Array.getElem?_setIfInBounds_ne this]
theorem loc_choose {P : Program} {α : Type} {q : Question} {k : Nat → Sem α} (ih : ∀ n, Loc1 P B W N (k n)) : Loc1 P B W N (.choose q k) := by
  intro w es hN hv hok
  cases hq : q.forced with
  | true =>
    obtain ⟨x, w', es', h⟩ := ih 0 w es hN hv fun w2 h2 => by
      have := hok w2 h2
      simpa only [Sem.run, hq, if_true] using this
    exact ⟨x, w', es', by simp only [Sem.runT, hq, if_true]; exact h.1, h.2⟩
  | false =>
    obtain ⟨x, w', es', h⟩ := ih (q.cut (w.tape w.drawn q)) { w with drawn := w.drawn + 1 } es hN hv fun w2 h2 => by
      obtain ⟨hp, tp, dr, o2, ou⟩ := w2
      have h5 := hok ⟨hp, tp, w.drawn, o2, ou⟩ ⟨h2.size, h2.tape, rfl, h2.os, h2.out, h2.same⟩
      have hd : dr = w.drawn + 1 := h2.drawn
      have ht : tp = w.tape := h2.tape
      subst hd ht
      simp only [Sem.run, hq, Bool.false_eq_true, if_false] at h5
      exact h5
    exact ⟨x, w', es', by simp only [Sem.runT, hq, Bool.false_eq_true, if_false]; exact h.1, h.2⟩
theorem loc_halts {P : Program} {α : Type} {s : Sem α} (h : Halts P s) : Loc1 P B W N s := fun w es hN hv hok => by
  obtain ⟨v, w', h1⟩ := hok w (.refl w)
  obtain ⟨x, w2, h2⟩ := h w
  rw [h2] at h1; cases h1
theorem pl_loc {P : Program} {α : Type} (hWB : ∀ b, W b → B b) (s : Sem α) (h : Plo P B W N s) : Loc1 P B W N s := by
  induction s with
  | pure a => exact fun w es hN hv hok => ⟨a, w, #[], by simp [Sem.runT], by simp, Nat.le_refl _, fun _ _ _ => rfl⟩
  | halt x => exact fun w es hN hv hok => by obtain ⟨v, w', h1⟩ := hok w (.refl w); simp [Sem.run] at h1
  | load m a k ih => rcases h with h | h; exact loc_load fun v => ih v (h v); exact loc_halts h
  | store m a v k ih => rcases h with h | h; exact loc_store h.1 hWB (ih h.2); exact loc_halts h
  | new o k ih => rcases h with h | h; exact loc_new h.1 fun r hr => ih r (h.2 r hr); exact loc_halts h
  | shape r k ih => rcases h with h | h; exact loc_shape h.1 fun s => ih s (h.2 s); exact loc_halts h
  | freeze a n k ih => rcases h with h | h; exact loc_freeze h.1 hWB (ih h.2); exact loc_halts h
  | frozen a k ih => rcases h with h | h; exact loc_frozen h.1 fun s => ih s (h.2 s); exact loc_halts h
  | getObj r k ih => rcases h with h | h; exact loc_getObj fun o => ih o (h o); exact loc_halts h
  | setObj r o k ih => rcases h with h | h; exact loc_setObj h.1 h.2.1 hWB (ih h.2.2); exact loc_halts h
  | choose q k ih => rcases h with h | h; exact loc_choose fun n => ih n (h n); exact loc_halts h
  | sys c k ih => exact loc_halts h
  | program k ih => rcases h with h | h; exact fun w es hN hv hok => ih P h w es hN hv fun w2 h2 => hok w2 h2; exact loc_halts h
  | mark m k ih =>
    rcases h with h | h
    · intro w es hN hv hok
      obtain ⟨v, w', es', h1, h2, h3⟩ := ih h.2 w (es.push ⟨.mark m, false, true⟩) hN hv fun w2 h2 => hok w2 h2
      exact ⟨v, w', #[⟨.mark m, false, true⟩] ++ es', by simp only [Sem.runT]; rw [h1, evs_push], loc_push (.inr ⟨m, rfl, h.1⟩) .mark h2, h3⟩
    · exact loc_halts h
end
end Go.HL
end

/-! QKPro -/
section
namespace Go.HL
open Go
set_option linter.unusedVariables false
set_option linter.unusedSectionVars false
set_option linter.unusedSimpArgs false

abbrev Env := List (Nat × Value)
abbrev Blk := Nat × Obj
abbrev Heap := List (List Blk)
abbrev Ctx := Os × Array (Nat × ByteArray) × (Nat → Question → Nat)

def lk : Env → Nat → Option Value
  | [], _ => none
  | (t, v) :: r, x => bif Nat.beq t x then some v else lk r x

def ev (ρ : Env) : Operand → Option Value
  | .tmp t => lk ρ t
  | .const v => some v
  | .global g => some (.pointer (some ⟨g, 0, none⟩))
  | .func f => some (.func (.func f) #[] #[])

def evs (ρ : Env) : List Operand → Option (List Value)
  | [] => some []
  | x :: r => match ev ρ x, evs ρ r with
    | some v, some vs => some (v :: vs)
    | _, _ => none

/-- what a task yields: of which work, which task, a value, the blocks that go with it; a number above all marks of frozen cells; blocks that stay as9 they were, and the world in which they were; the type of a group -/
class Tasks where
  R : Nat → Nat → Value → List Blk → Prop
  m : Nat
  O : Nat → Prop
  W0 : World
  T : TypeId
variable [Tasks]

/-! ### a heap: blocks of one's own; blocks that all read and nobody writes; tokens -/
def gho : Obj → Bool
  | .chan _ _ _ _ _ true => true
  | _ => false
def rob : Obj → Bool
  | .cells _ _ fr => Nat.blt Tasks.m fr.1
  | _ => false
/-- what stands in memory -/
def act : Obj → Obj
  | .cells c E fr => .cells c E (bif Nat.blt Tasks.m fr.1 then (fr.1 - (Tasks.m + 1), fr.2) else fr)
  | o => o
/-- read by all, written by nobody -/
def ronly : Obj → Obj
  | .cells c E fr => .cells c E (fr.1 + (Tasks.m + 1), fr.2)
  | o => o
/-- a block of one's own -/
def pln (o : Obj) : Bool := !gho o && !rob o
theorem act_pln {o : Obj} (h : pln o = true) : act o = o := by
  cases o <;> try rfl
  rename_i c E fr
  simp only [pln, gho, rob, Bool.not_false, Bool.true_and, Bool.not_eq_true'] at h
  simp only [act, h, cond_false]
theorem act_cells (c : Array Value) (E : Nat) (fr : Nat × Nat) : ∃ fr', act (.cells c E fr) = .cells c E fr' := ⟨_, rfl⟩
theorem noView_act {o : Obj} (h : noView o = true) : noView (act o) = true := by cases o <;> first | rfl | exact h
theorem rob_mark (c : Array Value) (E : Nat) (fr : Nat × Nat) : rob (ronly (.cells c E fr)) = true := by
  simp only [ronly, rob]
  exact Nat.ble_eq_true_of_le (by omega)
theorem act_mark (c : Array Value) (E : Nat) (fr : Nat × Nat) : act (ronly (.cells c E fr)) = .cells c E fr := by
  have : Nat.blt Tasks.m (fr.1 + (Tasks.m + 1)) = true := Nat.ble_eq_true_of_le (by omega)
  simp only [ronly, act, this, cond_true]
  simp
theorem pln_gho {o : Obj} (h : pln o = true) : gho o = false := by simp [pln] at h; exact h.1
theorem pln_rob {o : Obj} (h : pln o = true) : rob o = false := by simp [pln] at h; exact h.2

structure Sat (k : Ctx) (w : World) (L : Heap) : Prop where
  os : w.os = k.1
  out : w.output = k.2.1
  tape : w.tape = k.2.2
  has : ∀ p ∈ L.flatten, gho p.2 = false → w.heap[p.1]? = some (act p.2)
  nodup : (L.flatten.map (·.1)).Nodup
  nv : ∀ p ∈ L.flatten, noView p.2 = true
  lt : ∀ p ∈ L.flatten, p.1 < w.heap.size
/-- may be written; may be read -/
def InW (L : Heap) (b : Nat) : Prop := ∃ o, (b, o) ∈ L.flatten ∧ pln o = true
def InB (L : Heap) (b : Nat) : Prop := ∃ o, (b, o) ∈ L.flatten ∧ gho o = false
theorem InW.b {L : Heap} {b : Nat} (h : InW L b) : InB L b := let ⟨o, h1, h2⟩ := h; ⟨o, h1, pln_gho h2⟩
/-- how the heap may have grown -/
structure Gr (N : Nat) (L L' : Heap) : Prop where
  w : ∀ b, InW L' b → InW L b ∨ N ≤ b
  b : ∀ b, InB L' b → InB L b ∨ N ≤ b
  tok : ∀ p ∈ L'.flatten, gho p.2 = true → p ∈ L.flatten
structure Gr0 (N : Nat) (L L' : Heap) : Prop where
  w : ∀ b, InW L' b → InW L b ∨ N ≤ b
  b : ∀ b, InB L' b → InB L b ∨ N ≤ b
theorem Gr.zero {N : Nat} {L L' : Heap} (h : Gr N L L') : Gr0 N L L' := ⟨h.w, h.b⟩
/-- what one step may do -/
structure Tr (w w' : World) (L L' : Heap) (es : Array Event) : Prop where
  size : w.heap.size ≤ w'.heap.size
  keep : ∀ b, b < w.heap.size → ¬ InW L b → w'.heap[b]? = w.heap[b]?
  gr : Gr w.heap.size L L'
  evs : ∀ e ∈ es, EvIn (InB L) (InW L) w.heap.size e ∧ EvLt w'.heap.size e
def NoX (es : Array Event) : Prop := ∀ e ∈ es, ∀ f, e.loc ≠ .mark (.extern f)
/-- less is held -/
structure Wk (L L' : Heap) : Prop where
  sat : ∀ k w, Sat k w L → Sat k w L'
  w : ∀ b, InW L' b → InW L b
  b : ∀ b, InB L' b → InB L b
  tok : ∀ p ∈ L'.flatten, gho p.2 = true → p ∈ L.flatten

/-! ### tokens -/
structure Tk where
  tag : Nat
  todo : Nat
  back : Nat
  wg : Nat
  many : Nat
  n : Nat
  st : Nat
  a : Nat
  b : Nat
  l : List Nat
def nval (n : Nat) : Value := .int .i64 (n : Int)
def Tk.nums (t : Tk) : List Nat := t.tag :: t.back :: t.wg :: t.many :: t.n :: t.a :: t.b :: t.l
def Tk.obj (t : Tk) : Obj := .chan t.st ⟨t.nums.map nval⟩ false 0 0 true
def Tk.at_ (t : Tk) : Blk := (t.todo, t.obj)
theorem Tk.gho (t : Tk) : gho t.obj = true := rfl
theorem Tk.inj {t s : Tk} (h : t.at_ = s.at_) : t = s := by
  obtain ⟨a1, a2, a3, a4, a5, a6, a7, a8, a9, a10⟩ := t
  obtain ⟨b1, b2, b3, b4, b5, b6, b7, b8, b9, b10⟩ := s
  simp only [Tk.at_, Tk.obj, Tk.nums, Prod.mk.injEq, Obj.chan.injEq, Array.mk.injEq] at h
  obtain ⟨h1, h2, h3, _⟩ := h
  have hm : ∀ (x y : List Nat), x.map nval = y.map nval → x = y := by
    intro x
    induction x with
    | nil => intro y h; cases y with
      | nil => rfl
      | cons _ _ => simp at h
    | cons a x ih => intro y h; cases y with
      | nil => simp at h
      | cons b y =>
        simp only [List.map_cons, List.cons.injEq, nval, Value.int.injEq, true_and, Int.ofNat_inj] at h
        rw [h.1, ih y h.2]
  have := hm _ _ h3
  simp only [List.cons.injEq] at this
  obtain ⟨rfl, rfl, rfl, rfl, rfl, rfl, rfl, rfl⟩ := this
  subst h1 h2
  rfl
/-! ### what is shared -/
structure Gm where
  todo : Nat
  back : Nat
  wg : Nat
  ty : Nat
  cnt : Nat
  wt : Nat
  sem : Nat
  closed : Bool
abbrev stA (b : Nat) : Addr := ⟨b, 0, none⟩
abbrev smA (b : Nat) : Addr := ⟨b, 1, none⟩
def wgObj (ty cnt wt sem : Nat) : Obj := .cells ⟨[.int .u64 ((cnt * 4294967296 + wt : Nat) : Int), .int .u32 (sem : Nat)]⟩ ty
structure Shr (γ : Gm) (w : World) : Prop where
  todo : ∃ s, w.heap[γ.todo]? = some (.chan 0 #[] γ.closed s s false)
  back : ∃ s, w.heap[γ.back]? = some (.chan 0 #[] false s s false)
  wg : w.heap[γ.wg]? = some (wgObj Tasks.T γ.cnt γ.wt γ.sem)
  apart : γ.todo ≠ γ.back ∧ γ.todo ≠ γ.wg ∧ γ.back ≠ γ.wg
/-- a token against what is shared -/
def Cm (t : Tk) (γ : Gm) : Prop := match t.st with
  | 0 | 1 => γ.cnt = t.n ∧ γ.wt = 0 ∧ γ.sem = 0 ∧ γ.closed = false
  | 2 | 3 => γ.cnt = t.n + 1 ∧ γ.wt = 0 ∧ γ.sem = 0 ∧ γ.closed = false
  | 5 | 6 => γ.cnt ≤ t.b ∧ γ.wt = 0 ∧ γ.sem = 0 ∧ γ.closed = true
  | 7 => γ.cnt ≤ t.a ∧ 1 ≤ t.a ∧ γ.wt = 0 ∧ γ.sem = 0 ∧ γ.closed = true
  | 9 => ((γ.wt = 1 ∧ γ.sem = 0) ∨ (γ.wt = 0 ∧ γ.cnt = 0 ∧ γ.sem ≤ 1)) ∧ γ.closed = true
  | 8 | 10 | 11 | 12 => γ.cnt = 0 ∧ γ.wt = 0 ∧ γ.sem = 0 ∧ γ.closed = true
  | 22 | 23 | 24 => 1 ≤ γ.cnt ∧ γ.wt ≤ 1 ∧ γ.sem = 0 ∧ γ.closed = true
  | 27 => γ.cnt = 0 ∧ γ.wt = 1 ∧ γ.sem = 0 ∧ γ.closed = true
  | 28 => γ.cnt = 0 ∧ γ.wt = 0 ∧ γ.sem = 0 ∧ γ.closed = true
  | _ => True
def Cmp (t : Tk) (γ : Gm) : Prop := t.todo = γ.todo ∧ t.back = γ.back ∧ t.wg = γ.wg ∧ γ.cnt ≤ 1000 ∧ Cm t γ
def evR (a : Addr) : Event := ⟨.cell a, false, true⟩
def evW (a : Addr) : Event := ⟨.cell a, true, true⟩
def evMk (m : Mark) : Event := ⟨.mark m, false, true⟩
/-- one step on what is shared -/
inductive Mv : Tk → Gm → Tk → Gm → Array Event → Prop
  | idle {t : Tk} {γ : Gm} : Mv t γ t γ #[]
  | dis0 {t : Tk} {γ : Gm} : t.st = 0 → Mv t γ { t with st := 1 } γ #[evMk .disable]
  | add {t : Tk} {γ : Gm} : t.st = 1 → t.n < 1000 → Mv t γ { t with st := 2 } { γ with cnt := γ.cnt + 1 } #[evR (stA γ.wg), evW (stA γ.wg)]
  | read {t : Tk} {γ : Gm} : t.st = 2 → Mv t γ t γ #[evMk (.read (smA γ.wg))]
  | en2 {t : Tk} {γ : Gm} : t.st = 2 → Mv t γ { t with st := 3 } γ #[evMk .enable]
  | close {t : Tk} {γ : Gm} : t.st = 0 → t.l = [] → Mv t γ { t with st := 5, b := t.n } { γ with closed := true } #[⟨.obj γ.todo, false, true⟩, ⟨.obj γ.todo, true, true⟩]
  | dis5 {t : Tk} {γ : Gm} : t.st = 5 → Mv t γ { t with st := 6 } γ #[evMk .disable]
  | zero {t : Tk} {γ : Gm} : t.st = 6 → γ.cnt = 0 → Mv t γ { t with st := 8 } γ #[evR (stA γ.wg)]
  | load {t : Tk} {γ : Gm} : t.st = 6 → 1 ≤ γ.cnt → Mv t γ { t with st := 7, a := γ.cnt } γ #[evR (stA γ.wg)]
  | reg {t : Tk} {γ : Gm} : t.st = 7 → γ.cnt = t.a → Mv t γ { t with st := 9 } { γ with wt := 1 } #[evR (stA γ.wg), evW (stA γ.wg)]
  | fail {t : Tk} {γ : Gm} : t.st = 7 → γ.cnt < t.a → Mv t γ { t with st := 6, b := t.a - 1 } γ #[evR (stA γ.wg)]
  | write {t : Tk} {γ : Gm} : t.st = 9 → Mv t γ t γ #[evMk (.write (smA γ.wg))]
  | acq {t : Tk} {γ : Gm} : t.st = 9 → γ.sem = 1 → Mv t γ { t with st := 10 } { γ with sem := 0 } #[evMk .disable, evR (smA γ.wg), evW (smA γ.wg), evMk .enable]
  | look {t : Tk} {γ : Gm} : t.st = 10 → Mv t γ t γ #[evR (stA γ.wg)]
  | en8 {t : Tk} {γ : Gm} : t.st = 8 ∨ t.st = 10 → Mv t γ { t with st := 11 } γ #[evMk .enable]
  | join {t : Tk} {γ : Gm} : t.st = 11 → Mv t γ { t with st := 12 } γ #[evMk (.acquire (stA γ.wg))]
  | dis23 {t : Tk} {γ : Gm} : t.st = 23 → Mv t γ { t with st := 24 } γ #[evMk .disable]
  | down {t : Tk} {γ : Gm} : t.st = 24 → 2 ≤ γ.cnt ∨ γ.wt = 0 → Mv t γ { t with st := 25 } { γ with cnt := γ.cnt - 1 } #[evR (stA γ.wg), evW (stA γ.wg)]
  | last {t : Tk} {γ : Gm} : t.st = 24 → γ.cnt = 1 → γ.wt = 1 → Mv t γ { t with st := 27 } { γ with cnt := 0 } #[evR (stA γ.wg), evW (stA γ.wg)]
  | look27 {t : Tk} {γ : Gm} : t.st = 27 → Mv t γ t γ #[evR (stA γ.wg)]
  | reset {t : Tk} {γ : Gm} : t.st = 27 → Mv t γ { t with st := 28 } { γ with wt := 0 } #[evW (stA γ.wg)]
  | wake {t : Tk} {γ : Gm} : t.st = 28 → Mv t γ { t with st := 25 } { γ with sem := 1 } #[evMk .disable, evR (smA γ.wg), evW (smA γ.wg), evMk .enable]
/-- nothing but what is shared is turned -/
structure Only (γ : Gm) (w w' : World) : Prop where
  size : w'.heap.size = w.heap.size
  os : w'.os = w.os
  out : w'.output = w.output
  tape : w'.tape = w.tape
  keep : ∀ b, b ≠ γ.todo → b ≠ γ.wg → w'.heap[b]? = w.heap[b]?
/-- whoever may be let go on is tried again -/
def Wak (P : Program) (g : Goroutine) (γ γ' : Gm) : Prop := (γ.sem = 0 → γ'.sem = 1 → mayWake P g = true) ∧ (γ.closed = false → γ'.closed = true → mayWake P g = true)
theorem Wak.refl {P : Program} {g : Goroutine} {γ : Gm} : Wak P g γ γ := ⟨fun a b => by omega, fun a b => by rw [a] at b; cases b⟩
end Go.HL
end

/-! QKPl -/
section
namespace Go.HL
open Go
set_option linter.unusedVariables false
set_option linter.unusedSimpArgs false
section
variable {P : Program} {B W : Nat → Prop} {N : Nat} {α β : Type}
theorem pl_pure (a : α) : Plo P B W N (pure a : Sem α) := trivial
theorem pl_halt (h : Halt) : Plo P B W N (.halt h : Sem α) := trivial
theorem pl_stuck (s : String) : Plo P B W N (stuck s : Sem α) := trivial
theorem pl_unsup (u : Unsupported) : Plo P B W N (unsupported u : Sem α) := trivial
theorem pl_goPanic (v : Value) : Plo P B W N (goPanic v : Sem α) := trivial
theorem pl_load (a : Addr) (m : Mode) : Plo P B W N (load a m) := .inl fun _ => trivial
theorem pl_program : Plo P B W N program := .inl trivial
theorem pl_choose (q : Question) : Plo P B W N (choose q) := .inl fun _ => trivial
theorem pl_newObj {o : Obj} (h : noView o = true) : Plo P B W N (newObj o) := .inl ⟨h, fun _ _ => trivial⟩
theorem pl_getObj (r : Nat) : Plo P B W N (getObj r) := .inl fun _ => trivial
theorem pl_store {a : Addr} {v : Value} {m : Mode} (h : W a.block ∨ N ≤ a.block) : Plo P B W N (store a v m) := .inl ⟨h, trivial⟩
theorem pl_mark {m : Mark} (h : PMark m) : Plo P B W N (mark m) := .inl ⟨h, trivial⟩
theorem pl_askRoom (n : Nat) : Plo P B W N (askRoom n) := by unfold askRoom; split; exact pl_mark (.inl rfl); exact trivial
theorem Plo.ite {c : Prop} [Decidable c] {x y : Sem α} (hx : Plo P B W N x) (hy : Plo P B W N y) : Plo P B W N (if c then x else y) := by split <;> assumption
theorem pl_typeInfo (t : TypeId) : Plo P B W N (typeInfo t) := by unfold typeInfo; refine Plo.bind pl_program fun p => ?_; split <;> exact trivial
theorem Zd (t : TypeId) : Plo P B W N (underlying t) := by unfold underlying; refine Plo.bind pl_program fun p => ?_; split <;> exact trivial
theorem pl_zeroValue (t : TypeId) : Plo P B W N (zeroValue t) := by unfold zeroValue; refine Plo.bind (pl_typeInfo t) fun p => ?_; split <;> exact trivial
theorem pl_sizeOf (t : TypeId) : Plo P B W N (sizeOf t) := by unfold sizeOf; exact Plo.bind (pl_typeInfo t) fun p => trivial
theorem pl_isAgg (t : TypeId) : Plo P B W N (isAgg t) := by unfold isAgg; refine Plo.bind (Zd t) fun p => ?_; split <;> exact trivial
theorem pl_loadCellsFrom (a : Addr) : ∀ (n i : Nat) (acc : Array Value), Plo P B W N (loadCellsFrom a i n acc)
  | 0, i, acc => trivial
  | n + 1, i, acc => by unfold loadCellsFrom; exact Plo.bind (pl_load _ _) fun v => pl_loadCellsFrom a n (i + 1) _
theorem pl_loadCells (a : Addr) (n : Nat) : Plo P B W N (loadCells a n) := pl_loadCellsFrom a n 0 _
theorem pl_loadVar (t : TypeId) (a : Addr) : Plo P B W N (loadVar t a) := by
  unfold loadVar
  refine Plo.bind (pl_isAgg t) fun b => ?_
  split
  · exact Plo.bind (pl_sizeOf t) fun _ => Plo.bind (pl_loadCells _ _) fun _ => trivial
  · exact pl_load _ _
theorem pl_storeCells {a : Addr} (h : W a.block ∨ N ≤ a.block) : ∀ (vs : List Value) (i : Nat), Plo P B W N (storeCells a vs i)
  | [], i => trivial
  | v :: r, i => by
    unfold storeCells
    refine Plo.bind (pl_store ?_) fun _ => pl_storeCells h r (i + 1)
    unfold Addr.add
    split <;> exact h
theorem pl_storeVar {t : TypeId} {a : Addr} {v : Value} (h : W a.block ∨ N ≤ a.block) : Plo P B W N (storeVar t a v) := by
  unfold storeVar
  refine Plo.bind (pl_sizeOf t) fun n => ?_
  split
  · exact Plo.bind trivial fun _ => pl_storeCells h _ _
  · exact pl_storeCells h _ _
theorem pl_newRow (e : TypeId) (c : Array Value) : Plo P B W N (newRow e c) := Plo.bind (pl_newObj rfl) fun _ => trivial
theorem pl_newVar (t : TypeId) (v : Value) : Plo P B W N (newVar t v) := pl_newRow _ _
theorem pl_elemOf (t : TypeId) : Plo P B W N (elemOf t) := by unfold elemOf; refine Plo.bind (Zd t) fun p => ?_; split <;> exact trivial
theorem pl_part (t : TypeId) (cs : Array Value) (off : Nat) : Plo P B W N (part t cs off) := by
  unfold part
  refine Plo.bind (pl_isAgg t) fun b => ?_
  split
  · exact Plo.bind (pl_sizeOf t) fun _ => trivial
  · split <;> exact trivial
theorem pl_runtimePanic (e : RuntimeError) : Plo P B W N (runtimePanic e : Sem α) := by
  unfold runtimePanic
  refine Plo.bind pl_program fun p => ?_
  cases e <;> first | exact trivial | exact Plo.bind (pl_elemOf _) fun _ => Plo.bind (pl_newVar _ _) fun _ => trivial
theorem pl_boundsPanic (k : IntKind) (x y : Int) (c : BoundsCode) : Plo P B W N (boundsPanic k x y c : Sem α) := by
  unfold boundsPanic
  simp only []
  split
  · exact Plo.bind (Plo.bind (pl_choose _) fun _ => trivial) fun _ => pl_runtimePanic _
  · exact Plo.bind trivial fun _ => pl_runtimePanic _
theorem pl_asIntOf (v : Value) : Plo P B W N (asIntOf v) := by unfold asIntOf; split <;> exact trivial
theorem pl_asInt (v : Value) : Plo P B W N (asInt v) := Plo.bind (pl_asIntOf v) fun _ => trivial
theorem pl_asBool (v : Value) : Plo P B W N (asBool v) := by unfold asBool; split <;> exact trivial
theorem pl_asString (v : Value) : Plo P B W N (asString v) := by unfold asString; split <;> exact trivial
theorem pl_asAgg (v : Value) : Plo P B W N (asAgg v) := by unfold asAgg; split <;> exact trivial
theorem pl_asAddr (v : Value) : Plo P B W N (asAddr v) := by unfold asAddr; split <;> first | exact trivial | exact pl_runtimePanic _
theorem pl_listMapM {f : α → Sem β} : ∀ (l : List α), (∀ a ∈ l, Plo P B W N (f a)) → Plo P B W N (l.mapM f)
  | [], _ => trivial
  | a :: l, h => by
    rw [List.mapM_cons]
    exact Plo.bind (h a (by simp)) fun _ => Plo.bind (pl_listMapM l fun b hb => h b (by simp [hb])) fun _ => trivial
theorem pl_mapM {f : α → Sem β} (xs : Array α) (h : ∀ a ∈ xs, Plo P B W N (f a)) : Plo P B W N (xs.mapM f) := by
  rw [Array.mapM_eq_mapM_toList]
  exact Plo.bind (pl_listMapM _ fun a ha => h a (Array.mem_toList_iff.1 ha)) fun _ => trivial
theorem pl_results (fn : Func) (tmps : Array Value) : Plo P B W N (results fn tmps) := by
  unfold results
  refine Plo.bind (pl_mapM _ fun r _ => ?_) fun _ => trivial
  split
  · exact trivial
  · exact Plo.bind (pl_asAddr _) fun _ => pl_loadVar _ _
theorem pl_forInL {f : α → β → Sem (ForInStep β)} : ∀ (l : List α) (b : β), (∀ a ∈ l, ∀ b, Plo P B W N (f a b)) → Plo P B W N (forIn l b f)
  | [], b, h => by rw [List.forIn_nil]; exact pl_pure _
  | a :: l, b, h => by
    rw [List.forIn_cons]
    refine Plo.bind (h a (by simp) b) fun r => ?_
    cases r with
    | done b => exact pl_pure _
    | yield b => exact pl_forInL l b fun x hx => h x (by simp [hx])
theorem pl_forInA {f : α → β → Sem (ForInStep β)} (xs : Array α) (b : β) (h : ∀ a ∈ xs, ∀ b, Plo P B W N (f a b)) : Plo P B W N (forIn xs b f) := by
  rw [← Array.forIn_toList]
  exact pl_forInL _ _ fun a ha => h a (Array.mem_toList_iff.1 ha)
/-- it asks nobody but the program -/
def PureP (P : Program) : Sem α → Prop
  | .pure _ => True
  | .halt _ => True
  | .program k => PureP P (k P)
  | _ => False
theorem PureP.bind {x : Sem α} {f : α → Sem β} (hx : PureP P x) (hf : ∀ a, PureP P (f a)) : PureP P (x >>= f) := by
  show PureP P (x.bind f)
  induction x with
  | pure a => exact hf a
  | halt h => exact trivial
  | program k ih => exact ih P hx
  | _ => exact hx.elim
theorem PureP.at {x : Sem α} {f : α → Sem β} {a : α} {w w' : World} (hx : PureP P x) (hr : x.run P w = .ok a w') (hf : Plo P B W N (f a)) : Plo P B W N (x >>= f) := by
  show Plo P B W N (x.bind f)
  induction x with
  | pure b => simp only [Sem.run] at hr; cases hr; exact hf
  | halt h => exact trivial
  | program k ih => exact .inl (ih P hx hr)
  | _ => exact hx.elim
theorem pp_typeInfo (t : TypeId) : PureP P (typeInfo t) := by
  show PureP P (match P.info? t with | some i => (pure i : Sem TypeInfo) | none => stuck "no such type")
  split <;> exact trivial
theorem pp_underlying (t : TypeId) : PureP P (underlying t) := by
  show PureP P (match P.underlying t with | some i => (pure i : Sem TypeDesc) | none => stuck "no such type")
  split <;> exact trivial
theorem pp_sizeOf (t : TypeId) : PureP P (sizeOf t) := PureP.bind (pp_typeInfo t) fun _ => trivial
theorem pp_isAgg (t : TypeId) : PureP P (isAgg t) := PureP.bind (pp_underlying t) fun _ => by split <;> exact trivial
theorem pp_part (t : TypeId) (cs : Array Value) (off : Nat) : PureP P (part t cs off) := PureP.bind (pp_isAgg t) fun b => by
  split
  · exact PureP.bind (pp_sizeOf t) fun _ => trivial
  · split <;> exact trivial
/-! ### operations -/
theorem pl_sureAddr (v : Value) : Plo P B W N (Instr.sureAddr v) := by unfold Instr.sureAddr; split <;> exact trivial
theorem pl_loadAt (t : TypeId) (v : Value) : Plo P B W N (Instr.loadAt t v) := Plo.bind (pl_sureAddr v) fun _ => pl_loadVar _ _
theorem Zc {t : TypeId} {d : TypeDesc} (h : P.underlying t = some d) {f : TypeDesc → Sem α} (hf : Plo P B W N (f d)) : Plo P B W N (underlying t >>= f) := by
  have : Plo P B W N ((match P.underlying t with | some d => (pure d : Sem TypeDesc) | none => stuck "no such type") >>= f) := by rw [h]; exact hf
  exact .inl this
theorem pl_typeInfo_at {t : TypeId} {i : TypeInfo} (h : P.info? t = some i) {f : TypeInfo → Sem α} (hf : Plo P B W N (f i)) : Plo P B W N (typeInfo t >>= f) := by
  have : Plo P B W N ((match P.info? t with | some i => (pure i : Sem TypeInfo) | none => stuck "no such type") >>= f) := by rw [h]; exact hf
  exact .inl this
theorem Sem.bind_assoc' {γ : Type} (x : Sem α) (f : α → Sem β) (g : β → Sem γ) : (x >>= f) >>= g = x >>= fun a => f a >>= g := by
  show (x.bind f).bind g = x.bind fun a => (f a).bind g
  induction x <;> simp only [Sem.bind, *]
theorem pl_sizeOf_at {t : TypeId} {i : TypeInfo} (h : P.info? t = some i) {f : Nat → Sem α} (hf : Plo P B W N (f i.size)) : Plo P B W N (sizeOf t >>= f) := by
  unfold sizeOf
  rw [Sem.bind_assoc']
  exact pl_typeInfo_at h hf
theorem pl_fieldAt {s f : Nat} {v : Value} {fs : Array Field} {fd : Field} {i : TypeInfo} (h1 : P.underlying s = some (.struct fs)) (h2 : fs[f]? = some fd) (h3 : P.info? fd.type = some i) (h4 : i.size ≠ 0) : Plo P B W N (Instr.fieldAt s v f) := by
  unfold Instr.fieldAt
  refine Zc h1 ?_
  simp only [h2]
  refine Plo.bind (pl_sureAddr v) fun a => Plo.bind ?_ fun _ => trivial
  unfold fieldPlace
  refine pl_sizeOf_at h3 ?_
  rw [if_neg h4]
  exact trivial
theorem pl_indexAt (t : TypeId) (x i : Value) : Plo P B W N (Instr.indexAt t x i) := by
  unfold Instr.indexAt
  repeat' first | exact trivial | exact Zd _ | exact pl_sureAddr _ | exact pl_sizeOf _ | exact pl_asIntOf _ | exact pl_boundsPanic _ _ _ _ | refine Plo.bind ?_ (fun _ => ?_) | split | dsimp only
theorem pl_sliceBound (x : Value) (y : Nat) (c : BoundsCode) : Plo P B W N (Instr.sliceBound x y c) := by
  unfold Instr.sliceBound
  repeat' first | exact trivial | exact pl_asIntOf _ | exact pl_boundsPanic _ _ _ _ | refine Plo.bind ?_ (fun _ => ?_) | split | dsimp only
theorem pl_sliceBounds (b : Bool) (l c : Nat) (x y z : Option Value) : Plo P B W N (Instr.sliceBounds b l c x y z) := by
  unfold Instr.sliceBounds
  repeat' first | exact trivial | exact pl_sliceBound _ _ _ | refine Plo.bind ?_ (fun _ => ?_) | split
theorem pl_slice (t : TypeId) (v : Value) (x y z : Option Value) : Plo P B W N (Instr.slice t v x y z) := by
  unfold Instr.slice
  repeat' first | exact trivial | exact Zd _ | exact pl_sizeOf _ | exact pl_asAddr _ | exact pl_sliceBounds _ _ _ _ _ _ | refine Plo.bind ?_ (fun _ => ?_) | split
theorem pl_sliceAt (t : TypeId) (v : Value) (x y z : Option Value) : Plo P B W N (Instr.sliceAt t v x y z) := by
  unfold Instr.sliceAt
  repeat' first | exact trivial | exact Zd _ | exact pl_sizeOf _ | exact pl_sureAddr _ | exact pl_sliceBounds _ _ _ _ _ _ | exact pl_slice _ _ _ _ _ | refine Plo.bind ?_ (fun _ => ?_) | split
theorem pl_field (t : TypeId) (v : Value) (f : Nat) : Plo P B W N (Instr.field t v f) := by
  unfold Instr.field
  repeat' first | exact trivial | exact Zd _ | exact pl_asAgg _ | exact pl_part _ _ _ | refine Plo.bind ?_ (fun _ => ?_) | split
theorem pl_index (t : TypeId) (v i : Value) : Plo P B W N (Instr.index t v i) := by
  unfold Instr.index
  repeat' first | exact trivial | exact Zd _ | exact pl_asIntOf _ | exact pl_part _ _ _ | exact pl_sizeOf _ | exact pl_boundsPanic _ _ _ _ | refine Plo.bind ?_ (fun _ => ?_) | split | dsimp only
theorem pl_build (t : TypeId) (ps : Array (Nat × Value)) : Plo P B W N (Instr.build t ps) := by
  unfold Instr.build
  repeat' first | exact trivial | exact Zd _ | exact pl_zeroValue _ | exact pl_sizeOf _ | refine pl_mapM _ (fun _ _ => ?_) | refine Plo.bind ?_ (fun _ => ?_) | split
theorem pl_buildSlice (t : TypeId) (n : Nat) (ps : Array (Nat × Value)) : Plo P B W N (Instr.buildSlice t n ps) := by
  unfold Instr.buildSlice
  repeat' first | exact trivial | exact Zd _ | exact pl_zeroValue _ | exact pl_sizeOf _ | exact pl_newRow _ _ | refine Plo.bind ?_ (fun _ => ?_) | split | dsimp only
theorem pl_alloc (t : TypeId) (v : Value) : Plo P B W N (Instr.alloc t true v) := by
  unfold Instr.alloc
  exact Plo.bind (pl_zeroValue t) fun _ => Plo.bind (pl_newVar _ _) fun _ => trivial
theorem pl_makeChan (t : TypeId) (v : Value) : Plo P B W N (Instr.makeChan t v) := by
  unfold Instr.makeChan
  repeat' first | exact trivial | exact Zd _ | exact pl_asInt _ | exact pl_typeInfo _ | exact pl_runtimePanic _ | exact pl_newObj rfl | refine Plo.bind ?_ (fun _ => ?_) | split | dsimp only
theorem pl_makeMap (t : TypeId) (r : Option Value) : Plo P B W N (Instr.makeMap t r) := by
  unfold Instr.makeMap
  repeat' first | exact trivial | exact Zd _ | exact pl_asInt _ | exact pl_newObj rfl | refine Plo.bind ?_ (fun _ => ?_) | split | dsimp only
theorem pl_makeSlice (t : TypeId) (l c : Value) : Plo P B W N (Instr.makeSlice t l c) := by
  unfold Instr.makeSlice
  repeat' first | exact trivial | exact Zd _ | exact pl_asInt _ | exact pl_typeInfo _ | exact pl_sizeOf _ | exact pl_zeroValue _ | exact pl_askRoom _ | exact pl_choose _ | exact pl_runtimePanic _ | exact pl_newRow _ _ | refine Plo.bind ?_ (fun _ => ?_) | split | dsimp only
theorem pl_makeInterface (t : TypeId) (v : Value) : Plo P B W N (Instr.makeInterface t v) := by
  unfold Instr.makeInterface
  refine Plo.bind (Zd t) fun _ => ?_
  split <;> exact trivial
theorem pl_typeAssert (v : Value) (x a : TypeId) (ok : Bool) : Plo P B W N (Instr.typeAssert v x a ok) := by
  unfold Instr.typeAssert
  repeat' first | exact trivial | exact Zd _ | exact pl_typeInfo _ | exact pl_zeroValue _ | exact pl_runtimePanic _ | refine Plo.bind ?_ (fun _ => ?_) | split | dsimp only
theorem pl_extract (v : Value) (i : Nat) : Plo P B W N (Instr.extract v i) := by unfold Instr.extract; repeat' first | exact trivial | split
theorem pl_intArith (op : BinOp) (k : IntKind) (x y : Int) : Plo P B W N (Op.intArith op k x y) := by unfold Op.intArith; split <;> exact trivial
theorem pl_intDiv (op : BinOp) (k : IntKind) (x y : Int) : Plo P B W N (Op.intDiv op k x y) := by unfold Op.intDiv; repeat' first | exact trivial | exact pl_runtimePanic _ | split
theorem pl_intBits (op : BinOp) (k : IntKind) (x y : Int) : Plo P B W N (Op.intBits op k x y) := by unfold Op.intBits; cases op <;> exact trivial
theorem pl_shift (op : BinOp) (k : IntKind) (x : Int) (yk : IntKind) (y : Int) : Plo P B W N (Op.shift op k x yk y) := by unfold Op.shift; repeat' first | exact trivial | exact pl_runtimePanic _ | split
theorem pl_intCmp (op : BinOp) (x y : Int) : Plo P B W N (Op.intCmp op x y) := by unfold Op.intCmp; split <;> exact trivial
theorem pl_stringOp (op : BinOp) (x y : ByteArray) : Plo P B W N (Op.stringOp op x y) := by unfold Op.stringOp; cases op <;> first | exact trivial | (simp only []; split <;> exact trivial)
theorem pl_unary (op : UnOp) (v : Value) : Plo P B W N (Op.unary op v) := by unfold Op.unary; split <;> first | exact trivial | exact pl_intArith _ _ _ _ | exact pl_intBits _ _ _ _
theorem pl_len (ts : Array TypeId) (t : TypeId) (xs : Array Value) : Plo P B W N (Builtin.len_ ts t xs) := by
  unfold Builtin.len_
  repeat' first | exact trivial | exact Zd _ | exact pl_getObj _ | refine Plo.bind ?_ (fun _ => ?_) | split
theorem pl_cap (ts : Array TypeId) (t : TypeId) (xs : Array Value) : Plo P B W N (Builtin.cap_ ts t xs) := by
  unfold Builtin.cap_
  repeat' first | exact trivial | exact Zd _ | exact pl_getObj _ | refine Plo.bind ?_ (fun _ => ?_) | split
theorem pl_foldlM {f : β → α → Sem β} : ∀ (l : List α) (b : β), (∀ b a, Plo P B W N (f b a)) → Plo P B W N (l.foldlM f b)
  | [], b, h => trivial
  | a :: l, b, h => by rw [List.foldlM_cons]; exact Plo.bind (h b a) fun b => pl_foldlM l b h
theorem pl_min (ts : Array TypeId) (t : TypeId) (xs : Array Value) : Plo P B W N (Builtin.min_ ts t xs) := by
  unfold Builtin.min_
  split
  · exact trivial
  · refine pl_foldlM _ _ fun b a => ?_
    unfold Builtin.min2
    repeat' first | exact trivial | exact pl_choose _ | exact pl_stringOp _ _ _ | exact pl_asBool _ | refine Plo.bind ?_ (fun _ => ?_) | split
theorem pl_max (ts : Array TypeId) (t : TypeId) (xs : Array Value) : Plo P B W N (Builtin.max_ ts t xs) := by
  unfold Builtin.max_
  split
  · exact trivial
  · refine pl_foldlM _ _ fun b a => ?_
    unfold Builtin.max2
    repeat' first | exact trivial | exact pl_choose _ | exact pl_stringOp _ _ _ | exact pl_asBool _ | refine Plo.bind ?_ (fun _ => ?_) | split
/-- operations that write no memory that is there, whatever their operands -/
def ploB : Op → Bool
  | .move _ | .assign _ | .pick _ _ _ | .alloc _ | .box _ _ | .build _ _ | .buildSlice _ _ _ | .load _ _ | .unOp _ _ _ | .makeInterface _ _ | .makeFunc _ _ _ | .makeMap _ _ | .makeChan _ _ | .makeSlice _ _ _ | .slice _ _ _ _ _ | .field _ _ _
  | .indexAddr _ _ _ | .index _ _ _ | .typeAssert _ _ _ _ | .extract _ _ => true
  | .call { callee := .builtin .len, .. } | .call { callee := .builtin .cap, .. } | .call { callee := .builtin .min, .. } | .call { callee := .builtin .max, .. } => true
  | _ => false
theorem pl_op (e : Operand → Value) (o : Oper) (h : ploB o.op = true) : Plo P B W N (execOp e o) := by
  obtain ⟨d, op, ty, pos, af, g⟩ := o
  cases op <;> first | (simp [ploB] at h; done) | skip
  case call c =>
    obtain ⟨cl, as9, ts⟩ := c
    cases cl with
    | value f => simp [ploB] at h
    | invoke r m => simp [ploB] at h
    | builtin b =>
      cases b <;> first | (simp [ploB] at h; done) | skip
      all_goals simp only [execOp, resolve]
      · exact (Plo.bind (pl_cap _ _ _) fun _ => trivial : Plo P B W N (Builtin.cap_ _ _ _ >>= fun v => pure (Next.value v)))
      · exact (Plo.bind (pl_len _ _ _) fun _ => trivial : Plo P B W N (Builtin.len_ _ _ _ >>= fun v => pure (Next.value v)))
      · exact (Plo.bind (pl_max _ _ _) fun _ => trivial : Plo P B W N (Builtin.max_ _ _ _ >>= fun v => pure (Next.value v)))
      · exact (Plo.bind (pl_min _ _ _) fun _ => trivial : Plo P B W N (Builtin.min_ _ _ _ >>= fun v => pure (Next.value v)))
  all_goals simp only [execOp]
  all_goals first
    | exact trivial
    | exact Plo.bind (pl_asBool _) fun _ => trivial
    | exact Plo.bind (pl_alloc _ _) fun _ => trivial
    | exact Plo.bind (Plo.bind (pl_newVar _ _) fun _ => trivial) fun _ => trivial
    | exact Plo.bind (pl_build _ _) fun _ => trivial
    | exact Plo.bind (pl_buildSlice _ _ _) fun _ => trivial
    | exact Plo.bind (pl_loadAt _ _) fun _ => trivial
    | exact Plo.bind (pl_unary _ _) fun _ => trivial
    | exact Plo.bind (pl_makeInterface _ _) fun _ => trivial
    | exact Plo.bind (pl_makeMap _ _) fun _ => trivial
    | exact Plo.bind (pl_makeChan _ _) fun _ => trivial
    | exact Plo.bind (pl_makeSlice _ _ _) fun _ => trivial
    | exact Plo.bind (pl_sliceAt _ _ _ _ _) fun _ => trivial
    | exact Plo.bind (pl_field _ _ _) fun _ => trivial
    | exact Plo.bind (pl_indexAt _ _ _) fun _ => trivial
    | exact Plo.bind (pl_index _ _ _) fun _ => trivial
    | exact Plo.bind (pl_typeAssert _ _ _ _) fun _ => trivial
    | exact Plo.bind (pl_extract _ _) fun _ => trivial
end
end Go.HL
end

/-! QHL -/
section
namespace Go.HL
open Go
set_option linter.unusedVariables false
set_option linter.unusedSectionVars false
set_option linter.unusedSimpArgs false
variable [Tasks]

/-- some of these blocks, in any order -/
def LS (a b : List Blk) : Prop := ∃ l, List.Perm l a ∧ List.Sublist l b
/-- block b is written -/
def Upd (L : Heap) (b : Nat) (o o' : Obj) (L' : Heap) : Prop := ∃ l r, L.flatten = l ++ (b, o) :: r ∧ L'.flatten = l ++ (b, o') :: r
/-- blocks go to a child: its own ones leave; what all read stays -/
structure Give (L L' Lc : Heap) (t : Tk) : Prop where
  own : ∃ own ro, List.Perm Lc.flatten (t.at_ :: (own ++ ro)) ∧ LS (own ++ L'.flatten) L.flatten ∧ (∀ p ∈ own, pln p.2 = true) ∧ ∀ p ∈ ro, rob p.2 = true ∧ p ∈ L'.flatten
  nodup : (Lc.flatten.map (·.1)).Nodup
/-- what stays as9 it was, stays -/
def OldW (w : World) : Prop := ∀ b, Tasks.O b → w.heap[b]? = Tasks.W0.heap[b]?
/-- its release said: what is left of it lists nothing, but for its steps on what is shared -/
inductive Tl (P : Program) : Goroutine → Tk → Prop
  | ctl {g g' : Goroutine} {t : Tk} : g.status = .running → g'.status = .running → t.st ≠ 25 → (∀ w γ, Shr γ w → Cmp t γ → OldW w → stepG P false g w = .go g' w #[]) → Tl P g' t → Tl P g t
  | shared {g : Goroutine} {t : Tk} (K : Goroutine → Tk → Prop) : g.status = .running → t.st ≠ 25 →
      (∀ w γ, Shr γ w → Cmp t γ → OldW w → ∃ g' w' es t' γ', stepG P false g w = .go g' w' es ∧ g'.status = .running ∧ Mv t γ t' γ' es ∧ Wak P g γ γ' ∧ Shr γ' w' ∧ Only γ w w' ∧ K g' t') → (∀ g' t', K g' t' → Tl P g' t') → Tl P g t
  | quit {g : Goroutine} {t : Tk} (n : Nat) : t.st = 25 → Conc.QuitsD P n 1 g → Tl P g t
/-- on its way to a stop, by steps of its own, and by steps on what is shared -/
inductive Lo (P : Program) : Bool → (Goroutine → Heap → Prop) → Goroutine → Heap → Prop
  | stop {main : Bool} {Φ : Goroutine → Heap → Prop} {g : Goroutine} {L : Heap} : Φ g L → Lo P main Φ g L
  | own {main : Bool} {Φ : Goroutine → Heap → Prop} {g : Goroutine} {L : Heap} (K : Goroutine → Heap → Prop) : g.status = .running →
      (∀ k w, Sat k w L → ∃ g' w' es L', stepG P main g w = .go g' w' es ∧ g'.status = .running ∧ Tr w w' L L' es ∧ NoX es ∧ Sat k w' L' ∧ K g' L') → (∀ g' L', K g' L' → Lo P main Φ g' L') → Lo P main Φ g L
  | weak {main : Bool} {Φ : Goroutine → Heap → Prop} {g : Goroutine} {L L' : Heap} : Wk L L' → Lo P main Φ g L' → Lo P main Φ g L
  | shared {main : Bool} {Φ : Goroutine → Heap → Prop} {g : Goroutine} {L : Heap} (t : Tk) (K : Goroutine → Heap → Prop) : g.status = .running → t.at_ ∈ L.flatten → t.st ≠ 12 →
      (∀ k w γ, Sat k w L → Shr γ w → Cmp t γ →
        (∃ g' w' es t' γ' L', stepG P main g w = .go g' w' es ∧ g'.status = .running ∧ Mv t γ t' γ' es ∧ Wak P g γ γ' ∧ Shr γ' w' ∧ Only γ w w' ∧ Upd L t.todo t.obj t'.obj L' ∧ K g' L') ∨
        (t.st = 9 ∧ γ.sem = 0 ∧ g.offers = none ∧ stepG P main g w = .go { g with status := .blocked } w #[])) →
      (∀ g' L', K g' L' → Lo P main Φ g' L') → Lo P main Φ g L
  | lib {main : Bool} {Φ : Goroutine → Heap → Prop} {g : Goroutine} {L : Heap} (t : Tk) (K : Goroutine → Heap → Prop) : g.status = .running → t.at_ ∈ L.flatten → t.st ≠ 12 →
      (∀ k w γ, Sat k w L → Shr γ w → Cmp t γ → ∃ g' w' es L', stepG P main g w = .go g' w' es ∧ g'.status = .running ∧ Tr w w' L L' es ∧ NoX es ∧ Sat k w' L' ∧ K g' L') → (∀ g' L', K g' L' → Lo P main Φ g' L') → Lo P main Φ g L
  | rel {Φ : Goroutine → Heap → Prop} {g : Goroutine} {L : Heap} (t : Tk) (K : Goroutine → Prop) : g.status = .running → t.st = 22 → t.at_ ∈ L.flatten →
      (∀ k w γ, Sat k w L → Shr γ w → Cmp t γ → OldW w → ∃ g', stepG P false g w = .go g' w #[evMk (.releaseMerge (stA t.wg))] ∧ g'.status = .running ∧ K g') → (∀ g', K g' → Tl P g' { t with st := 23 }) → Lo P false Φ g L
  | begin {main : Bool} {Φ : Goroutine → Heap → Prop} {g : Goroutine} {L : Heap} {r : List Blk} (t t' : Tk) (c d u E : Nat) : t.st = 12 → t'.st = 0 → t'.todo = c → t'.back = d → t'.wg = u → t'.n = 0 → t'.a = 0 → t'.b = 0 → t'.l = [] →
      LS (t.at_ :: (c, .chan 0 #[] false 0 0 false) :: (d, .chan 0 #[] false 0 0 false) :: (u, wgObj Tasks.T 0 0 0) :: r) L.flatten → Lo P main Φ g [t'.at_ :: r] → Lo P main Φ g L
  | go {main : Bool} {Φ : Goroutine → Heap → Prop} {g g' : Goroutine} {L L1 L' Lc : Heap} (t : Tk) (d : Deferred) : g.status = .running → g'.status = .running → t.st = 3 → (∀ k w, Sat k w L → stepG P main g w = .spawn g' (Conc.born P d) w #[]) →
      Upd L t.todo t.obj ({ t with st := 0, n := t.n + 1 } : Tk).obj L1 → Give L1 L' Lc { t with st := 20 } → Lo P false (fun _ _ => False) (Conc.born P d) Lc → Lo P main Φ g' L' → Lo P main Φ g L
  | recv {main : Bool} {Φ : Goroutine → Heap → Prop} {g : Goroutine} {L : Heap} (t : Tk) (z : Value) : g.status = .running → t.st = 20 → t.at_ ∈ L.flatten → (∀ k w, Sat k w L → stepG P main g w = .comm g #[Conc.rcase t.todo z] true (.recv true) w #[]) →
      (∀ i L', t.b ≤ i → i < t.many → Upd L t.todo t.obj ({ t with st := 21, a := i, b := i + 1 } : Tk).obj L' → Lo P main Φ (Conc.served g (.tuple #[.int .i64 (i : Nat), .bool true])) L') →
      (∀ L', Upd L t.todo t.obj ({ t with st := 22 } : Tk).obj L' → Lo P main Φ (Conc.served g (.tuple #[z, .bool false])) L') → Lo P main Φ g L
  | send {main : Bool} {Φ : Goroutine → Heap → Prop} {g : Goroutine} {L L1 L' : Heap} (t : Tk) (v z : Value) (bl : List Blk) : g.status = .running → t.st = 21 → (∀ k w, Sat k w L → stepG P main g w = .comm g #[Conc.scase t.back v z] true .send w #[]) →
      Upd L t.todo t.obj ({ t with st := 20 } : Tk).obj L1 → LS (bl ++ L'.flatten) L1.flatten → (∀ p ∈ bl, pln p.2 = true) → Tasks.R t.tag t.a v bl → Lo P main Φ (Conc.served g undef) L' → Lo P main Φ g L
  | select {main : Bool} {Φ : Goroutine → Heap → Prop} {g : Goroutine} {L : Heap} (t : Tk) (c0 : CommCase) (z : Value) : g.status = .running → t.st = 0 → t.at_ ∈ L.flatten → t.b < t.many → 1 ≤ t.n →
      (c0 = (if t.a = t.many then { chan := .chan none, send := some (.int .i64 (t.a : Nat)), zero := .int .i64 0 } else Conc.scase t.todo (.int .i64 (t.a : Nat)) (.int .i64 0))) → (∀ k w, Sat k w L → stepG P main g w = .comm g #[c0, Conc.rcase t.back z] true .select w #[]) →
      (t.a < t.many → ∀ L', Upd L t.todo t.obj ({ t with a := t.a + 1, l := t.a :: t.l } : Tk).obj L' → Lo P main Φ (Conc.served g (.tuple #[goInt 0, .bool false, z])) L') →
      (∀ i v bl L', i ∈ t.l → Tasks.R t.tag i v bl → Upd L t.todo t.obj ({ t with b := t.b + 1, l := t.l.erase i } : Tk).obj L' → Lo P main Φ (Conc.served g (.tuple #[goInt 1, .bool true, v])) (bl :: L')) → Lo P main Φ g L

structure Agr (n : Nat) (a : Act) (ρ : Env) : Prop where
  size : a.tmps.size = n
  get : ∀ t v, lk ρ t = some v → a.tmps[t]? = some v

/-- behind a way out -/
def AfterL (P : Program) (main : Bool) (Φ : Goroutine → Heap → Prop) (n : Nat) (ds : List Deferred) (b : Frame) (k : List Item) (cs : List Frame) : Exit → Env → Heap → Prop
  | .normal, ρ, L => ∀ a : Act, a.defers = ds → Agr n a ρ → Lo P main Φ (Conc.G (b.at a k) cs) L
  | .exit id, ρ, L => ∃ k', exitTo id k = some k' ∧ ∀ a : Act, a.defers = ds → Agr n a ρ → Lo P main Φ (Conc.G (b.at a k') cs) L
  | .ret, ρ, L => ∀ (a : Act) (todo : List Item), a.defers = ds → Agr n a ρ → Lo P main Φ (Conc.G { b.at a todo with mode := .returning } cs) L
  | _, _, _ => False

def HW (P : Program) (n : Nat) (c : Code) (Q : Exit → Env → Heap → Prop) (ρ : Env) (L : Heap) : Prop :=
  ∀ (main : Bool) (Φ : Goroutine → Heap → Prop) (b : Frame) (k : List Item) (cs : List Frame) (a : Act), b.kind ≠ .early → (∀ e ρ' L', Q e ρ' L' → AfterL P main Φ n a.defers b k cs e ρ' L') → Agr n a ρ → Lo P main Φ (Conc.G (b.at a (.code c :: k)) cs) L

structure Enters (P : Program) (f : Nat) : Prop where
  run : ∀ args w, (callFunc f args).run P w = .ok (.enter f args) w
  pl : ∀ args B W N, Plo P B W N (callFunc f args)
theorem enters_of {P : Program} {f : Nat} {fn : Func} {c : Code} (hf : P.funcs[f]? = some fn) (hb : fn.body = some c) (hn : (fn.name == "runtime.NumGoroutine") = false) : Enters P f := by
  have key : ∀ args, (match P.funcs[f]? with
      | none => stuck "call: no such function"
      | some fn =>
        if fn.name == "runtime.NumGoroutine" then pure .numGoroutine
        else if fn.body.isNone then do
          mark (.extern f)
          if let some e := Extern.findNext fn then return ← e args
          match Extern.find fn with
          | some e => pure (.value (← e args))
          | none =>
            if fn.name.endsWith ".init" && !fn.name.startsWith "(" && !fn.name.startsWith "gosem." then pure (.value (.tuple #[]))
            else unsupported (.extern fn.name)
        else pure (.enter f args) : Sem Next) = pure (.enter f args) := fun args => by
    rw [hf]
    simp only [hn, hb]
    rfl
  refine ⟨fun args w => ?_, fun args B W N => ?_⟩
  · have := congrArg (fun s => s.run P w) (key args)
    exact this
  · have : Plo P B W N (pure (Next.enter f args)) := trivial
    rw [← key args] at this
    exact .inl this
def HC (P : Program) (f : Nat) (args : List Value) (L : Heap) (Q : Value → Heap → Prop) : Prop :=
  Enters P f ∧ ∀ (main : Bool) (Φ : Goroutine → Heap → Prop) (fr : Frame) (cs : List Frame), (∀ v L', Q v L' → Lo P main Φ (Conc.G (fr.finish v) cs) L') → Lo P main Φ (Conc.G (Frame.enter P f ⟨args⟩ .normal) (fr :: cs)) L

/-- one operation, its operands reckoned -/
inductive OpW (P : Program) (o : Oper) (e : Operand → Value) (L : Heap) (R : Value → Heap → Prop) : Prop
  | plain : (∀ k w, Sat k w L → ∃ nx v w' L', (execOp e o).run P w = .ok nx w' ∧ (nx = .value v ∨ nx = .skip ∧ v = undef) ∧ Tr w w' L L' ((execOp e o).events P w #[]) ∧ Sat k w' L' ∧ R v L') → OpW P o e L R
  | call (f : Nat) (args : List Value) : (∀ k w, Sat k w L → (execOp e o).run P w = .ok (.enter f ⟨args⟩) w ∧ Tr w w L L ((execOp e o).events P w #[])) → HC P f args L R → OpW P o e L R
  | raw : (∀ (main : Bool) (Φ : Goroutine → Heap → Prop) (b : Frame) (k : List Item) (cs : List Frame) (a : Act) (ops : Array Oper) (i : Nat) (is : List Nat) (o' : Oper), execOp a.eval o' = execOp e o → o'.op = o.op → ops[i]? = some o' → Region.wanted o' (yielded ops a.tmps) = true → b.kind ≠ .early →
      (∀ v L', R v L' → Lo P main Φ (Conc.G (b.at (a.put o'.dst v) (.inRegion ops is :: k)) cs) L') → Lo P main Φ (Conc.G (b.at a (.inRegion ops (i :: is) :: k)) cs) L) → OpW P o e L R
/-- the operations of a region, in this order -/
def HO (P : Program) (n : Nat) (ops : List Oper) (Q : Exit → Env → Heap → Prop) : List Oper → Env → Heap → Prop
  | [], ρ, L => ∃ L', LS L'.flatten L.flatten ∧ Q .normal ρ L'
  | o :: rest, ρ, L => ∀ a : Act, Agr n a ρ → if Region.wanted o (yielded ops.toArray a.tmps) = true then OpW P o a.eval L (fun v L' => ∃ ρ', Agr n (a.put o.dst v) ρ' ∧ HO P n ops Q rest ρ' L')
      else ∃ ρ', Agr n (a.put o.dst undef) ρ' ∧ HO P n ops Q rest ρ' L
/-! ### the environment -/
theorem lk_cons_eq (t : Nat) (v : Value) (ρ : Env) : lk ((t, v) :: ρ) t = some v := by simp [lk]
theorem lk_cons_ne {t x : Nat} (v : Value) (ρ : Env) (h : t ≠ x) : lk ((t, v) :: ρ) x = lk ρ x := by
  simp only [lk]
  have : Nat.beq t x = false := by
    cases hb : Nat.beq t x with
    | false => rfl
    | true => exact absurd (Nat.eq_of_beq_eq_true hb) h
  rw [this]; rfl

theorem Agr.put {n : Nat} {a : Act} {ρ : Env} (h : Agr n a ρ) {d : Nat} (hd : d < n) (v : Value) : Agr n (a.put (some d) v) ((d, v) :: ρ) := by
  refine ⟨by simp [Act.put, h.size], fun t x hx => ?_⟩
  by_cases e : d = t
  · subst e
    rw [lk_cons_eq] at hx
    cases hx
    simp [Act.put, Array.getElem?_setIfInBounds, h.size, hd]
  · rw [lk_cons_ne _ _ e] at hx
    simp [Act.put, Array.getElem?_setIfInBounds, e, h.get t x hx]

theorem Agr.none {n : Nat} {a : Act} {ρ : Env} (h : Agr n a ρ) (v : Value) : Agr n (a.put none v) ρ := h

theorem Agr.ev {n : Nat} {a : Act} {ρ : Env} (h : Agr n a ρ) {x : Operand} {v : Value} (hv : ev ρ x = some v) : a.eval x = v := by
  cases x with
  | tmp t => simp [Act.eval, h.get t v hv]
  | const c => simpa [HL.ev, Act.eval] using hv
  | global g => simpa [HL.ev, Act.eval] using hv
  | func f => simpa [HL.ev, Act.eval] using hv

/-- every entry of the first is found in the second -/
def Sub : Env → Env → Prop
  | [], _ => True
  | (t, v) :: r, ρ => lk ρ t = some v ∧ Sub r ρ

theorem Agr.sub {n : Nat} {a : Act} {ρ : Env} (h : Agr n a ρ) : ∀ {ρ' : Env}, Sub ρ' ρ → Agr n a ρ'
  | [], _ => ⟨h.size, fun t v hv => by simp [lk] at hv⟩
  | (t, v) :: r, hs => by
    have ih := Agr.sub h hs.2
    refine ⟨h.size, fun x u hx => ?_⟩
    by_cases e : t = x
    · subst e
      rw [lk_cons_eq] at hx
      cases hx
      exact h.get _ _ hs.1
    · rw [lk_cons_ne _ _ e] at hx
      exact ih.get x u hx


/-! ### what the trace keeps -/
theorem seen_sub {P : Program} {fn : FuncId} {es : Array Event} {e : Event} (h : e ∈ seen P fn es) : e ∈ es := Conc.mem_seen h
theorem seen_noext {P : Program} {fn : FuncId} {es : Array Event} {e : Event} (h : e ∈ seen P fn es) : ∀ f, e.loc ≠ .mark (.extern f) := by
  rw [Conc.seen_def] at h
  have key : ∀ (quiet : FuncId → Bool) (l : List Event) (q : Bool) (kept : Array Event), (∀ x ∈ kept, ∀ f, x.loc ≠ .mark (.extern f)) → ∀ x ∈ (l.foldl (Conc.seenStep quiet) (q, kept)).2, ∀ f, x.loc ≠ .mark (.extern f) := by
    intro quiet l
    induction l with
    | nil => exact fun q kept hk => hk
    | cons a l ih =>
      intro q kept hk
      simp only [List.foldl_cons, Conc.seenStep]
      split
      · exact ih _ _ hk
      · rename_i hne
        refine ih _ _ ?_
        split
        · exact hk
        · intro x hx f
          rcases Array.mem_push.1 hx with hx | rfl
          · exact hk x hx f
          · intro he; exact hne f he
  exact key _ _ _ _ (fun x hx => by simp at hx) e h
section core
theorem Gr.refl (N : Nat) (L : Heap) : Gr N L L := ⟨fun _ h => .inl h, fun _ h => .inl h, fun _ h _ => h⟩
theorem Tr.refl (w : World) (L : Heap) : Tr w w L L #[] := ⟨Nat.le_refl _, fun _ _ _ => rfl, .refl _ _, fun e he => by simp at he⟩
theorem noX_nil : NoX #[] := fun e he => by simp at he
theorem noX_seen {P : Program} {fn : FuncId} {es : Array Event} : NoX (seen P fn es) := fun e he => seen_noext he
theorem Tr.seen {P : Program} {w w' : World} {L L' : Heap} {es : Array Event} {fn : FuncId} (h : Tr w w' L L' es) : Tr w w' L L' (seen P fn es) := ⟨h.size, h.keep, h.gr, fun e he => h.evs e (seen_sub he)⟩
theorem Wk.refl (L : Heap) : Wk L L := ⟨fun _ _ h => h, fun _ h => h, fun _ h => h, fun _ h _ => h⟩
theorem Wk.trans {L L' L'' : Heap} (h : Wk L L') (h' : Wk L' L'') : Wk L L'' := ⟨fun k w s => h'.sat k w (h.sat k w s), fun b x => h.w b (h'.w b x), fun b x => h.b b (h'.b b x), fun p hp hg => h.tok p (h'.tok p hp hg) hg⟩
theorem Lo.ctl {P : Program} {main : Bool} {Φ : Goroutine → Heap → Prop} {g g' : Goroutine} {L : Heap} (hr : g.status = .running) (hr' : g'.status = .running) (h : ∀ w, stepG P main g w = .go g' w #[]) (hn : Lo P main Φ g' L) : Lo P main Φ g L :=
  .own (fun g1 L1 => g1 = g' ∧ L1 = L) hr (fun k w hs => ⟨g', w, #[], L, h w, hr', .refl w L, noX_nil, hs, rfl, rfl⟩) (by rintro _ _ ⟨rfl, rfl⟩; exact hn)
theorem AfterL.push {P : Program} {n : Nat} {ds : List Deferred} {ρ : Env} {L : Heap} {main : Bool} {Φ : Goroutine → Heap → Prop} {b : Frame} {x : Item} {k : List Item} {cs : List Frame} {e : Exit} (hx : x.plain = true) (he : e ≠ .normal) (h : AfterL P main Φ n ds b k cs e ρ L) : AfterL P main Φ n ds b (x :: k) cs e ρ L := by
  cases e with
  | normal => exact absurd rfl he
  | exit id => obtain ⟨k', hk, hg⟩ := h; exact ⟨k', by cases x <;> simp_all [exitTo, Item.plain], hg⟩
  | ret => exact h
  | goto l => exact h
  | panic ch => exact h
  | outgrown => exact h
theorem HW.mono {P : Program} {n : Nat} {Q : Exit → Env → Heap → Prop} {ρ : Env} {L : Heap} {c : Code} {Q' : Exit → Env → Heap → Prop} (h : HW P n c Q ρ L) (hq : ∀ e ρ L, Q e ρ L → Q' e ρ L) : HW P n c Q' ρ L :=
  fun main Φ b k cs a hb hc ha => h main Φ b k cs a hb (fun e ρ' L' q => hc e ρ' L' (hq e ρ' L' q)) ha
theorem HC.mono {P : Program} {f : Nat} {args : List Value} {L : Heap} {Q Q' : Value → Heap → Prop} (h : HC P f args L Q) (hq : ∀ v L', Q v L' → Q' v L') : HC P f args L Q' :=
  ⟨h.1, fun main Φ fr cs hc => h.2 main Φ fr cs fun v L' q => hc v L' (hq v L' q)⟩
theorem HC.wk {P : Program} {f : Nat} {args : List Value} {L L' : Heap} {Q : Value → Heap → Prop} (h : HC P f args L' Q) (hw : Wk L L') : HC P f args L Q :=
  ⟨h.1, fun main Φ fr cs hc => .weak hw (h.2 main Φ fr cs hc)⟩
theorem HC.wkQ {P : Program} {f : Nat} {args : List Value} {L : Heap} {Q Q' : Value → Heap → Prop} (h : HC P f args L Q) (hw : ∀ v L', Q v L' → ∃ L2, Wk L' L2 ∧ Q' v L2) : HC P f args L Q' :=
  ⟨h.1, fun main Φ fr cs hc => h.2 main Φ fr cs fun v L' q => let ⟨L2, h1, h2⟩ := hw v L' q; .weak h1 (hc v L2 h2)⟩
theorem Gr.wk {N : Nat} {L L' L2 : Heap} (h : Gr N L' L2) (hw : Wk L L') : Gr N L L2 := ⟨fun b x => (h.w b x).imp (hw.w b) id, fun b x => (h.b b x).imp (hw.b b) id, fun p hp hg => hw.tok p (h.tok p hp hg) hg⟩
theorem EvIn.mono {B W B' W' : Nat → Prop} {N : Nat} {e : Event} (h : EvIn B W N e) (hb : ∀ b, B b → B' b) (hw : ∀ b, W b → W' b) : EvIn B' W' N e := by
  rcases h with ⟨b, h1, h2⟩ | h
  · refine .inl ⟨b, h1, ?_⟩
    split at h2
    · rename_i hq; rw [if_pos hq]; exact h2.imp (hw b) id
    · rename_i hq; rw [if_neg hq]; exact h2.imp (hb b) id
  · exact .inr h
theorem Tr.wk {w w' : World} {L L' L2 : Heap} {es : Array Event} (h : Tr w w' L' L2 es) (hw : Wk L L') : Tr w w' L L2 es :=
  ⟨h.size, fun b hb hn => h.keep b hb fun x => hn (hw.w b x), h.gr.wk hw, fun e he => ⟨(h.evs e he).1.mono hw.b hw.w, (h.evs e he).2⟩⟩
theorem OpW.mono {P : Program} {o : Oper} {e : Operand → Value} {L : Heap} {R R' : Value → Heap → Prop} (h : OpW P o e L R) (hr : ∀ v L', R v L' → R' v L') : OpW P o e L R' := by
  cases h with
  | plain h => exact .plain fun k w hs => let ⟨nx, v, w', L', h1, h2, h3, h4, h5⟩ := h k w hs; ⟨nx, v, w', L', h1, h2, h3, h4, hr _ _ h5⟩
  | call f args h1 h2 => exact .call f args h1 (h2.mono hr)
  | raw h => exact .raw fun main Φ b k cs a ops i is o' h1 h2 h3 h4 h5 h6 => h main Φ b k cs a ops i is o' h1 h2 h3 h4 h5 fun v L' q => h6 v L' (hr v L' q)
theorem OpW.wk {P : Program} {o : Oper} {e : Operand → Value} {L L' : Heap} {R : Value → Heap → Prop} (h : OpW P o e L' R) (hw : Wk L L') : OpW P o e L R := by
  cases h with
  | plain h => exact .plain fun k w hs => let ⟨nx, v, w', L', h1, h2, h3, h4, h5⟩ := h k w (hw.sat k w hs); ⟨nx, v, w', L', h1, h2, h3.wk hw, h4, h5⟩
  | call f args h1 h2 => exact .call f args (fun k w hs => ⟨(h1 k w (hw.sat k w hs)).1, ⟨Nat.le_refl _, fun _ _ _ => rfl, .refl _ _, ((h1 k w (hw.sat k w hs)).2.wk hw).evs⟩⟩) (h2.wk hw)
  | raw h => exact .raw fun main Φ b k cs a ops i is o' h1 h2 h3 h4 h5 h6 => .weak hw (h main Φ b k cs a ops i is o' h1 h2 h3 h4 h5 h6)
end core
theorem sublist_flatten : ∀ {l₁ l₂ : Heap}, List.Sublist l₁ l₂ → List.Sublist l₁.flatten l₂.flatten
  | _, _, .slnil => List.Sublist.refl _
  | _, _, .cons a h => by
    simp only [List.flatten_cons]
    exact (sublist_flatten h).trans (List.sublist_append_right _ _)
  | _, _, .cons_cons a h => by
    simp only [List.flatten_cons]
    exact (List.append_sublist_append_left a).2 (sublist_flatten h)
/-! ### other cuts of the same blocks -/
theorem LS.refl (a : List Blk) : LS a a := ⟨a, .refl _, .refl _⟩
theorem LS.of_eq {a b : List Blk} (h : a = b) : LS a b := h ▸ LS.refl a
theorem LS.of_perm {a b : List Blk} (h : List.Perm a b) : LS a b := ⟨b, h.symm, .refl _⟩
theorem LS.of_sub {a b : List Blk} (h : List.Sublist a b) : LS a b := ⟨a, .refl _, h⟩
theorem LS.skip {a b : List Blk} (x : Blk) (h : LS a b) : LS a (x :: b) := let ⟨l, h1, h2⟩ := h; ⟨l, h1, .cons _ h2⟩
theorem LS.skips {a b : List Blk} (c : List Blk) (h : LS a b) : LS a (c ++ b) := let ⟨l, h1, h2⟩ := h; ⟨l, h1, h2.trans (List.sublist_append_right _ _)⟩
theorem LS.boths {a b : List Blk} (c : List Blk) (h : LS a b) : LS (c ++ a) (c ++ b) := let ⟨l, h1, h2⟩ := h; ⟨c ++ l, h1.append_left c, (List.append_sublist_append_left c).2 h2⟩
theorem LS.c {a x : List Blk} {L : Heap} (h : LS a L.flatten) : LS a (x :: L).flatten := by rw [List.flatten_cons]; exact h.skips x
theorem LS.k {x : List Blk} {A L : Heap} (h : LS A.flatten L.flatten) : LS (x :: A).flatten (x :: L).flatten := by rw [List.flatten_cons, List.flatten_cons]; exact h.boths x
theorem LS.trans {a b c : List Blk} (h : LS a b) (h' : LS b c) : LS a c := by
  obtain ⟨l, h1, h2⟩ := h
  obtain ⟨m, h3, h4⟩ := h'
  obtain ⟨l', h5, h6⟩ := List.exists_perm_sublist h2 h3.symm
  exact ⟨l', h5.trans h1, h6.trans h4⟩
theorem LS.mem {a b : List Blk} (h : LS a b) {p : Blk} (hp : p ∈ a) : p ∈ b := by
  obtain ⟨l, h1, h2⟩ := h
  exact h2.subset (h1.mem_iff.2 hp)
theorem Sat.sp {k : Ctx} {w : World} {L L' : Heap} (h : Sat k w L) (hf : LS L'.flatten L.flatten) : Sat k w L' := by
  obtain ⟨l, hp, hs⟩ := hf
  have hm : ∀ p ∈ L'.flatten, p ∈ L.flatten := fun p hp' => hs.subset (hp.mem_iff.2 hp')
  exact ⟨h.os, h.out, h.tape, fun p hp' => h.has p (hm p hp'), (hp.map _).nodup_iff.1 (h.nodup.sublist (hs.map _)), fun p hp' => h.nv p (hm p hp'), fun p hp' => h.lt p (hm p hp')⟩
theorem Wk.ls {L L' : Heap} (hf : LS L'.flatten L.flatten) : Wk L L' := ⟨fun k w h => h.sp hf, fun b ⟨o, h1, h2⟩ => ⟨o, hf.mem h1, h2⟩, fun b ⟨o, h1, h2⟩ => ⟨o, hf.mem h1, h2⟩, fun p hp _ => hf.mem hp⟩
theorem Sat.sub {k : Ctx} {w : World} {L L' : Heap} (h : Sat k w L) (hs : List.Sublist L' L) : Sat k w L' := h.sp (.of_sub (sublist_flatten hs))
section control
variable {P : Program} {n : Nat} {Q : Exit → Env → Heap → Prop} {ρ : Env} {L : Heap}

def seqQ (P : Program) (n : Nat) (y : Code) (Q : Exit → Env → Heap → Prop) : Exit → Env → Heap → Prop
  | .normal, ρ, L => HW P n y Q ρ L
  | e, ρ, L => Q e ρ L
def blkQ (id : Nat) (Q : Exit → Env → Heap → Prop) : Exit → Env → Heap → Prop
  | .exit i, ρ, L => if i = id then Q .normal ρ L else Q (.exit i) ρ L
  | e, ρ, L => Q e ρ L

theorem hw_seq {x y : Code} (h : HW P n x (seqQ P n y Q) ρ L) : HW P n (.seq x y) Q ρ L := fun main Φ b k cs a hb hc ha =>
  .ctl rfl rfl (fun w => Conc.stepG_seq) (h main Φ b (.code y :: k) cs a hb (fun e ρ' L' q => by
    cases e with
    | normal => exact fun a' hd ha' => q main Φ b k cs a' hb (by rw [hd]; exact hc) ha'
    | exit id => exact (hc _ _ _ q).push rfl (by simp)
    | ret => exact (hc _ _ _ q).push (x := .code y) rfl (by simp)
    | goto l => exact hc _ _ _ q
    | panic ch => exact hc _ _ _ q
    | outgrown => exact hc _ _ _ q) ha)
theorem hw_block {id : Nat} {c : Code} (h : HW P n c (blkQ id Q) ρ L) : HW P n (.block id c) Q ρ L := fun main Φ b k cs a hb hc ha =>
  .ctl rfl rfl (fun w => Conc.stepG_block) (h main Φ b (.inBlock id :: k) cs a hb (fun e ρ' L' q => by
    cases e with
    | normal => exact fun a' hd ha' => .ctl rfl rfl (fun w => Conc.stepG_inBlock) (hc _ _ _ q a' hd ha')
    | exit id' =>
      by_cases hid : id' = id
      · simp only [blkQ, hid, if_true] at q
        exact ⟨k, by simp [exitTo, hid], hc _ _ _ q⟩
      · simp only [blkQ, hid, if_false] at q
        obtain ⟨k', hk', hg⟩ := hc _ _ _ q
        have : (id == id') = false := by simp; exact fun h => hid h.symm
        exact ⟨k', by simp [exitTo, this, hk'], hg⟩
    | ret => exact hc _ _ _ q
    | goto l => exact hc _ _ _ q
    | panic ch => exact hc _ _ _ q
    | outgrown => exact hc _ _ _ q) ha)
theorem hw_skip (h : Q .normal ρ L) : HW P n .skip Q ρ L := fun main Φ b k cs a hb hc ha => .ctl rfl rfl (fun w => Conc.stepG_skip) (hc _ _ _ h a rfl ha)
theorem hw_exit {id : Nat} (h : Q (.exit id) ρ L) : HW P n (.exit id) Q ρ L := fun main Φ b k cs a hb hc ha => by
  obtain ⟨k', hk', hg⟩ := hc _ _ _ h
  exact .ctl rfl rfl (fun w => Conc.stepG_exit hk') (hg a rfl ha)
theorem hw_ret (h : Q .ret ρ L) : HW P n .ret Q ρ L := fun main Φ b k cs a hb hc ha => .ctl rfl rfl (fun w => Conc.stepG_ret') (hc _ _ _ h a _ rfl ha)
theorem hw_true {c : Operand} {x y : Code} {b : Bool} (hc : ev ρ c = some (.bool b)) (hb : b = true) (h : HW P n x Q ρ L) : HW P n (.cond c x y) Q ρ L := fun main Φ b2 k cs a hb2 hq ha =>
  .ctl rfl rfl (fun w => Conc.stepG_cond (ha.ev hc)) (by subst hb; exact h main Φ b2 k cs a hb2 hq ha)
theorem hw_false {c : Operand} {x y : Code} {b : Bool} (hc : ev ρ c = some (.bool b)) (hb : b = false) (h : HW P n y Q ρ L) : HW P n (.cond c x y) Q ρ L := fun main Φ b2 k cs a hb2 hq ha =>
  .ctl rfl rfl (fun w => Conc.stepG_cond (ha.ev hc)) (by subst hb; exact h main Φ b2 k cs a hb2 hq ha)
theorem hw_bool {c : Operand} {x y : Code} {b : Bool} (hc : ev ρ c = some (.bool b)) (ht : b = true → HW P n x Q ρ L) (hf : b = false → HW P n y Q ρ L) : HW P n (.cond c x y) Q ρ L := by
  cases hb : b with
  | true => exact hw_true hc hb (ht hb)
  | false => exact hw_false hc hb (hf hb)
theorem range_map (l : List Oper) : (List.range l.toArray.size).map (fun i => l[i]?) = l.map some := by
  apply List.ext_getElem?
  intro i
  by_cases h : i < l.length
  · simp [h]
  · simp [h]
theorem ho_lo : ∀ {l : List Oper} {ρ : Env} {L : Heap} {ops : List Oper} (is : List Nat), is.map (fun i => ops[i]?) = l.map some → HO P n ops Q l ρ L → ∀ (main : Bool) (Φ : Goroutine → Heap → Prop) (b : Frame) (k : List Item) (cs : List Frame) (a : Act), b.kind ≠ .early →
    (∀ e ρ' L', Q e ρ' L' → AfterL P main Φ n a.defers b k cs e ρ' L') → Agr n a ρ → Lo P main Φ (Conc.G (b.at a (.inRegion ops.toArray is :: k)) cs) L
  | [], ρ, L, ops, is, his, h, main, Φ, b, k, cs, a, hb, hc, ha => by
    have : is = [] := by cases is with
      | nil => rfl
      | cons i r => simp at his
    subst this
    obtain ⟨L', h1, h2⟩ := h
    exact .ctl rfl rfl (fun w => Conc.stepG_region_end) (.weak (.ls h1) (hc _ _ _ h2 a rfl ha))
  | o :: l, ρ, L, ops, is, his, h, main, Φ, b, k, cs, a, hb, hc, ha => by
    cases is with
    | nil => simp at his
    | cons i is =>
      simp only [List.map_cons, List.cons.injEq] at his
      obtain ⟨ho, his⟩ := his
      have ho' : ops.toArray[i]? = some o := by simpa using ho
      have h1 := h a ha
      split at h1
      · rename_i hw
        cases h1 with
        | plain h2 =>
          refine .own (fun g' L' => ∃ v ρ', g' = Conc.G (b.at (a.put o.dst v) (.inRegion ops.toArray is :: k)) cs ∧ Agr n (a.put o.dst v) ρ' ∧ HO P n ops Q l ρ' L') rfl (fun kk w hs => ?_) ?_
          · obtain ⟨nx, v, w', L', e1, e2, e3, e4, ρ', e5, e6⟩ := h2 kk w hs
            refine ⟨_, w', _, L', ?_, rfl, e3.seen (P := P) (fn := b.fn), noX_seen, e4, v, ρ', rfl, e5, e6⟩
            rcases e2 with rfl | ⟨rfl, rfl⟩
            · exact Conc.stepG_value ho' hw hb e1
            · exact Conc.stepG_none ho' hw hb e1
          · rintro g' L' ⟨v, ρ', rfl, h3, h4⟩
            exact ho_lo is his h4 main Φ b k cs _ hb (by
              have : (a.put o.dst v).defers = a.defers := by cases o.dst <;> rfl
              rw [this]; exact hc) h3
        | call f args h2 h3 =>
          refine .own (fun g' L' => g' = Conc.G (Frame.enter P f ⟨args⟩ .normal) (b.at a (.inRegion ops.toArray (i :: is) :: k) :: cs) ∧ L' = L) rfl (fun kk w hs => ?_) ?_
          · obtain ⟨e1, e2⟩ := h2 kk w hs
            exact ⟨_, w, _, L, Conc.stepG_enter ho' hw hb e1, rfl, e2.seen (P := P) (fn := b.fn), noX_seen, hs, rfl, rfl⟩
          · rintro _ _ ⟨rfl, rfl⟩
            refine h3.2 main Φ _ cs fun v L' ⟨ρ', e5, e6⟩ => ?_
            rw [Frame.finish_at, ho']
            exact ho_lo is his e6 main Φ b k cs _ hb (by
              have : (a.put o.dst v).defers = a.defers := by cases o.dst <;> rfl
              show ∀ e ρ' L', Q e ρ' L' → AfterL P main Φ n (a.put o.dst v).defers b k cs e ρ' L'
              rw [this]; exact hc) e5
        | raw h2 =>
          refine h2 main Φ b k cs a ops.toArray i is o rfl rfl ho' hw hb fun v L' ⟨ρ', e5, e6⟩ => ?_
          exact ho_lo is his e6 main Φ b k cs _ hb (by
            have : (a.put o.dst v).defers = a.defers := by cases o.dst <;> rfl
            show ∀ e ρ' L', Q e ρ' L' → AfterL P main Φ n (a.put o.dst v).defers b k cs e ρ' L'
            rw [this]; exact hc) e5
      · rename_i hw
        obtain ⟨ρ', e5, e6⟩ := h1
        refine .ctl rfl rfl (fun w => Conc.stepG_unwanted ho' (by simpa using hw)) ?_
        exact ho_lo is his e6 main Φ b k cs _ hb (by
          have : (a.put o.dst undef).defers = a.defers := by cases o.dst <;> rfl
          rw [this]; exact hc) e5
theorem hw_region {id : Nat} {l : List Oper} (h : HO P n l Q l ρ L) : HW P n (.region id l.toArray false) Q ρ L := fun main Φ b k cs a hb hc ha =>
  .ctl rfl rfl (fun w => Conc.stepG_region) (ho_lo _ (range_map l) h main Φ b k cs a hb hc ha)

theorem seqQ_normal {y : Code} (h : HW P n y Q ρ L) : seqQ P n y Q .normal ρ L := h
theorem seqQ_ret {y : Code} (h : Q .ret ρ L) : seqQ P n y Q .ret ρ L := h
theorem seqQ_exit {y : Code} {i : Nat} (h : Q (.exit i) ρ L) : seqQ P n y Q (.exit i) ρ L := h
theorem blkQ_normal {id : Nat} (h : Q .normal ρ L) : blkQ id Q .normal ρ L := h
theorem blkQ_ret {id : Nat} (h : Q .ret ρ L) : blkQ id Q .ret ρ L := h
theorem blkQ_here {id : Nat} (h : Q .normal ρ L) : blkQ id Q (.exit id) ρ L := by simpa [blkQ] using h
theorem blkQ_exit {id i : Nat} (hn : Nat.beq i id = false) (h : Q (.exit i) ρ L) : blkQ id Q (.exit i) ρ L := by
  have : i ≠ id := fun e => by subst e; simp at hn
  simpa [blkQ, this] using h

/-- forget -/
theorem hw_sub {c : Code} {ρ' : Env} (h : HW P n c Q ρ' L) (hs : Sub ρ' ρ) : HW P n c Q ρ L := fun main Φ b k cs a hb hc ha => h main Φ b k cs a hb hc (ha.sub hs)

theorem hw_sp0 {c : Code} {L' : Heap} (h : HW P n c Q ρ L') (hs : LS L'.flatten L.flatten) : HW P n c Q ρ L := fun main Φ b k cs a hb hc ha => .weak (.ls hs) (h main Φ b k cs a hb hc ha)
theorem hw_perm {c : Code} {L' : Heap} (h : HW P n c Q ρ L') (hs : List.Perm L L') : HW P n c Q ρ L := hw_sp0 h (.of_perm hs.symm.flatten)
/-- a loop whose state is a value of a type: its slots, its heap, what holds, a measure -/
def loopQ {σ : Type} (env : σ → Env) (heap : σ → Heap) (inv : σ → Prop) (μ : σ → Nat) (m : Nat) (Q : Exit → Env → Heap → Prop) : Exit → Env → Heap → Prop
  | .normal, ρ, L => ∃ s', Sub (env s') ρ ∧ LS (heap s').flatten L.flatten ∧ inv s' ∧ μ s' < m
  | e, ρ, L => Q e ρ L
theorem hw_loop {σ : Type} {c : Code} (env : σ → Env) (heap : σ → Heap) (inv : σ → Prop) (μ : σ → Nat) (s : σ)
    (hρ : Sub (env s) ρ) (hL : List.Sublist (heap s) L) (hi : inv s)
    (round : ∀ s, inv s → HW P n c (loopQ env heap inv μ (μ s) Q) (env s) (heap s)) : HW P n (.loop c) Q ρ L := by
  intro main Φ b kk cs a hb hc ha
  have key : ∀ m s, μ s = m → inv s → ∀ a' : Act, a'.defers = a.defers → Agr n a' (env s) → Lo P main Φ (Conc.G (b.at a' (.code c :: .inLoop c :: kk)) cs) (heap s) := by
    intro m
    induction m using Nat.strongRecOn with
    | _ m ih =>
      intro s hm hi a2 hda ha
      refine round s hi main Φ b (.inLoop c :: kk) cs a2 hb (fun e ρ' L' q => ?_) ha
      have hc := hda ▸ hc
      cases e with
      | normal =>
        obtain ⟨s', hsub, hL', hi', hlt⟩ := q
        exact fun a' hd ha' => .ctl rfl rfl (fun w => Conc.stepG_inLoop) (.weak (.ls hL') (ih (μ s') (hm ▸ hlt) s' rfl hi' a' (hd.trans hda) (ha'.sub hsub)))
      | exit id => exact (hc _ _ _ q).push rfl (by simp)
      | ret => exact (hc _ _ _ q).push (x := .inLoop c) rfl (by simp)
      | goto l => exact hc _ _ _ q
      | panic ch => exact hc _ _ _ q
      | outgrown => exact hc _ _ _ q
  exact .ctl rfl rfl (fun w => Conc.stepG_loop) (.weak (.ls (.of_sub (sublist_flatten hL))) (key _ s rfl hi a rfl (ha.sub hρ)))
theorem loopQ_ret {σ : Type} {env : σ → Env} {heap : σ → Heap} {inv : σ → Prop} {μ : σ → Nat} {m : Nat} (h : Q .ret ρ L) : loopQ env heap inv μ m Q .ret ρ L := h
theorem loopQ_exit {σ : Type} {env : σ → Env} {heap : σ → Heap} {inv : σ → Prop} {μ : σ → Nat} {m i : Nat} (h : Q (.exit i) ρ L) : loopQ env heap inv μ m Q (.exit i) ρ L := h
theorem loopQ_normal {σ : Type} {env : σ → Env} {heap : σ → Heap} {inv : σ → Prop} {μ : σ → Nat} {m : Nat} (s' : σ) (h : Sub (env s') ρ) (hL : List.Sublist (heap s') L) (hi : inv s') (hm : μ s' < m) : loopQ env heap inv μ m Q .normal ρ L := ⟨s', h, LS.of_sub (sublist_flatten hL), hi, hm⟩
theorem loopQ_sp {σ : Type} {env : σ → Env} {heap : σ → Heap} {inv : σ → Prop} {μ : σ → Nat} {m : Nat} (s' : σ) (h : Sub (env s') ρ) (hL : LS (heap s').flatten L.flatten) (hi : inv s') (hm : μ s' < m) : loopQ env heap inv μ m Q .normal ρ L := ⟨s', h, hL, hi, hm⟩
end control

/-! ### a function -/
section fn
def fnQ (P : Program) (fn : Func) (Q : Value → Heap → Prop) : Exit → Env → Heap → Prop
  | .normal, ρ, L | .ret, ρ, L => ∀ (k : Ctx) (w : World) (a : Act), Sat k w L → Agr fn.ntmps a ρ → ∃ v L', (results fn a.tmps).run P w = .ok v w ∧ Wk L L' ∧ Q v L'
  | _, _, _ => False
end fn
def args0 : Nat → List Value → Env
  | _, [] => []
  | i, v :: r => (i, v) :: args0 (i + 1) r
theorem lk_args0 (vs : List Value) : ∀ (i t : Nat) (v : Value), lk (args0 i vs) t = some v → i ≤ t ∧ vs[t - i]? = some v := by
  induction vs with
  | nil => intro i t v h; simp [args0, lk] at h
  | cons x r ih =>
    intro i t v h
    simp only [args0] at h
    by_cases e : i = t
    · subst e
      rw [lk_cons_eq] at h
      cases h
      simp
    · rw [lk_cons_ne _ _ e] at h
      obtain ⟨h1, h2⟩ := ih (i + 1) t v h
      refine ⟨by omega, ?_⟩
      rw [show t - i = (t - (i + 1)) + 1 by omega]
      simpa using h2

theorem Ag.sat {k : Ctx} {w w2 : World} {L : Heap} (hs : Sat k w L) (h : Ag (InB L) w.heap.size w w2) : Sat k w2 L :=
  ⟨h.os.trans hs.os, h.out.trans hs.out, h.tape.trans hs.tape, fun p hp hg => by rw [h.same p.1 (.inl ⟨p.2, hp, hg⟩)]; exact hs.has p hp hg, hs.nodup, hs.nv, fun p hp => by rw [h.size]; exact hs.lt p hp⟩
theorem Sat.noV {k : Ctx} {w : World} {L : Heap} (hs : Sat k w L) : NV (InB L) w.heap.size w := fun b o hb ho => by
  rcases hb with ⟨o', h1, h2⟩ | hb
  · have := hs.has _ h1 h2
    rw [ho] at this
    cases this
    exact noView_act (hs.nv _ h1)
  · rw [Array.getElem?_eq_none hb] at ho; cases ho
/-- what an operation that is well wherever its blocks are does to memory -/
theorem tr_pl {α : Type} {P : Program} {s : Sem α} {L L' : Heap} {k : Ctx} {w w' : World} {v : α} (hs : Sat k w L) (hpl : Plo P (InB L) (InW L) w.heap.size s) (hok : ∀ w2, Sat k w2 L → ∃ v w', s.run P w2 = .ok v w') (hr : s.run P w = .ok v w') (hg : Gr w.heap.size L L') :
    Tr w w' L L' (s.events P w #[]) := by
  obtain ⟨v1, w1, es, h1, h2, h3, h4⟩ := pl_loc (fun b h => h.b) s hpl w #[] (Nat.le_refl _) hs.noV fun w2 h2 => hok w2 (h2.sat hs)
  rw [Sem.runT_eq, hr] at h1
  simp only [Prod.mk.injEq, Result.ok.injEq] at h1
  obtain ⟨⟨rfl, rfl⟩, h5⟩ := h1
  rw [h5]
  exact ⟨h3, h4, hg, fun e he => h2 e (by simpa using he)⟩
theorem stepG_leaveE {P : Program} {main : Bool} {b : Frame} {a : Act} {todo : List Item} {cs : List Frame} {w : World} {fn : Func} {c : Frame} {v : Value} (hn : b.kind = .normal) (hd : a.defers = []) (hf : P.funcs[b.fn]? = some fn)
    (hr : (results fn a.tmps).run P w = .ok v w) :
    stepG P main (Conc.G { b.at a todo with mode := .returning } (c :: cs)) w = .go (Conc.G (c.finish v) cs) w (seen P b.fn ((results fn a.tmps).events P w #[])) := by
  simp [Conc.G, stepG, unwind, doReturn, Frame.at, hn, hd, hf, hr, GStep.after]
theorem Ze {P : Program} {f : Nat} {fn : Func} {c : Code} {args : List Value} {L : Heap} {Q : Value → Heap → Prop}
    (hm : (fn.name == "runtime.NumGoroutine") = false) (hf : P.funcs[f]? = some fn) (hb : fn.body = some c) {n : Nat} (hn : fn.ntmps = n) (hlen : args.length ≤ n)
    (h : HW P n c (fnQ P fn Q) (args0 0 args) L) : HC P f args L Q := by
  subst hn
  refine ⟨enters_of hf hb hm, fun main Φ fr cs hc => ?_⟩
  rw [Conc.enter_at _ hf hb]
  have key : ∀ (a : Act) (todo : List Item) (ρ : Env) (L' : Heap), a.defers = [] → Agr fn.ntmps a ρ → fnQ P fn Q .ret ρ L' → Lo P main Φ (Conc.G { (Conc.base f).at a todo with mode := .returning } (fr :: cs)) L' := fun a todo ρ L' hd ha hq => by
    refine .own (fun g L2 => ∃ v L3, g = Conc.G (fr.finish v) cs ∧ Wk L2 L3 ∧ Q v L3) rfl (fun k w hs => ?_) ?_
    · obtain ⟨v, L3, h1, h2, h3⟩ := hq k w a hs ha
      refine ⟨_, w, _, L', stepG_leaveE rfl hd hf h1, rfl, Tr.seen (tr_pl hs (pl_results _ _) (fun w2 hs2 => ?_) h1 (.refl _ _)), noX_seen, hs, v, L3, rfl, h2, h3⟩
      obtain ⟨v2, _, h4, _⟩ := hq k w2 a hs2 ha
      exact ⟨v2, w2, h4⟩
    · rintro g L2 ⟨v, L3, rfl, h2, h3⟩
      exact .weak h2 (hc v L3 h3)
  refine h main Φ (Conc.base f) [] (fr :: cs) _ (by simp [Conc.base]) (fun e ρ' L' q => ?_) ⟨?_, ?_⟩
  · cases e with
    | normal => exact fun a hd ha => .ctl rfl rfl (fun w => Conc.stepG_end) (key a [] ρ' L' hd ha q)
    | ret => exact fun a todo hd ha => key a todo ρ' L' hd ha q
    | exit i => exact q.elim
    | goto i => exact q.elim
    | panic ch => exact q.elim
    | outgrown => exact q.elim
  · simp; omega
  · intro t v hv
    obtain ⟨_, h2⟩ := lk_args0 args 0 t v hv
    have hlt : t < args.length := (List.getElem?_eq_some_iff.1 h2).1
    simp only []
    rw [Array.getElem?_append_left (by simpa using hlt)]
    simpa using h2

section results
variable {P : Program} {fn : Func} {Q : Value → Heap → Prop} {ρ : Env} {L : Heap}
/-- what a result's variable reads as9 -/
def ResV (P : Program) (ρ : Env) (L : Heap) : ResultVar → Value → Prop
  | .tmp t, v => lk ρ t = some v
  | .cell t T, v => ∃ p, lk ρ t = some (.pointer (some p)) ∧ ∀ k w, Sat k w L → (loadVar T p).run P w = .ok v w
def rv (tmps : Array Value) : ResultVar → Sem Value
  | .tmp t => pure (tmps.getD t undef)
  | .cell a t => do loadVar t (← asAddr (tmps.getD a undef))
theorem results_rv (fn : Func) (tmps : Array Value) : results fn tmps = (do
  let vs ← fn.results.mapM (rv tmps)
  pure (if h : vs.size = 1 then vs[0] else .tuple vs)) := rfl
theorem ResV.run {n : Nat} {r : ResultVar} {v : Value} (h : ResV P ρ L r v) {k : Ctx} {w : World} {a : Act} (hs : Sat k w L) (ha : Agr n a ρ) : (rv a.tmps r).run P w = .ok v w := by
  cases r with
  | tmp t => simp [rv, ha.get _ _ h]
  | cell t T =>
    obtain ⟨p, hp, hr⟩ := h
    simp [rv, ha.get _ _ hp, asAddr, hr k w hs]
theorem fn_end0 (hr : fn.results = #[]) {L' : Heap} (hL : List.Sublist L' L) (h : Q (.tuple #[]) L') : fnQ P fn Q .normal ρ L :=
  fun k w a hs ha => ⟨_, L', by simp [results, hr], Wk.ls (.of_sub (sublist_flatten hL)), h⟩
theorem fn_ret1 {r : ResultVar} {v : Value} (hr : fn.results = #[r]) (hv : ResV P ρ L r v) {L' : Heap} (hL : List.Sublist L' L) (h : Q v L') : fnQ P fn Q .ret ρ L :=
  fun k w a hs ha => ⟨v, L', by simp [results_rv, hr, hv.run hs ha], Wk.ls (.of_sub (sublist_flatten hL)), h⟩
end results
end Go.HL
end

/-! QHLOps -/
section
namespace Go.HL
set_option linter.unusedSectionVars false
variable [Tasks]
open Go
set_option linter.unusedVariables false
set_option linter.unusedSimpArgs false

/-! ### the types that a program has, as9 numbers -/
structure TyI where
  kind : Nat   -- 0 other, 1 bool, 2 int, 3 string, 4 pointer, 5 slice, 6 array, 7 struct, 8 map, 9 interface, 10 func
  x : Nat
  y : Nat
  size : Nat
  bytes : Nat
  deriving DecidableEq

def kindNo : IntKind → Nat
  | .i8 => 0 | .i16 => 1 | .i32 => 2 | .i64 => 3 | .u8 => 4 | .u16 => 5 | .u32 => 6 | .u64 => 7
def kindOf : Nat → IntKind
  | 0 => .i8 | 1 => .i16 | 2 => .i32 | 3 => .i64 | 4 => .u8 | 5 => .u16 | 6 => .u32 | _ => .u64
theorem kindOf_no (k : IntKind) : kindOf (kindNo k) = k := by cases k <;> rfl

def descI : TypeDesc → Nat × Nat × Nat
  | .bool => (1, 0, 0)
  | .int k => (2, kindNo k, 0)
  | .string => (3, 0, 0)
  | .pointer e => (4, e, 0)
  | .slice e => (5, e, 0)
  | .array n e => (6, n, e)
  | .struct fs => (7, fs.size, 0)
  | .map k e => (8, k, e)
  | .interface ms => (9, ms.size, 0)
  | .func ps rs _ => (10, ps.size, rs.size)
  | _ => (0, 0, 0)
def tyI (P : Program) (t : Nat) : Option TyI :=
  match P.underlying t, P.info? t with
  | some d, some i => some ⟨(descI d).1, (descI d).2.1, (descI d).2.2, i.size, i.bytes⟩
  | _, _ => none
/-- the offset of a field of a struct, if it has a size -/
def fldI (P : Program) (s f : Nat) : Option Nat :=
  match P.underlying s with
  | some (.struct fs) => match fs[f]? with
    | some fd => match P.info? fd.type with
      | some i => if i.size = 0 then none else some fd.offset
      | none => none
    | none => none
  | _ => none
/-- of a field: offset, its size, is it a struct or an array -/
def fldT (P : Program) (s f : Nat) : Option (Nat × Nat) :=
  match P.underlying s with
  | some (.struct fs) => match fs[f]? with
    | some fd => some (fd.offset, fd.type)
    | none => none
  | _ => none
/-- a struct's fields: offset, size, type -/
def stI (P : Program) (t : Nat) : Option (List (Nat × Nat × Nat)) :=
  match P.underlying t with
  | some (.struct fs) => fs.toList.mapM fun f => (P.info? f.type).map fun i => (f.offset, i.size, f.type)
  | _ => none
def zeroI (P : Program) (t : Nat) : Option Value := (P.info? t).bind (·.zero)

def lkN {α : Type} : List (Nat × α) → Nat → Option α
  | [], _ => none
  | (t, v) :: r, x => bif Nat.beq t x then some v else lkN r x
theorem lkN_mem {α : Type} {l : List (Nat × α)} {x : Nat} {v : α} (h : lkN l x = some v) : (x, v) ∈ l := by
  induction l with
  | nil => simp [lkN] at h
  | cons p r ih =>
    obtain ⟨t, u⟩ := p
    simp only [lkN] at h
    cases hb : Nat.beq t x with
    | true =>
      rw [hb] at h
      cases h
      have := Nat.eq_of_beq_eq_true hb
      subst this
      exact .head _
    | false => rw [hb] at h; exact .tail _ (ih h)

/-- the plain parts of a type: 1 bool, 2 int, 3 text -/
def flatFs (g : Nat → Option (List Nat)) : List Field → Nat → Option (List Nat)
  | [], _ => some []
  | f :: r, off => match g f.type with
    | some l => if f.name ≠ "_" ∧ f.offset = off ∧ 0 < l.length then (match flatFs g r (off + l.length) with
      | some m => some (l ++ m)
      | none => none) else none
    | none => none
def flatT (P : Program) : Nat → Nat → Option (List Nat)
  | 0, _ => none
  | d + 1, t => match P.underlying t, P.info? t with
    | some .bool, some i => if i.size = 1 then some [1] else none
    | some (.int _), some i => if i.size = 1 then some [2] else none
    | some .string, some i => if i.size = 1 then some [3] else none
    | some (.struct fs), some i => if P.stoodInHeld t = true then none else (match flatFs (flatT P d) fs.toList 0 with
      | some l => if i.size = l.length then some l else none
      | none => none)
    | some (.array n e), some i => (match flatT P d e with
      | some l => if i.size = n * l.length ∧ (P.info? e).map (·.size) = some l.length ∧ 0 < l.length then some (List.replicate n l).flatten else none
      | none => none)
    | _, _ => none
def isA (P : Program) (t : Nat) : Bool := match P.underlying t with
  | some (.struct _) => true
  | some (.array _ _) => true
  | _ => false
structure Tab (P : Program) where
  ty : List (Nat × TyI)
  fl : List (Nat × Nat × Nat)
  zr : List (Nat × Value)
  st : List (Nat × List (Nat × Nat × Nat))
  eq : List (Nat × List Nat)
  ty_ok : (ty.all fun p => decide (tyI P p.1 = some p.2)) = true
  fl_ok : (fl.all fun p => decide (fldI P (p.1 / 64) (p.1 % 64) = some p.2.1) && decide (fldT P (p.1 / 64) (p.1 % 64) = some p.2)) = true
  zr_ok : ∀ p ∈ zr, zeroI P p.1 = some p.2
  st_ok : (st.all fun p => decide (stI P p.1 = some p.2)) = true
  eq_ok : (eq.all fun p => decide (flatT P 8 p.1 = some p.2) && isA P p.1 && !(P.eqGuardType P.depth p.1)) = true
  mixed : P.follows .mixedOrders = true

section tab
variable {P : Program} (S : Tab P)
theorem Tab.tyI {t : Nat} {i : TyI} (h : lkN S.ty t = some i) : HL.tyI P t = some i := by
  have := List.all_eq_true.1 S.ty_ok _ (lkN_mem h)
  exact of_decide_eq_true this
theorem Tab.fldI {s f o ft : Nat} (h : lkN S.fl (s * 64 + f) = some (o, ft)) (hf : Nat.blt f 64 = true) : HL.fldI P s f = some o ∧ HL.fldT P s f = some (o, ft) := by
  have hf' : f < 64 := Nat.le_of_ble_eq_true hf
  have := List.all_eq_true.1 S.fl_ok _ (lkN_mem h)
  simp only [Bool.and_eq_true, decide_eq_true_eq] at this
  have e1 : (s * 64 + f) / 64 = s := by omega
  have e2 : (s * 64 + f) % 64 = f := by omega
  rw [e1, e2] at this
  exact this
theorem Tab.stI {t : Nat} {i : List (Nat × Nat × Nat)} (h : lkN S.st t = some i) : HL.stI P t = some i := by
  have := List.all_eq_true.1 S.st_ok _ (lkN_mem h)
  exact of_decide_eq_true this
theorem Tab.zeroI {t : Nat} {v : Value} (h : lkN S.zr t = some v) : HL.zeroI P t = some v := S.zr_ok _ (lkN_mem h)
end tab

section tyfacts
variable {P : Program} {t : Nat} {i : TyI}
theorem ty_desc (h : tyI P t = some i) : ∃ d j, P.underlying t = some d ∧ P.info? t = some j ∧ descI d = (i.kind, i.x, i.y) ∧ j.size = i.size ∧ j.bytes = i.bytes := by
  unfold tyI at h
  split at h
  · rename_i d j hd hj
    cases h
    exact ⟨d, j, hd, hj, rfl, rfl, rfl⟩
  · cases h
theorem ty_size (h : tyI P t = some i) (w : World) : (sizeOf t).run P w = .ok i.size w := by
  obtain ⟨d, j, hd, hj, _, hs, _⟩ := ty_desc h
  simp [sizeOf, typeInfo, hj, hs]
theorem ty_agg_no (h : tyI P t = some i) (hk : Nat.beq i.kind 6 = false) (hk' : Nat.beq i.kind 7 = false) (w : World) : (isAgg t).run P w = .ok false w := by
  obtain ⟨d, j, hd, hj, he, hs, _⟩ := ty_desc h
  have k6 : i.kind ≠ 6 := fun e => by rw [e] at hk; cases hk
  have k7 : i.kind ≠ 7 := fun e => by rw [e] at hk'; cases hk'
  cases d <;> simp [isAgg, run_underlying hd] <;> simp [descI] at he <;> omega
theorem ty_agg (h : tyI P t = some i) (hk : (Nat.beq i.kind 6 || Nat.beq i.kind 7) = true) (w : World) : (isAgg t).run P w = .ok true w := by
  obtain ⟨d, j, hd, hj, he, hs, _⟩ := ty_desc h
  have k : i.kind = 6 ∨ i.kind = 7 := by
    simp only [Bool.or_eq_true] at hk
    exact hk.imp Nat.eq_of_beq_eq_true Nat.eq_of_beq_eq_true
  cases d <;> simp [isAgg, run_underlying hd] <;> simp [descI] at he <;> omega
theorem ty_int (h : tyI P t = some i) (hk : i.kind = 2) : P.underlying t = some (.int (kindOf i.x)) := by
  obtain ⟨d, j, hd, hj, he, hs, _⟩ := ty_desc h
  rw [hd]
  cases d <;> simp [descI, hk] at he
  rw [← he.1, kindOf_no]
theorem ty_bool (h : tyI P t = some i) (hk : i.kind = 1) : P.underlying t = some .bool := by
  obtain ⟨d, j, hd, hj, he, hs, _⟩ := ty_desc h
  rw [hd]
  cases d <;> simp [descI, hk] at he
  rfl
theorem ty_string (h : tyI P t = some i) (hk : i.kind = 3) : P.underlying t = some .string := by
  obtain ⟨d, j, hd, hj, he, hs, _⟩ := ty_desc h
  rw [hd]
  cases d <;> simp [descI, hk] at he
  rfl
theorem ty_pointer (h : tyI P t = some i) (hk : i.kind = 4) : P.underlying t = some (.pointer i.x) := by
  obtain ⟨d, j, hd, hj, he, hs, _⟩ := ty_desc h
  rw [hd]
  cases d <;> simp [descI, hk] at he
  rw [he.1]
theorem ty_slice (h : tyI P t = some i) (hk : i.kind = 5) : P.underlying t = some (.slice i.x) := by
  obtain ⟨d, j, hd, hj, he, hs, _⟩ := ty_desc h
  rw [hd]
  cases d <;> simp [descI, hk] at he
  rw [he.1]
theorem ty_array (h : tyI P t = some i) (hk : i.kind = 6) : P.underlying t = some (.array i.x i.y) := by
  obtain ⟨d, j, hd, hj, he, hs, _⟩ := ty_desc h
  rw [hd]
  cases d <;> simp [descI, hk] at he
  rw [he.1, he.2]
theorem ty_map (h : tyI P t = some i) (hk : i.kind = 8) : P.underlying t = some (.map i.x i.y) := by
  obtain ⟨d, j, hd, hj, he, hs, _⟩ := ty_desc h
  rw [hd]
  cases d <;> simp [descI, hk] at he
  rw [he.1, he.2]
theorem ty_isSome (h : tyI P t = some i) : (P.underlying t).isSome = true := by
  obtain ⟨d, j, hd, hj, he, hs, _⟩ := ty_desc h
  simp [hd]
theorem zero_run {v : Value} (h : zeroI P t = some v) (w : World) : (zeroValue t).run P w = .ok v w := by
  unfold zeroI at h
  cases hj : P.info? t with
  | none => simp [hj] at h
  | some j =>
    simp [hj] at h
    simp [zeroValue, typeInfo, hj, h]
end tyfacts

/-! ### blocks -/
def Has (L : Heap) (b : Nat) (o : Obj) : Prop := (b, o) ∈ L.flatten
theorem has_here {b : Nat} {o : Obj} {c : List Blk} {L : Heap} : Has (((b, o) :: c) :: L) b o := by simp [Has]
theorem has_in {b : Nat} {o : Obj} {e : Blk} {c : List Blk} {L : Heap} (h : Has (c :: L) b o) : Has ((e :: c) :: L) b o := by
  simp only [Has, List.flatten_cons, List.cons_append, List.mem_cons] at *
  exact .inr h
theorem has_next {b : Nat} {o : Obj} {c : List Blk} {L : Heap} (h : Has L b o) : Has (c :: L) b o := by
  simp only [Has, List.flatten_cons, List.mem_append] at *
  exact .inr h
theorem has_mem {b : Nat} {o : Obj} {c : List Blk} {L : Heap} (h : (b, o) ∈ c) : Has (c :: L) b o := by
  simp only [Has, List.flatten_cons, List.mem_append]
  exact .inl h
theorem Sat.heap {k : Ctx} {w : World} {L : Heap} (h : Sat k w L) {b : Nat} {o : Obj} (hb : Has L b o) (ho : pln o = true := by rfl) : w.heap[b]? = some o := by
  have := h.has _ hb (pln_gho ho)
  rwa [act_pln ho] at this
theorem Sat.row {k : Ctx} {w : World} {L : Heap} (h : Sat k w L) {b : Nat} {l : Array Value} {E : Nat} {fr : Nat × Nat} (hb : Has L b (.cells l E fr)) : ∃ fr', w.heap[b]? = some (.cells l E fr') := by
  obtain ⟨fr', e⟩ := act_cells l E fr
  exact ⟨fr', e ▸ h.has _ hb rfl⟩
theorem Sat.cell {k : Ctx} {w : World} {L : Heap} (h : Sat k w L) {b : Nat} {l : List Value} {E : Nat} {fr : Nat × Nat} (hb : Has L b (.cells ⟨l⟩ E fr)) (j : Nat) : w.cell? ⟨b, j, none⟩ = l[j]? := by
  obtain ⟨fr', e⟩ := h.row hb
  rw [cell_of_row w b j ⟨l⟩ E fr' e]
  simp

/-- some cells in a row -/
def Gets (l : List Value) (i : Nat) (vs : List Value) : Prop := ∀ j v, vs[j]? = some v → l[i + j]? = some v
theorem Za {l : List Value} {i : Nat} {a : Value} {vs : List Value} (h : l[i]? = some a) (h2 : Gets l (i + 1) vs) : Gets l i (a :: vs) := by
  intro j v hj
  match j with
  | 0 => simp at hj; subst hj; simpa using h
  | j + 1 =>
    have := h2 j v (by simpa using hj)
    rw [show i + (j + 1) = i + 1 + j by omega]
    exact this
theorem gets_nil {l : List Value} {i : Nat} : Gets l i [] := by intro j v hj; simp at hj

theorem addr_add (b i n : Nat) : (Addr.mk b i none).add n = ⟨b, i + n, none⟩ := by
  unfold Addr.add
  split
  · rename_i h; subst h; rfl
  · rfl
theorem load_cells {P : Program} {k : Ctx} {w : World} {L : Heap} (hs : Sat k w L) {b i E : Nat} {l vs : List Value} {fr : Nat × Nat} (hb : Has L b (.cells ⟨l⟩ E fr)) (hg : Gets l i vs) :
    (loadCells ⟨b, i, none⟩ vs.length).run P w = .ok ⟨vs⟩ w := by
  have := run_loadCells_list (P := P) w ⟨b, i, none⟩ vs (fun j v hj => by rw [addr_add, hs.cell hb]; exact hg j v hj)
  simpa using this

/-! ### an operation that yields one value and leaves the blocks as9 they are -/
section
def QOp (P : Program) (o : Oper) (ρ : Env) (L : Heap) (v : Value) : Prop :=
  ∀ e : Operand → Value, (∀ x ∈ o.op.operands, ∀ u, ev ρ x = some u → e x = u) → OpW P o e L (fun u L' => u = v ∧ L' = L)
end
section rules
variable {P : Program} {n : Nat} {ops : List Oper} {Q : Exit → Env → Heap → Prop} {rest : List Oper} {o : Oper} {ρ : Env} {L : Heap}

theorem wanted_none (o : Oper) (h : o.guard = none) (y : Nat → Option Bool) : Region.wanted o y = true := by simp [Region.wanted, h]
theorem ho_nil (h : Q .normal ρ L) : HO P n ops Q [] ρ L := ⟨L, .refl _, h⟩
theorem ho_cons (h : ∀ a : Act, Agr n a ρ → if Region.wanted o (yielded ops.toArray a.tmps) = true then OpW P o a.eval L (fun v L' => ∃ ρ', Agr n (a.put o.dst v) ρ' ∧ HO P n ops Q rest ρ' L')
    else ∃ ρ', Agr n (a.put o.dst undef) ρ' ∧ HO P n ops Q rest ρ' L) : HO P n ops Q (o :: rest) ρ L := h
theorem ho_uncons (h : HO P n ops Q (o :: rest) ρ L) : ∀ a : Act, Agr n a ρ → if Region.wanted o (yielded ops.toArray a.tmps) = true then OpW P o a.eval L (fun v L' => ∃ ρ', Agr n (a.put o.dst v) ρ' ∧ HO P n ops Q rest ρ' L')
    else ∃ ρ', Agr n (a.put o.dst undef) ρ' ∧ HO P n ops Q rest ρ' L := h
/-- wanted, and what it does -/
theorem ho_op (hw : ∀ a : Act, Agr n a ρ → Region.wanted o (yielded ops.toArray a.tmps) = true) (h : ∀ a : Act, Agr n a ρ → OpW P o a.eval L (fun v L' => ∃ ρ', Agr n (a.put o.dst v) ρ' ∧ HO P n ops Q rest ρ' L')) : HO P n ops Q (o :: rest) ρ L :=
  ho_cons fun a ha => by rw [if_pos (hw a ha)]; exact h a ha
theorem ho_pass (hw : ∀ a : Act, Agr n a ρ → Region.wanted o (yielded ops.toArray a.tmps) = false) (h : ∀ a : Act, Agr n a ρ → ∃ ρ', Agr n (a.put o.dst undef) ρ' ∧ HO P n ops Q rest ρ' L) : HO P n ops Q (o :: rest) ρ L :=
  ho_cons fun a ha => by rw [if_neg (by rw [hw a ha]; simp)]; exact h a ha
theorem QOp.put {d : Nat} {v : Value} (hd : o.dst = some d) (hn : Nat.blt d n = true) (h : QOp P o ρ L v) (hr : HO P n ops Q rest ((d, v) :: ρ) L) (a : Act) (ha : Agr n a ρ) : OpW P o a.eval L (fun v L' => ∃ ρ', Agr n (a.put o.dst v) ρ' ∧ HO P n ops Q rest ρ' L') :=
  (h a.eval fun x _ u hu => ha.ev hu).mono fun u L' ⟨e1, e2⟩ => by
    subst e1; subst e2
    exact ⟨_, by rw [hd]; exact ha.put (Nat.le_of_ble_eq_true hn) u, hr⟩
theorem ho_q {v : Value} {d : Nat} {op : Op} {ty : TypeId} {pos : String} {af : Array Edge} (hn : Nat.blt d n = true) (h : QOp P ⟨some d, op, ty, pos, af, none⟩ ρ L v) (hr : HO P n ops Q rest ((d, v) :: ρ) L) :
    HO P n ops Q (⟨some d, op, ty, pos, af, none⟩ :: rest) ρ L := ho_op (fun a _ => wanted_none _ rfl _) (h.put rfl hn hr)

def gdst (ops : List Oper) (j : Nat) : Option Nat := (ops[j]?).bind (·.dst)
theorem wanted_guard {a : Act} {j t : Nat} {b wt : Bool} (ha : Agr n a ρ) (hg : o.guard = some (j, wt)) (hj : gdst ops j = some t) (ht : lk ρ t = some (.bool b)) : Region.wanted o (yielded ops.toArray a.tmps) = (b == wt) := by
  unfold gdst at hj
  simp [Region.wanted, hg, yielded, hj, ha.get _ _ ht]
theorem ho_want {v : Value} {d j t : Nat} {wt : Bool} {op : Op} {ty : TypeId} {pos : String} {af : Array Edge} (hn : Nat.blt d n = true) (hj : gdst ops j = some t) (ht : lk ρ t = some (.bool wt)) (h : QOp P ⟨some d, op, ty, pos, af, some (j, wt)⟩ ρ L v)
    (hr : HO P n ops Q rest ((d, v) :: ρ) L) : HO P n ops Q (⟨some d, op, ty, pos, af, some (j, wt)⟩ :: rest) ρ L :=
  ho_op (fun a ha => by rw [wanted_guard ha rfl hj ht]; simp) (h.put rfl hn hr)
theorem ho_skip {d j t : Nat} {wt b : Bool} {op : Op} {ty : TypeId} {pos : String} {af : Array Edge} (hn : Nat.blt d n = true) (hj : gdst ops j = some t) (ht : lk ρ t = some (.bool b)) (hb : (!wt) = b)
    (hr : HO P n ops Q rest ((d, undef) :: ρ) L) : HO P n ops Q (⟨some d, op, ty, pos, af, some (j, wt)⟩ :: rest) ρ L := by
  subst hb
  exact ho_pass (fun a ha => by rw [wanted_guard ha rfl hj ht]; cases wt <;> simp) fun a ha => ⟨_, ha.put (Nat.le_of_ble_eq_true hn) undef, hr⟩
/-- the truth of a slot is named -/
theorem Agr.name {a : Act} (ha : Agr n a ρ) {t : Nat} {b c : Bool} (ht : lk ρ t = some (.bool b)) (hb : b = c) : Agr n a ((t, .bool c) :: ρ) := by
  subst hb
  refine ⟨ha.size, fun x u hx => ?_⟩
  by_cases e : t = x
  · subst e
    rw [lk_cons_eq] at hx
    cases hx
    exact ha.get _ _ ht
  · rw [lk_cons_ne _ _ e] at hx
    exact ha.get _ _ hx
theorem ho_splitb {l : List Oper} (t : Nat) {b : Bool} (ht : lk ρ t = some (.bool b)) (h1 : b = true → HO P n ops Q (o :: l) ((t, .bool true) :: ρ) L) (h0 : b = false → HO P n ops Q (o :: l) ((t, .bool false) :: ρ) L) : HO P n ops Q (o :: l) ρ L := by
  cases hb : b with
  | true => exact ho_cons fun a ha => ho_uncons (h1 hb) a (ha.name ht hb)
  | false => exact ho_cons fun a ha => ho_uncons (h0 hb) a (ha.name ht hb)
theorem ho_skipu {d j t : Nat} {wt : Bool} {v : Value} {op : Op} {ty : TypeId} {pos : String} {af : Array Edge} (hj : gdst ops j = some t) (ht : lk ρ t = some v) (hb : v = undef) (hn : Nat.blt d n = true)
    (hr : HO P n ops Q rest ((d, undef) :: ρ) L) : HO P n ops Q (⟨some d, op, ty, pos, af, some (j, wt)⟩ :: rest) ρ L := by
  subst hb
  refine ho_pass (fun a ha => ?_) fun a ha => ⟨_, ha.put (Nat.le_of_ble_eq_true hn) undef, hr⟩
  unfold gdst at hj
  simp [Region.wanted, yielded, hj, ha.get _ _ ht, undef]
theorem ho_gsplit {d j t : Nat} {wt : Bool} {op : Op} {ty : TypeId} {pos : String} {af : Array Edge} {b : Bool} (hj : gdst ops j = some t) (ht : lk ρ t = some (.bool b))
    (h1 : b = true → HO P n ops Q (⟨some d, op, ty, pos, af, some (j, wt)⟩ :: rest) ((t, .bool true) :: ρ) L) (h0 : b = false → HO P n ops Q (⟨some d, op, ty, pos, af, some (j, wt)⟩ :: rest) ((t, .bool false) :: ρ) L) :
    HO P n ops Q (⟨some d, op, ty, pos, af, some (j, wt)⟩ :: rest) ρ L := ho_splitb t ht h1 h0
end rules

/-! ### the operations that read -/
section q
variable {P : Program} {ρ : Env} {L : Heap} {d : Option Tmp} {ty : TypeId} {pos : String} {af : Array Edge} {g : Option (Nat × Bool)}

/-- an operation that reads; how it reads is told -/
theorem q_runp {o : Oper} {v : Value} (hp : ∀ (ρe : Operand → Value), (∀ x ∈ o.op.operands, ∀ u, ev ρ x = some u → ρe x = u) → ∀ N, Plo P (InB L) (InW L) N (execOp ρe o))
    (h : ∀ (ρe : Operand → Value), (∀ x ∈ o.op.operands, ∀ u, ev ρ x = some u → ρe x = u) → ∀ k w, Sat k w L → (execOp ρe o).run P w = .ok (.value v) w) : QOp P o ρ L v := fun e he =>
  .plain fun k w hs => ⟨_, v, w, L, h e he k w hs, .inl rfl, tr_pl hs (hp e he _) (fun w2 hs2 => ⟨_, w2, h e he k w2 hs2⟩) (h e he k w hs) (.refl _ _), hs, rfl, rfl⟩
theorem q_run {o : Oper} {v : Value} (h : ∀ (ρe : Operand → Value), (∀ x ∈ o.op.operands, ∀ u, ev ρ x = some u → ρe x = u) → ∀ k w, Sat k w L → (execOp ρe o).run P w = .ok (.value v) w) (hp : ploB o.op = true := by rfl) : QOp P o ρ L v :=
  q_runp (fun e _ N => pl_op e o hp) h
theorem q_move {x : Operand} {v : Value} (hx : ev ρ x = some v) : QOp P ⟨d, .move x, ty, pos, af, g⟩ ρ L v :=
  q_run fun ρe he k w hs => by simp [execOp, he x (by simp [Op.operands]) v hx]
theorem q_assign {x : Operand} {v : Value} (hx : ev ρ x = some v) : QOp P ⟨d, .assign x, ty, pos, af, g⟩ ρ L v :=
  q_run fun ρe he k w hs => by simp [execOp, he x (by simp [Op.operands]) v hx]
theorem q_pickt {c x y : Operand} {v : Value} {b : Bool} (hc : ev ρ c = some (.bool b)) (hb : b = true) (hx : ev ρ x = some v) : QOp P ⟨d, .pick c x y, ty, pos, af, g⟩ ρ L v := by
  subst hb; exact q_run fun ρe he k w hs => by simp [execOp, asBool, he c (by simp [Op.operands]) _ hc, he x (by simp [Op.operands]) v hx]
theorem q_pickf {c x y : Operand} {v : Value} {b : Bool} (hc : ev ρ c = some (.bool b)) (hb : b = false) (hy : ev ρ y = some v) : QOp P ⟨d, .pick c x y, ty, pos, af, g⟩ ρ L v := by
  subst hb; exact q_run fun ρe he k w hs => by simp [execOp, asBool, he c (by simp [Op.operands]) _ hc, he y (by simp [Op.operands]) v hy]
theorem q_extract {x : Operand} {j : Nat} {vs : List Value} {v : Value} (hx : ev ρ x = some (.tuple ⟨vs⟩)) (hv : vs[j]? = some v) : QOp P ⟨d, .extract x j, ty, pos, af, g⟩ ρ L v :=
  q_run fun ρe he k w hs => by simp [execOp, Instr.extract, he x (by simp [Op.operands]) _ hx, hv]
theorem q_nilCheck {x : Operand} {p : Addr} (hx : ev ρ x = some (.pointer (some p))) : QOp P ⟨d, .nilCheck x, ty, pos, af, g⟩ ρ L (.pointer (some p)) :=
  q_runp (fun ρe he N => by simp only [execOp, he x (by simp [Op.operands]) _ hx]; exact trivial) fun ρe he k w hs => by simp [execOp, he x (by simp [Op.operands]) _ hx]
theorem q_makeFunc {f : Nat} {cap : Array Operand} {vs : List Value} (hv : evs ρ cap.toList = some vs) : QOp P ⟨d, .makeFunc (.func f) #[] cap, ty, pos, af, g⟩ ρ L (.func (.func f) #[] ⟨vs⟩) := by
  refine q_run fun ρe he k w hs => ?_
  have hm : cap.map ρe = ⟨vs⟩ := by
    have key : ∀ (l : List Operand) (us : List Value), (∀ x ∈ l, ∀ u, ev ρ x = some u → ρe x = u) → evs ρ l = some us → l.map ρe = us := by
      intro l
      induction l with
      | nil => intro us _ h; simp [evs] at h; simp [← h]
      | cons x r ih =>
        intro us hl h
        simp only [evs] at h
        cases hx : ev ρ x with
        | none => simp [hx] at h
        | some u =>
          cases hr : evs ρ r with
          | none => simp [hx, hr] at h
          | some us' =>
            simp [hx, hr] at h
            rw [List.map_cons, hl x (by simp) u hx, ih us' (fun y hy => hl y (by simp [hy])) hr]
            exact h
    have := key cap.toList vs (fun x hx => he x (by simp [Op.operands]; exact Array.mem_toList_iff.1 hx)) hv
    apply Array.toList_inj.1
    simpa using this
  simp [execOp, Instr.makeFunc, hm]
end q
end Go.HL
end

/-! QSeatT -/
section
namespace Go.HL
open Go Go.Proofs
set_option maxRecDepth 100000
def tyL : List (Nat × TyI) := [(1, ⟨10, 0, 0, 1, 8⟩),
  (2, ⟨2, 3, 0, 1, 8⟩),
  (3, ⟨2, 3, 0, 1, 8⟩),
  (4, ⟨1, 0, 0, 1, 1⟩),
  (5, ⟨2, 4, 0, 1, 1⟩),
  (9, ⟨3, 0, 0, 1, 16⟩),
  (12, ⟨2, 7, 0, 1, 8⟩),
  (13, ⟨7, 2, 0, 2, 24⟩),
  (20, ⟨9, 0, 0, 1, 16⟩),
  (21, ⟨2, 2, 0, 1, 4⟩),
  (22, ⟨5, 27, 0, 1, 24⟩),
  (23, ⟨5, 34, 0, 1, 24⟩),
  (25, ⟨5, 28, 0, 1, 24⟩),
  (26, ⟨7, 3, 0, 3, 24⟩),
  (27, ⟨7, 3, 0, 3, 24⟩),
  (28, ⟨7, 3, 0, 3, 24⟩),
  (29, ⟨7, 2, 0, 2, 16⟩),
  (30, ⟨7, 2, 0, 2, 16⟩),
  (33, ⟨7, 3, 0, 3, 24⟩),
  (34, ⟨7, 3, 0, 3, 24⟩),
  (36, ⟨9, 1, 0, 1, 16⟩),
  (37, ⟨9, 1, 0, 1, 16⟩),
  (44, ⟨7, 7, 0, 9, 72⟩),
  (45, ⟨7, 7, 0, 9, 72⟩),
  (60, ⟨2, 6, 0, 1, 4⟩),
  (61, ⟨5, 5, 0, 1, 24⟩),
  (62, ⟨2, 7, 0, 1, 8⟩),
  (64, ⟨5, 3, 0, 1, 24⟩),
  (79, ⟨5, 87, 0, 1, 24⟩),
  (80, ⟨4, 155, 0, 1, 8⟩),
  (82, ⟨10, 1, 2, 1, 8⟩),
  (83, ⟨4, 160, 0, 1, 8⟩),
  (86, ⟨7, 4, 0, 6, 48⟩),
  (87, ⟨7, 4, 0, 6, 48⟩),
  (91, ⟨10, 1, 2, 1, 8⟩),
  (94, ⟨4, 96, 0, 1, 8⟩),
  (95, ⟨7, 4, 0, 4, 40⟩),
  (96, ⟨7, 4, 0, 4, 40⟩),
  (99, ⟨4, 135, 0, 1, 8⟩),
  (104, ⟨5, 45, 0, 1, 24⟩),
  (105, ⟨4, 172, 0, 1, 8⟩),
  (110, ⟨4, 116, 0, 1, 8⟩),
  (115, ⟨7, 9, 0, 9, 112⟩),
  (116, ⟨7, 9, 0, 9, 112⟩),
  (119, ⟨5, 126, 0, 1, 24⟩),
  (120, ⟨4, 183, 0, 1, 8⟩),
  (123, ⟨4, 129, 0, 1, 8⟩),
  (125, ⟨7, 4, 0, 12, 104⟩),
  (126, ⟨7, 4, 0, 12, 104⟩),
  (127, ⟨5, 4, 0, 1, 24⟩),
  (128, ⟨7, 3, 0, 3, 40⟩),
  (129, ⟨7, 3, 0, 3, 40⟩),
  (134, ⟨7, 4, 0, 4, 64⟩),
  (135, ⟨7, 4, 0, 4, 64⟩),
  (137, ⟨5, 9, 0, 1, 24⟩),
  (144, ⟨4, 146, 0, 1, 8⟩),
  (145, ⟨7, 2, 0, 2, 24⟩),
  (146, ⟨7, 2, 0, 2, 24⟩),
  (149, ⟨6, 3, 3, 3, 24⟩),
  (150, ⟨5, 149, 0, 1, 24⟩),
  (154, ⟨7, 3, 0, 3, 40⟩),
  (155, ⟨7, 3, 0, 3, 40⟩),
  (156, ⟨7, 2, 0, 4, 32⟩),
  (157, ⟨7, 2, 0, 4, 32⟩),
  (158, ⟨6, 6, 157, 24, 192⟩),
  (159, ⟨7, 3, 0, 26, 208⟩),
  (160, ⟨7, 3, 0, 26, 208⟩),
  (170, ⟨6, 7, 34, 21, 168⟩),
  (171, ⟨7, 10, 0, 30, 264⟩),
  (172, ⟨7, 10, 0, 30, 264⟩),
  (180, ⟨10, 1, 2, 1, 8⟩),
  (181, ⟨8, 3, 4, 1, 8⟩),
  (182, ⟨7, 3, 0, 3, 24⟩),
  (183, ⟨7, 3, 0, 3, 24⟩),
  (187, ⟨5, 37, 0, 1, 24⟩),
  (190, ⟨10, 1, 2, 1, 8⟩),
  (192, ⟨4, 144, 0, 1, 8⟩),
  (196, ⟨2, 7, 0, 1, 8⟩),
  (203, ⟨0, 0, 0, 1, 8⟩),
  (204, ⟨0, 0, 0, 1, 8⟩),
  (205, ⟨7, 0, 0, 0, 0⟩),
  (206, ⟨7, 0, 0, 0, 0⟩),
  (207, ⟨7, 0, 0, 0, 0⟩),
  (208, ⟨7, 0, 0, 0, 0⟩),
  (209, ⟨7, 3, 0, 1, 8⟩),
  (210, ⟨7, 3, 0, 1, 8⟩),
  (211, ⟨7, 3, 0, 2, 16⟩),
  (212, ⟨7, 3, 0, 2, 16⟩),
  (214, ⟨7, 3, 0, 11, 96⟩),
  (215, ⟨7, 3, 0, 11, 96⟩),
  (219, ⟨7, 3, 0, 3, 24⟩),
  (222, ⟨9, 11, 0, 1, 16⟩),
  (224, ⟨2, 4, 0, 1, 1⟩),
  (231, ⟨4, 212, 0, 1, 8⟩),
  (238, ⟨4, 60, 0, 1, 8⟩),
  (245, ⟨9, 1, 0, 1, 16⟩),
  (248, ⟨9, 1, 0, 1, 16⟩),
  (250, ⟨9, 1, 0, 1, 16⟩),
  (252, ⟨9, 1, 0, 1, 16⟩),
  (255, ⟨2, 3, 0, 1, 8⟩),
  (261, ⟨4, 210, 0, 1, 8⟩),
  (263, ⟨4, 196, 0, 1, 8⟩),
  (267, ⟨4, 286, 0, 1, 8⟩),
  (276, ⟨4, 5, 0, 1, 8⟩),
  (285, ⟨7, 1, 0, 1, 16⟩),
  (286, ⟨7, 1, 0, 1, 16⟩),
  (289, ⟨2, 5, 0, 1, 2⟩),
  (297, ⟨4, 37, 0, 1, 8⟩)]
def flL : List (Nat × Nat × Nat) := [(832, 0, 9), (833, 1, 12), (1664, 0, 3), (1665, 1, 3), (1666, 2, 3), (1728, 0, 3), (1729, 1, 3), (1730, 2, 3), (1792, 0, 3), (1793, 1, 3), (1794, 2, 3), (1856, 0, 3), (1857, 1, 3), (1920, 0, 3), (1921, 1, 3), (2112, 0, 3), (2113, 1, 3), (2114, 2, 3), (2176, 0, 3), (2177, 1, 3), (2178, 2, 3), (2816, 0, 3), (2817, 1, 3), (2818, 2, 3), (2819, 3, 3), (2820, 4, 3), (2821, 5, 4), (2822, 6, 34), (2880, 0, 3), (2881, 1, 3), (2882, 2, 3), (2883, 3, 3), (2884, 4, 3), (2885, 5, 4), (2886, 6, 34), (5504, 0, 3), (5505, 1, 34), (5506, 4, 3), (5507, 5, 4), (5568, 0, 3), (5569, 1, 34), (5570, 4, 3), (5571, 5, 4), (6080, 0, 9), (6081, 1, 4), (6082, 2, 3), (6083, 3, 4), (6144, 0, 9), (6145, 1, 4), (6146, 2, 3), (6147, 3, 4), (7360, 0, 3), (7361, 1, 3), (7362, 2, 3), (7363, 3, 64), (7364, 4, 9), (7365, 5, 3), (7366, 6, 104), (7367, 7, 3), (7368, 8, 3), (7424, 0, 3), (7425, 1, 3), (7426, 2, 3), (7427, 3, 64), (7428, 4, 9), (7429, 5, 3), (7430, 6, 104), (7431, 7, 3), (7432, 8, 3), (8000, 0, 9), (8001, 1, 45), (8002, 10, 3), (8003, 11, 3), (8064, 0, 9), (8065, 1, 45), (8066, 10, 3), (8067, 11, 3), (8192, 0, 3), (8193, 1, 99), (8194, 2, 127), (8256, 0, 3), (8257, 1, 99), (8258, 2, 127), (8576, 0, 94), (8577, 1, 64), (8578, 2, 23), (8579, 3, 4), (8640, 0, 94), (8641, 1, 64), (8642, 2, 23), (8643, 3, 4), (9280, 0, 3), (9281, 1, 37), (9344, 0, 3), (9345, 1, 37), (9856, 0, 61), (9857, 1, 4), (9858, 2, 3), (9920, 0, 61), (9921, 1, 4), (9922, 2, 3), (9984, 0, 3), (9985, 1, 34), (10048, 0, 3), (10049, 1, 34), (10176, 0, 80), (10177, 1, 158), (10178, 25, 4), (10240, 0, 80), (10241, 1, 158), (10242, 25, 4), (10944, 0, 3), (10945, 1, 3), (10946, 2, 3), (10947, 3, 64), (10948, 4, 9), (10949, 5, 3), (10950, 6, 3), (10951, 7, 170), (10952, 28, 3), (10953, 29, 3), (11008, 0, 3), (11009, 1, 3), (11010, 2, 3), (11011, 3, 64), (11012, 4, 9), (11013, 5, 3), (11014, 6, 3), (11015, 7, 170), (11016, 28, 3), (11017, 29, 3), (11648, 0, 83), (11649, 1, 3), (11650, 2, 181), (11712, 0, 83), (11713, 1, 3), (11714, 2, 181), (13378, 0, 196), (13442, 0, 196), (13505, 0, 210), (13506, 1, 60), (13569, 0, 210), (13570, 1, 60), (13696, 0, 3), (13697, 1, 45), (13698, 10, 37), (13760, 0, 3), (13761, 1, 45), (13762, 10, 37), (14016, 0, 17), (14017, 1, 216), (14018, 2, 217), (18240, 0, 9), (18304, 0, 9)]
def zrL : List (Nat × Value) := [(1, .nilFunc),
  (2, .int .i64 0),
  (3, .int .i64 0),
  (4, .bool false),
  (5, .int .u8 0),
  (9, .string ⟨⟨[]⟩⟩),
  (12, .int .u64 0),
  (13, .agg ⟨[.string ⟨⟨[]⟩⟩, .int .u64 0]⟩),
  (20, .nilIface),
  (21, .int .i32 0),
  (22, .slice none 0 0),
  (23, .slice none 0 0),
  (25, .slice none 0 0),
  (26, .agg ⟨[.int .i64 0, .int .i64 0, .int .i64 0]⟩),
  (27, .agg ⟨[.int .i64 0, .int .i64 0, .int .i64 0]⟩),
  (28, .agg ⟨[.int .i64 0, .int .i64 0, .int .i64 0]⟩),
  (29, .agg ⟨[.int .i64 0, .int .i64 0]⟩),
  (30, .agg ⟨[.int .i64 0, .int .i64 0]⟩),
  (33, .agg ⟨[.int .i64 0, .int .i64 0, .int .i64 0]⟩),
  (34, .agg ⟨[.int .i64 0, .int .i64 0, .int .i64 0]⟩),
  (36, .nilIface),
  (37, .nilIface),
  (44, .agg ⟨[.int .i64 0, .int .i64 0, .int .i64 0, .int .i64 0, .int .i64 0, .bool false, .int .i64 0, .int .i64 0, .int .i64 0]⟩),
  (45, .agg ⟨[.int .i64 0, .int .i64 0, .int .i64 0, .int .i64 0, .int .i64 0, .bool false, .int .i64 0, .int .i64 0, .int .i64 0]⟩),
  (60, .int .u32 0),
  (61, .slice none 0 0),
  (62, .int .u64 0),
  (64, .slice none 0 0),
  (79, .slice none 0 0),
  (80, .pointer none),
  (82, .nilFunc),
  (83, .pointer none),
  (86, .agg ⟨[.int .i64 0, .int .i64 0, .int .i64 0, .int .i64 0, .int .i64 0, .bool false]⟩),
  (87, .agg ⟨[.int .i64 0, .int .i64 0, .int .i64 0, .int .i64 0, .int .i64 0, .bool false]⟩),
  (91, .nilFunc),
  (94, .pointer none),
  (95, .agg ⟨[.string ⟨⟨[]⟩⟩, .bool false, .int .i64 0, .bool false]⟩),
  (96, .agg ⟨[.string ⟨⟨[]⟩⟩, .bool false, .int .i64 0, .bool false]⟩),
  (99, .pointer none),
  (104, .slice none 0 0),
  (105, .pointer none),
  (110, .pointer none),
  (115, .agg ⟨[.int .i64 0, .int .i64 0, .int .i64 0, .slice none 0 0, .string ⟨⟨[]⟩⟩, .int .i64 0, .slice none 0 0, .int .i64 0, .int .i64 0]⟩),
  (116, .agg ⟨[.int .i64 0, .int .i64 0, .int .i64 0, .slice none 0 0, .string ⟨⟨[]⟩⟩, .int .i64 0, .slice none 0 0, .int .i64 0, .int .i64 0]⟩),
  (119, .slice none 0 0),
  (120, .pointer none),
  (123, .pointer none),
  (125, .agg ⟨[.string ⟨⟨[]⟩⟩, .int .i64 0, .int .i64 0, .int .i64 0, .int .i64 0, .int .i64 0, .bool false, .int .i64 0, .int .i64 0, .int .i64 0, .int .i64 0, .int .i64 0]⟩),
  (126, .agg ⟨[.string ⟨⟨[]⟩⟩, .int .i64 0, .int .i64 0, .int .i64 0, .int .i64 0, .int .i64 0, .bool false, .int .i64 0, .int .i64 0, .int .i64 0, .int .i64 0, .int .i64 0]⟩),
  (127, .slice none 0 0),
  (128, .agg ⟨[.int .i64 0, .pointer none, .slice none 0 0]⟩),
  (129, .agg ⟨[.int .i64 0, .pointer none, .slice none 0 0]⟩),
  (134, .agg ⟨[.pointer none, .slice none 0 0, .slice none 0 0, .bool false]⟩),
  (135, .agg ⟨[.pointer none, .slice none 0 0, .slice none 0 0, .bool false]⟩),
  (137, .slice none 0 0),
  (144, .pointer none),
  (145, .agg ⟨[.int .i64 0, .nilIface]⟩),
  (146, .agg ⟨[.int .i64 0, .nilIface]⟩),
  (149, .agg ⟨[.int .i64 0, .int .i64 0, .int .i64 0]⟩),
  (150, .slice none 0 0),
  (154, .agg ⟨[.slice none 0 0, .bool false, .int .i64 0]⟩),
  (155, .agg ⟨[.slice none 0 0, .bool false, .int .i64 0]⟩),
  (156, .agg ⟨[.int .i64 0, .int .i64 0, .int .i64 0, .int .i64 0]⟩),
  (157, .agg ⟨[.int .i64 0, .int .i64 0, .int .i64 0, .int .i64 0]⟩),
  (158, .agg ⟨[.int .i64 0, .int .i64 0, .int .i64 0, .int .i64 0, .int .i64 0, .int .i64 0, .int .i64 0, .int .i64 0, .int .i64 0, .int .i64 0, .int .i64 0, .int .i64 0, .int .i64 0, .int .i64 0, .int .i64 0, .int .i64 0, .int .i64 0, .int .i64 0, .int .i64 0, .int .i64 0, .int .i64 0, .int .i64 0, .int .i64 0, .int .i64 0]⟩),
  (159, .agg ⟨[.pointer none, .int .i64 0, .int .i64 0, .int .i64 0, .int .i64 0, .int .i64 0, .int .i64 0, .int .i64 0, .int .i64 0, .int .i64 0, .int .i64 0, .int .i64 0, .int .i64 0, .int .i64 0, .int .i64 0, .int .i64 0, .int .i64 0, .int .i64 0, .int .i64 0, .int .i64 0, .int .i64 0, .int .i64 0, .int .i64 0, .int .i64 0, .int .i64 0, .bool false]⟩),
  (160, .agg ⟨[.pointer none, .int .i64 0, .int .i64 0, .int .i64 0, .int .i64 0, .int .i64 0, .int .i64 0, .int .i64 0, .int .i64 0, .int .i64 0, .int .i64 0, .int .i64 0, .int .i64 0, .int .i64 0, .int .i64 0, .int .i64 0, .int .i64 0, .int .i64 0, .int .i64 0, .int .i64 0, .int .i64 0, .int .i64 0, .int .i64 0, .int .i64 0, .int .i64 0, .bool false]⟩),
  (170, .agg ⟨[.int .i64 0, .int .i64 0, .int .i64 0, .int .i64 0, .int .i64 0, .int .i64 0, .int .i64 0, .int .i64 0, .int .i64 0, .int .i64 0, .int .i64 0, .int .i64 0, .int .i64 0, .int .i64 0, .int .i64 0, .int .i64 0, .int .i64 0, .int .i64 0, .int .i64 0, .int .i64 0, .int .i64 0]⟩),
  (171, .agg ⟨[.int .i64 0, .int .i64 0, .int .i64 0, .slice none 0 0, .string ⟨⟨[]⟩⟩, .int .i64 0, .int .i64 0, .int .i64 0, .int .i64 0, .int .i64 0, .int .i64 0, .int .i64 0, .int .i64 0, .int .i64 0, .int .i64 0, .int .i64 0, .int .i64 0, .int .i64 0, .int .i64 0, .int .i64 0, .int .i64 0, .int .i64 0, .int .i64 0, .int .i64 0, .int .i64 0, .int .i64 0, .int .i64 0, .int .i64 0, .int .i64 0, .int .i64 0]⟩),
  (172, .agg ⟨[.int .i64 0, .int .i64 0, .int .i64 0, .slice none 0 0, .string ⟨⟨[]⟩⟩, .int .i64 0, .int .i64 0, .int .i64 0, .int .i64 0, .int .i64 0, .int .i64 0, .int .i64 0, .int .i64 0, .int .i64 0, .int .i64 0, .int .i64 0, .int .i64 0, .int .i64 0, .int .i64 0, .int .i64 0, .int .i64 0, .int .i64 0, .int .i64 0, .int .i64 0, .int .i64 0, .int .i64 0, .int .i64 0, .int .i64 0, .int .i64 0, .int .i64 0]⟩),
  (180, .nilFunc),
  (181, .map none),
  (182, .agg ⟨[.pointer none, .int .i64 0, .map none]⟩),
  (183, .agg ⟨[.pointer none, .int .i64 0, .map none]⟩),
  (187, .slice none 0 0),
  (190, .nilFunc),
  (192, .pointer none),
  (196, .int .u64 0),
  (203, .chan none),
  (204, .chan none),
  (205, .agg ⟨[]⟩),
  (206, .agg ⟨[]⟩),
  (207, .agg ⟨[]⟩),
  (208, .agg ⟨[]⟩),
  (209, .agg ⟨[.int .u64 0]⟩),
  (210, .agg ⟨[.int .u64 0]⟩),
  (211, .agg ⟨[.int .u64 0, .int .u32 0]⟩),
  (212, .agg ⟨[.int .u64 0, .int .u32 0]⟩),
  (214, .agg ⟨[.int .i64 0, .int .i64 0, .int .i64 0, .int .i64 0, .int .i64 0, .int .i64 0, .bool false, .int .i64 0, .int .i64 0, .int .i64 0, .nilIface]⟩),
  (215, .agg ⟨[.int .i64 0, .int .i64 0, .int .i64 0, .int .i64 0, .int .i64 0, .int .i64 0, .bool false, .int .i64 0, .int .i64 0, .int .i64 0, .nilIface]⟩),
  (219, .agg ⟨[.pointer none, .pointer none, .int .u64 0]⟩),
  (222, .nilIface),
  (224, .int .u8 0),
  (231, .pointer none),
  (238, .pointer none),
  (245, .nilIface),
  (248, .nilIface),
  (250, .nilIface),
  (252, .nilIface),
  (255, .int .i64 0),
  (261, .pointer none),
  (263, .pointer none),
  (267, .pointer none),
  (276, .pointer none),
  (285, .agg ⟨[.string ⟨⟨[]⟩⟩]⟩),
  (286, .agg ⟨[.string ⟨⟨[]⟩⟩]⟩),
  (289, .int .u16 0),
  (297, .pointer none)]
def stL : List (Nat × List (Nat × Nat × Nat)) := [(13, [(0, 1, 9), (1, 1, 12)]), (26, [(0, 1, 3), (1, 1, 3), (2, 1, 3)]), (27, [(0, 1, 3), (1, 1, 3), (2, 1, 3)]), (28, [(0, 1, 3), (1, 1, 3), (2, 1, 3)]), (29, [(0, 1, 3), (1, 1, 3)]), (30, [(0, 1, 3), (1, 1, 3)]), (33, [(0, 1, 3), (1, 1, 3), (2, 1, 3)]), (34, [(0, 1, 3), (1, 1, 3), (2, 1, 3)]), (44, [(0, 1, 3), (1, 1, 3), (2, 1, 3), (3, 1, 3), (4, 1, 3), (5, 1, 4), (6, 3, 34)]), (45, [(0, 1, 3), (1, 1, 3), (2, 1, 3), (3, 1, 3), (4, 1, 3), (5, 1, 4), (6, 3, 34)]), (86, [(0, 1, 3), (1, 3, 34), (4, 1, 3), (5, 1, 4)]), (87, [(0, 1, 3), (1, 3, 34), (4, 1, 3), (5, 1, 4)]), (95, [(0, 1, 9), (1, 1, 4), (2, 1, 3), (3, 1, 4)]), (96, [(0, 1, 9), (1, 1, 4), (2, 1, 3), (3, 1, 4)]), (115, [(0, 1, 3), (1, 1, 3), (2, 1, 3), (3, 1, 64), (4, 1, 9), (5, 1, 3), (6, 1, 104), (7, 1, 3), (8, 1, 3)]), (116, [(0, 1, 3), (1, 1, 3), (2, 1, 3), (3, 1, 64), (4, 1, 9), (5, 1, 3), (6, 1, 104), (7, 1, 3), (8, 1, 3)]), (125, [(0, 1, 9), (1, 9, 45), (10, 1, 3), (11, 1, 3)]), (126, [(0, 1, 9), (1, 9, 45), (10, 1, 3), (11, 1, 3)]), (128, [(0, 1, 3), (1, 1, 99), (2, 1, 127)]), (129, [(0, 1, 3), (1, 1, 99), (2, 1, 127)]), (134, [(0, 1, 94), (1, 1, 64), (2, 1, 23), (3, 1, 4)]), (135, [(0, 1, 94), (1, 1, 64), (2, 1, 23), (3, 1, 4)]), (145, [(0, 1, 3), (1, 1, 37)]), (146, [(0, 1, 3), (1, 1, 37)]), (154, [(0, 1, 61), (1, 1, 4), (2, 1, 3)]), (155, [(0, 1, 61), (1, 1, 4), (2, 1, 3)]), (156, [(0, 1, 3), (1, 3, 34)]), (157, [(0, 1, 3), (1, 3, 34)]), (159, [(0, 1, 80), (1, 24, 158), (25, 1, 4)]), (160, [(0, 1, 80), (1, 24, 158), (25, 1, 4)]), (171, [(0, 1, 3), (1, 1, 3), (2, 1, 3), (3, 1, 64), (4, 1, 9), (5, 1, 3), (6, 1, 3), (7, 21, 170), (28, 1, 3), (29, 1, 3)]), (172, [(0, 1, 3), (1, 1, 3), (2, 1, 3), (3, 1, 64), (4, 1, 9), (5, 1, 3), (6, 1, 3), (7, 21, 170), (28, 1, 3), (29, 1, 3)]), (182, [(0, 1, 83), (1, 1, 3), (2, 1, 181)]), (183, [(0, 1, 83), (1, 1, 3), (2, 1, 181)]), (205, []), (206, []), (207, []), (208, []), (209, [(0, 0, 207), (0, 0, 208), (0, 1, 196)]), (210, [(0, 0, 207), (0, 0, 208), (0, 1, 196)]), (211, [(0, 0, 206), (0, 1, 210), (1, 1, 60)]), (212, [(0, 0, 206), (0, 1, 210), (1, 1, 60)]), (214, [(0, 1, 3), (1, 9, 45), (10, 1, 37)]), (215, [(0, 1, 3), (1, 9, 45), (10, 1, 37)]), (219, [(0, 1, 17), (1, 1, 216), (2, 1, 217)]), (285, [(0, 1, 9)]), (286, [(0, 1, 9)])]
def eqL : List (Nat × List Nat) := [(27, [2, 2, 2]), (28, [2, 2, 2]), (30, [2, 2]), (34, [2, 2, 2]), (45, [2, 2, 2, 2, 2, 1, 2, 2, 2]), (149, [2, 2, 2]), (157, [2, 2, 2, 2])]
theorem stL_ok : (stL.all fun p => decide (stI Tryd.prog p.1 = some p.2)) = true := by kernel_rfl
theorem tyL_ok : (tyL.all fun p => decide (tyI Tryd.prog p.1 = some p.2)) = true := by kernel_rfl
theorem flL_ok : (flL.all fun p => decide (fldI Tryd.prog (p.1 / 64) (p.1 % 64) = some p.2.1) && decide (fldT Tryd.prog (p.1 / 64) (p.1 % 64) = some p.2)) = true := by kernel_rfl
theorem zr1 : zeroI Tryd.prog 1 = some (.nilFunc) := by kernel_rfl
theorem zr2 : zeroI Tryd.prog 2 = some (.int .i64 0) := by kernel_rfl
theorem zr3 : zeroI Tryd.prog 3 = some (.int .i64 0) := by kernel_rfl
theorem zr4 : zeroI Tryd.prog 4 = some (.bool false) := by kernel_rfl
theorem zr5 : zeroI Tryd.prog 5 = some (.int .u8 0) := by kernel_rfl
theorem zr9 : zeroI Tryd.prog 9 = some (.string ⟨⟨[]⟩⟩) := by kernel_rfl
theorem zr12 : zeroI Tryd.prog 12 = some (.int .u64 0) := by kernel_rfl
theorem zr13 : zeroI Tryd.prog 13 = some (.agg ⟨[.string ⟨⟨[]⟩⟩, .int .u64 0]⟩) := by kernel_rfl
theorem zr20 : zeroI Tryd.prog 20 = some (.nilIface) := by kernel_rfl
theorem zr21 : zeroI Tryd.prog 21 = some (.int .i32 0) := by kernel_rfl
theorem zr22 : zeroI Tryd.prog 22 = some (.slice none 0 0) := by kernel_rfl
theorem zr23 : zeroI Tryd.prog 23 = some (.slice none 0 0) := by kernel_rfl
theorem zr25 : zeroI Tryd.prog 25 = some (.slice none 0 0) := by kernel_rfl
theorem zr26 : zeroI Tryd.prog 26 = some (.agg ⟨[.int .i64 0, .int .i64 0, .int .i64 0]⟩) := by kernel_rfl
theorem zr27 : zeroI Tryd.prog 27 = some (.agg ⟨[.int .i64 0, .int .i64 0, .int .i64 0]⟩) := by kernel_rfl
theorem zr28 : zeroI Tryd.prog 28 = some (.agg ⟨[.int .i64 0, .int .i64 0, .int .i64 0]⟩) := by kernel_rfl
theorem zr29 : zeroI Tryd.prog 29 = some (.agg ⟨[.int .i64 0, .int .i64 0]⟩) := by kernel_rfl
theorem zr30 : zeroI Tryd.prog 30 = some (.agg ⟨[.int .i64 0, .int .i64 0]⟩) := by kernel_rfl
theorem zr33 : zeroI Tryd.prog 33 = some (.agg ⟨[.int .i64 0, .int .i64 0, .int .i64 0]⟩) := by kernel_rfl
theorem zr34 : zeroI Tryd.prog 34 = some (.agg ⟨[.int .i64 0, .int .i64 0, .int .i64 0]⟩) := by kernel_rfl
theorem zr36 : zeroI Tryd.prog 36 = some (.nilIface) := by kernel_rfl
theorem zr37 : zeroI Tryd.prog 37 = some (.nilIface) := by kernel_rfl
theorem zr44 : zeroI Tryd.prog 44 = some (.agg ⟨[.int .i64 0, .int .i64 0, .int .i64 0, .int .i64 0, .int .i64 0, .bool false, .int .i64 0, .int .i64 0, .int .i64 0]⟩) := by kernel_rfl
theorem zr45 : zeroI Tryd.prog 45 = some (.agg ⟨[.int .i64 0, .int .i64 0, .int .i64 0, .int .i64 0, .int .i64 0, .bool false, .int .i64 0, .int .i64 0, .int .i64 0]⟩) := by kernel_rfl
theorem zr60 : zeroI Tryd.prog 60 = some (.int .u32 0) := by kernel_rfl
theorem zr61 : zeroI Tryd.prog 61 = some (.slice none 0 0) := by kernel_rfl
theorem zr62 : zeroI Tryd.prog 62 = some (.int .u64 0) := by kernel_rfl
theorem zr64 : zeroI Tryd.prog 64 = some (.slice none 0 0) := by kernel_rfl
theorem zr79 : zeroI Tryd.prog 79 = some (.slice none 0 0) := by kernel_rfl
theorem zr80 : zeroI Tryd.prog 80 = some (.pointer none) := by kernel_rfl
theorem zr82 : zeroI Tryd.prog 82 = some (.nilFunc) := by kernel_rfl
theorem zr83 : zeroI Tryd.prog 83 = some (.pointer none) := by kernel_rfl
theorem zr86 : zeroI Tryd.prog 86 = some (.agg ⟨[.int .i64 0, .int .i64 0, .int .i64 0, .int .i64 0, .int .i64 0, .bool false]⟩) := by kernel_rfl
theorem zr87 : zeroI Tryd.prog 87 = some (.agg ⟨[.int .i64 0, .int .i64 0, .int .i64 0, .int .i64 0, .int .i64 0, .bool false]⟩) := by kernel_rfl
theorem zr91 : zeroI Tryd.prog 91 = some (.nilFunc) := by kernel_rfl
theorem zr94 : zeroI Tryd.prog 94 = some (.pointer none) := by kernel_rfl
theorem zr95 : zeroI Tryd.prog 95 = some (.agg ⟨[.string ⟨⟨[]⟩⟩, .bool false, .int .i64 0, .bool false]⟩) := by kernel_rfl
theorem zr96 : zeroI Tryd.prog 96 = some (.agg ⟨[.string ⟨⟨[]⟩⟩, .bool false, .int .i64 0, .bool false]⟩) := by kernel_rfl
theorem zr99 : zeroI Tryd.prog 99 = some (.pointer none) := by kernel_rfl
theorem zr104 : zeroI Tryd.prog 104 = some (.slice none 0 0) := by kernel_rfl
theorem zr105 : zeroI Tryd.prog 105 = some (.pointer none) := by kernel_rfl
theorem zr110 : zeroI Tryd.prog 110 = some (.pointer none) := by kernel_rfl
theorem zr115 : zeroI Tryd.prog 115 = some (.agg ⟨[.int .i64 0, .int .i64 0, .int .i64 0, .slice none 0 0, .string ⟨⟨[]⟩⟩, .int .i64 0, .slice none 0 0, .int .i64 0, .int .i64 0]⟩) := by kernel_rfl
theorem zr116 : zeroI Tryd.prog 116 = some (.agg ⟨[.int .i64 0, .int .i64 0, .int .i64 0, .slice none 0 0, .string ⟨⟨[]⟩⟩, .int .i64 0, .slice none 0 0, .int .i64 0, .int .i64 0]⟩) := by kernel_rfl
theorem zr119 : zeroI Tryd.prog 119 = some (.slice none 0 0) := by kernel_rfl
theorem zr120 : zeroI Tryd.prog 120 = some (.pointer none) := by kernel_rfl
theorem zr123 : zeroI Tryd.prog 123 = some (.pointer none) := by kernel_rfl
theorem zr125 : zeroI Tryd.prog 125 = some (.agg ⟨[.string ⟨⟨[]⟩⟩, .int .i64 0, .int .i64 0, .int .i64 0, .int .i64 0, .int .i64 0, .bool false, .int .i64 0, .int .i64 0, .int .i64 0, .int .i64 0, .int .i64 0]⟩) := by kernel_rfl
theorem zr126 : zeroI Tryd.prog 126 = some (.agg ⟨[.string ⟨⟨[]⟩⟩, .int .i64 0, .int .i64 0, .int .i64 0, .int .i64 0, .int .i64 0, .bool false, .int .i64 0, .int .i64 0, .int .i64 0, .int .i64 0, .int .i64 0]⟩) := by kernel_rfl
theorem zr127 : zeroI Tryd.prog 127 = some (.slice none 0 0) := by kernel_rfl
theorem zr128 : zeroI Tryd.prog 128 = some (.agg ⟨[.int .i64 0, .pointer none, .slice none 0 0]⟩) := by kernel_rfl
theorem zr129 : zeroI Tryd.prog 129 = some (.agg ⟨[.int .i64 0, .pointer none, .slice none 0 0]⟩) := by kernel_rfl
theorem zr134 : zeroI Tryd.prog 134 = some (.agg ⟨[.pointer none, .slice none 0 0, .slice none 0 0, .bool false]⟩) := by kernel_rfl
theorem zr135 : zeroI Tryd.prog 135 = some (.agg ⟨[.pointer none, .slice none 0 0, .slice none 0 0, .bool false]⟩) := by kernel_rfl
theorem zr137 : zeroI Tryd.prog 137 = some (.slice none 0 0) := by kernel_rfl
theorem zr144 : zeroI Tryd.prog 144 = some (.pointer none) := by kernel_rfl
theorem zr145 : zeroI Tryd.prog 145 = some (.agg ⟨[.int .i64 0, .nilIface]⟩) := by kernel_rfl
theorem zr146 : zeroI Tryd.prog 146 = some (.agg ⟨[.int .i64 0, .nilIface]⟩) := by kernel_rfl
theorem zr149 : zeroI Tryd.prog 149 = some (.agg ⟨[.int .i64 0, .int .i64 0, .int .i64 0]⟩) := by kernel_rfl
theorem zr150 : zeroI Tryd.prog 150 = some (.slice none 0 0) := by kernel_rfl
theorem zr154 : zeroI Tryd.prog 154 = some (.agg ⟨[.slice none 0 0, .bool false, .int .i64 0]⟩) := by kernel_rfl
theorem zr155 : zeroI Tryd.prog 155 = some (.agg ⟨[.slice none 0 0, .bool false, .int .i64 0]⟩) := by kernel_rfl
theorem zr156 : zeroI Tryd.prog 156 = some (.agg ⟨[.int .i64 0, .int .i64 0, .int .i64 0, .int .i64 0]⟩) := by kernel_rfl
theorem zr157 : zeroI Tryd.prog 157 = some (.agg ⟨[.int .i64 0, .int .i64 0, .int .i64 0, .int .i64 0]⟩) := by kernel_rfl
theorem zr158 : zeroI Tryd.prog 158 = some (.agg ⟨[.int .i64 0, .int .i64 0, .int .i64 0, .int .i64 0, .int .i64 0, .int .i64 0, .int .i64 0, .int .i64 0, .int .i64 0, .int .i64 0, .int .i64 0, .int .i64 0, .int .i64 0, .int .i64 0, .int .i64 0, .int .i64 0, .int .i64 0, .int .i64 0, .int .i64 0, .int .i64 0, .int .i64 0, .int .i64 0, .int .i64 0, .int .i64 0]⟩) := by kernel_rfl
theorem zr159 : zeroI Tryd.prog 159 = some (.agg ⟨[.pointer none, .int .i64 0, .int .i64 0, .int .i64 0, .int .i64 0, .int .i64 0, .int .i64 0, .int .i64 0, .int .i64 0, .int .i64 0, .int .i64 0, .int .i64 0, .int .i64 0, .int .i64 0, .int .i64 0, .int .i64 0, .int .i64 0, .int .i64 0, .int .i64 0, .int .i64 0, .int .i64 0, .int .i64 0, .int .i64 0, .int .i64 0, .int .i64 0, .bool false]⟩) := by kernel_rfl
theorem zr160 : zeroI Tryd.prog 160 = some (.agg ⟨[.pointer none, .int .i64 0, .int .i64 0, .int .i64 0, .int .i64 0, .int .i64 0, .int .i64 0, .int .i64 0, .int .i64 0, .int .i64 0, .int .i64 0, .int .i64 0, .int .i64 0, .int .i64 0, .int .i64 0, .int .i64 0, .int .i64 0, .int .i64 0, .int .i64 0, .int .i64 0, .int .i64 0, .int .i64 0, .int .i64 0, .int .i64 0, .int .i64 0, .bool false]⟩) := by kernel_rfl
theorem zr170 : zeroI Tryd.prog 170 = some (.agg ⟨[.int .i64 0, .int .i64 0, .int .i64 0, .int .i64 0, .int .i64 0, .int .i64 0, .int .i64 0, .int .i64 0, .int .i64 0, .int .i64 0, .int .i64 0, .int .i64 0, .int .i64 0, .int .i64 0, .int .i64 0, .int .i64 0, .int .i64 0, .int .i64 0, .int .i64 0, .int .i64 0, .int .i64 0]⟩) := by kernel_rfl
theorem zr171 : zeroI Tryd.prog 171 = some (.agg ⟨[.int .i64 0, .int .i64 0, .int .i64 0, .slice none 0 0, .string ⟨⟨[]⟩⟩, .int .i64 0, .int .i64 0, .int .i64 0, .int .i64 0, .int .i64 0, .int .i64 0, .int .i64 0, .int .i64 0, .int .i64 0, .int .i64 0, .int .i64 0, .int .i64 0, .int .i64 0, .int .i64 0, .int .i64 0, .int .i64 0, .int .i64 0, .int .i64 0, .int .i64 0, .int .i64 0, .int .i64 0, .int .i64 0, .int .i64 0, .int .i64 0, .int .i64 0]⟩) := by kernel_rfl
theorem zr172 : zeroI Tryd.prog 172 = some (.agg ⟨[.int .i64 0, .int .i64 0, .int .i64 0, .slice none 0 0, .string ⟨⟨[]⟩⟩, .int .i64 0, .int .i64 0, .int .i64 0, .int .i64 0, .int .i64 0, .int .i64 0, .int .i64 0, .int .i64 0, .int .i64 0, .int .i64 0, .int .i64 0, .int .i64 0, .int .i64 0, .int .i64 0, .int .i64 0, .int .i64 0, .int .i64 0, .int .i64 0, .int .i64 0, .int .i64 0, .int .i64 0, .int .i64 0, .int .i64 0, .int .i64 0, .int .i64 0]⟩) := by kernel_rfl
theorem zr180 : zeroI Tryd.prog 180 = some (.nilFunc) := by kernel_rfl
theorem zr181 : zeroI Tryd.prog 181 = some (.map none) := by kernel_rfl
theorem zr182 : zeroI Tryd.prog 182 = some (.agg ⟨[.pointer none, .int .i64 0, .map none]⟩) := by kernel_rfl
theorem zr183 : zeroI Tryd.prog 183 = some (.agg ⟨[.pointer none, .int .i64 0, .map none]⟩) := by kernel_rfl
theorem zr187 : zeroI Tryd.prog 187 = some (.slice none 0 0) := by kernel_rfl
theorem zr190 : zeroI Tryd.prog 190 = some (.nilFunc) := by kernel_rfl
theorem zr192 : zeroI Tryd.prog 192 = some (.pointer none) := by kernel_rfl
theorem zr196 : zeroI Tryd.prog 196 = some (.int .u64 0) := by kernel_rfl
theorem zr203 : zeroI Tryd.prog 203 = some (.chan none) := by kernel_rfl
theorem zr204 : zeroI Tryd.prog 204 = some (.chan none) := by kernel_rfl
theorem zr205 : zeroI Tryd.prog 205 = some (.agg ⟨[]⟩) := by kernel_rfl
theorem zr206 : zeroI Tryd.prog 206 = some (.agg ⟨[]⟩) := by kernel_rfl
theorem zr207 : zeroI Tryd.prog 207 = some (.agg ⟨[]⟩) := by kernel_rfl
theorem zr208 : zeroI Tryd.prog 208 = some (.agg ⟨[]⟩) := by kernel_rfl
theorem zr209 : zeroI Tryd.prog 209 = some (.agg ⟨[.int .u64 0]⟩) := by kernel_rfl
theorem zr210 : zeroI Tryd.prog 210 = some (.agg ⟨[.int .u64 0]⟩) := by kernel_rfl
theorem zr211 : zeroI Tryd.prog 211 = some (.agg ⟨[.int .u64 0, .int .u32 0]⟩) := by kernel_rfl
theorem zr212 : zeroI Tryd.prog 212 = some (.agg ⟨[.int .u64 0, .int .u32 0]⟩) := by kernel_rfl
theorem zr214 : zeroI Tryd.prog 214 = some (.agg ⟨[.int .i64 0, .int .i64 0, .int .i64 0, .int .i64 0, .int .i64 0, .int .i64 0, .bool false, .int .i64 0, .int .i64 0, .int .i64 0, .nilIface]⟩) := by kernel_rfl
theorem zr215 : zeroI Tryd.prog 215 = some (.agg ⟨[.int .i64 0, .int .i64 0, .int .i64 0, .int .i64 0, .int .i64 0, .int .i64 0, .bool false, .int .i64 0, .int .i64 0, .int .i64 0, .nilIface]⟩) := by kernel_rfl
theorem zr219 : zeroI Tryd.prog 219 = some (.agg ⟨[.pointer none, .pointer none, .int .u64 0]⟩) := by kernel_rfl
theorem zr222 : zeroI Tryd.prog 222 = some (.nilIface) := by kernel_rfl
theorem zr224 : zeroI Tryd.prog 224 = some (.int .u8 0) := by kernel_rfl
theorem zr231 : zeroI Tryd.prog 231 = some (.pointer none) := by kernel_rfl
theorem zr238 : zeroI Tryd.prog 238 = some (.pointer none) := by kernel_rfl
theorem zr245 : zeroI Tryd.prog 245 = some (.nilIface) := by kernel_rfl
theorem zr248 : zeroI Tryd.prog 248 = some (.nilIface) := by kernel_rfl
theorem zr250 : zeroI Tryd.prog 250 = some (.nilIface) := by kernel_rfl
theorem zr252 : zeroI Tryd.prog 252 = some (.nilIface) := by kernel_rfl
theorem zr255 : zeroI Tryd.prog 255 = some (.int .i64 0) := by kernel_rfl
theorem zr261 : zeroI Tryd.prog 261 = some (.pointer none) := by kernel_rfl
theorem zr263 : zeroI Tryd.prog 263 = some (.pointer none) := by kernel_rfl
theorem zr267 : zeroI Tryd.prog 267 = some (.pointer none) := by kernel_rfl
theorem zr276 : zeroI Tryd.prog 276 = some (.pointer none) := by kernel_rfl
theorem zr285 : zeroI Tryd.prog 285 = some (.agg ⟨[.string ⟨⟨[]⟩⟩]⟩) := by kernel_rfl
theorem zr286 : zeroI Tryd.prog 286 = some (.agg ⟨[.string ⟨⟨[]⟩⟩]⟩) := by kernel_rfl
theorem zr289 : zeroI Tryd.prog 289 = some (.int .u16 0) := by kernel_rfl
theorem zr297 : zeroI Tryd.prog 297 = some (.pointer none) := by kernel_rfl
theorem zrL_ok : ∀ p ∈ zrL, zeroI Tryd.prog p.1 = some p.2 := by
  intro p hp
  simp only [zrL, List.mem_cons, List.not_mem_nil, or_false] at hp
  rcases hp with rfl | rfl | rfl | rfl | rfl | rfl | rfl | rfl | rfl | rfl | rfl | rfl | rfl | rfl | rfl | rfl | rfl | rfl | rfl | rfl | rfl | rfl | rfl | rfl | rfl | rfl | rfl | rfl | rfl | rfl | rfl | rfl | rfl | rfl | rfl | rfl | rfl | rfl | rfl | rfl | rfl | rfl | rfl | rfl | rfl | rfl | rfl | rfl | rfl | rfl | rfl | rfl | rfl | rfl | rfl | rfl | rfl | rfl | rfl | rfl | rfl | rfl | rfl | rfl | rfl | rfl | rfl | rfl | rfl | rfl | rfl | rfl | rfl | rfl | rfl | rfl | rfl | rfl | rfl | rfl | rfl | rfl | rfl | rfl | rfl | rfl | rfl | rfl | rfl | rfl | rfl | rfl | rfl | rfl | rfl | rfl | rfl | rfl | rfl | rfl | rfl | rfl | rfl | rfl | rfl | rfl | rfl | rfl
  · exact zr1
  · exact zr2
  · exact zr3
  · exact zr4
  · exact zr5
  · exact zr9
  · exact zr12
  · exact zr13
  · exact zr20
  · exact zr21
  · exact zr22
  · exact zr23
  · exact zr25
  · exact zr26
  · exact zr27
  · exact zr28
  · exact zr29
  · exact zr30
  · exact zr33
  · exact zr34
  · exact zr36
  · exact zr37
  · exact zr44
  · exact zr45
  · exact zr60
  · exact zr61
  · exact zr62
  · exact zr64
  · exact zr79
  · exact zr80
  · exact zr82
  · exact zr83
  · exact zr86
  · exact zr87
  · exact zr91
  · exact zr94
  · exact zr95
  · exact zr96
  · exact zr99
  · exact zr104
  · exact zr105
  · exact zr110
  · exact zr115
  · exact zr116
  · exact zr119
  · exact zr120
  · exact zr123
  · exact zr125
  · exact zr126
  · exact zr127
  · exact zr128
  · exact zr129
  · exact zr134
  · exact zr135
  · exact zr137
  · exact zr144
  · exact zr145
  · exact zr146
  · exact zr149
  · exact zr150
  · exact zr154
  · exact zr155
  · exact zr156
  · exact zr157
  · exact zr158
  · exact zr159
  · exact zr160
  · exact zr170
  · exact zr171
  · exact zr172
  · exact zr180
  · exact zr181
  · exact zr182
  · exact zr183
  · exact zr187
  · exact zr190
  · exact zr192
  · exact zr196
  · exact zr203
  · exact zr204
  · exact zr205
  · exact zr206
  · exact zr207
  · exact zr208
  · exact zr209
  · exact zr210
  · exact zr211
  · exact zr212
  · exact zr214
  · exact zr215
  · exact zr219
  · exact zr222
  · exact zr224
  · exact zr231
  · exact zr238
  · exact zr245
  · exact zr248
  · exact zr250
  · exact zr252
  · exact zr255
  · exact zr261
  · exact zr263
  · exact zr267
  · exact zr276
  · exact zr285
  · exact zr286
  · exact zr289
  · exact zr297
theorem eqL_ok : (eqL.all fun p => decide (flatT Tryd.prog 8 p.1 = some p.2) && isA Tryd.prog p.1 && !(Tryd.prog.eqGuardType Tryd.prog.depth p.1)) = true := by kernel_rfl
def errTab : List (Nat × Nat) := [(2, 1), (0, 2), (4, 3), (5, 4), (7, 5), (6, 6), (3, 7), (8, 8), (1, 9)]
def S : Tab Tryd.prog := ⟨tyL, flL, zrL, stL, eqL, tyL_ok, flL_ok, zrL_ok, stL_ok, eqL_ok, by kernel_rfl⟩
end Go.HL
end

/-! QHLRead -/
section
namespace Go.HL
set_option linter.unusedSectionVars false
variable [Tasks]
open Go
set_option linter.unusedVariables false
set_option linter.unusedSimpArgs false

abbrev iv (n : Int) : Value := .int .i64 n
abbrev bs (l : List UInt8) : Value := .string ⟨⟨l⟩⟩
abbrev pt (b i : Nat) : Value := .pointer (some ⟨b, i, none⟩)
abbrev sl (b i len cap : Nat) : Value := .slice (some ⟨b, i, none⟩) len cap
abbrev nilS : Value := .slice none 0 0

theorem Gets.at0 {l vs : List Value} {i : Nat} {v : Value} (h : Gets l i vs) (hv : vs[0]? = some v) : l[i]? = some v := h 0 v hv
theorem Gets.at {l vs : List Value} {i j : Nat} {v : Value} (h : Gets l i vs) (hv : vs[j]? = some v) : l[i + j]? = some v := h j v hv
/-- a slice that reads as9 a list: of each element the cells -/
def Rd {α : Type} (enc : α → List Value) (sz : Nat) (L : Heap) (a : Option Addr) (xs : List α) : Prop :=
  xs = [] ∨ ∃ b i l E fr, a = some ⟨b, i, none⟩ ∧ Has L b (.cells ⟨l⟩ E fr) ∧ ∀ (k : Nat) (x : α), xs[k]? = some x → Gets l (i + k * sz) (enc x)
theorem Rd.cons {α : Type} {enc : α → List Value} {sz : Nat} {L : Heap} {a : Option Addr} {xs : List α} (h : Rd enc sz L a xs) (c : List Blk) : Rd enc sz (c :: L) a xs := by
  rcases h with h | ⟨b, i, l, E, fr, h1, h2, h3⟩
  · exact .inl h
  · exact .inr ⟨b, i, l, E, fr, h1, has_next h2, h3⟩
theorem Rd.at {α : Type} {enc : α → List Value} {sz : Nat} {L : Heap} {a : Option Addr} {xs : List α} (h : Rd enc sz L a xs) {j : Int} (h0 : 0 ≤ j) (h1 : j < xs.length) :
    ∃ b i l E fr, a = some ⟨b, i, none⟩ ∧ Has L b (.cells ⟨l⟩ E fr) ∧ Gets l (i + j.toNat * sz) (enc (xs[j.toNat]'(by omega))) := by
  rcases h with h | ⟨b, i, l, E, fr, h2, h3, h4⟩
  · subst h; simp at h1; omega
  · exact ⟨b, i, l, E, fr, h2, h3, h4 j.toNat _ (List.getElem?_eq_getElem (by omega))⟩
theorem Rd.at1 {α : Type} {enc : α → List Value} {L : Heap} {a : Option Addr} {xs : List α} (h : Rd enc 1 L a xs) {j : Int} (h0 : 0 ≤ j) (h1 : j < xs.length) :
    ∃ b i l E fr, a = some ⟨b, i, none⟩ ∧ Has L b (.cells ⟨l⟩ E fr) ∧ Gets l (i + j.toNat) (enc (xs[j.toNat]'(by omega))) := by
  obtain ⟨b, i, l, E, fr, h2, h3, h4⟩ := h.at h0 h1
  rw [Nat.mul_one] at h4
  exact ⟨b, i, l, E, fr, h2, h3, h4⟩
theorem gets_append {l : List Value} {i : Nat} {vs us : List Value} (h : Gets l i vs) (h2 : Gets l (i + vs.length) us) : Gets l i (vs ++ us) := by
  intro j v hj
  by_cases hlt : j < vs.length
  · rw [List.getElem?_append_left hlt] at hj
    exact h j v hj
  · rw [List.getElem?_append_right (by omega)] at hj
    have := h2 _ v hj
    rw [show i + j = i + vs.length + (j - vs.length) by omega]
    exact this
theorem gets_flat {α : Type} {enc : α → List Value} {sz : Nat} {l : List Value} (hsz : ∀ x, (enc x).length = sz) : ∀ (xs : List α) (i : Nat), (∀ (k : Nat) (x : α), xs[k]? = some x → Gets l (i + k * sz) (enc x)) → Gets l i (xs.map enc).flatten
  | [], i, _ => by simpa using gets_nil
  | x :: r, i, h => by
    simp only [List.map_cons, List.flatten_cons]
    refine gets_append (by simpa using h 0 x rfl) ?_
    rw [hsz]
    refine gets_flat hsz r (i + sz) fun k y hy => ?_
    have := h (k + 1) y (by simpa using hy)
    rw [Nat.add_mul, Nat.one_mul] at this
    rw [show i + sz + k * sz = i + (k * sz + sz) by omega]
    exact this
theorem Rd.nil {α : Type} {enc : α → List Value} {sz : Nat} {L : Heap} {a : Option Addr} : Rd enc sz L a [] := .inl rfl

section q
variable {P : Program} (S : Tab P) {ρ : Env} {L : Heap} {d : Option Tmp} {ty : TypeId} {pos : String} {af : Array Edge} {g : Option (Nat × Bool)}

theorem q_load {t b i E : Nat} {ti : TyI} {x : Operand} {l : List Value} {fr : Nat × Nat} {v : Value} (hx : ev ρ x = some (pt b i)) (ht : lkN S.ty t = some ti)
    (h6 : Nat.beq ti.kind 6 = false) (h7 : Nat.beq ti.kind 7 = false) (hb : Has L b (.cells ⟨l⟩ E fr)) (hv : l[i]? = some v) : QOp P ⟨d, .load t x, ty, pos, af, g⟩ ρ L v :=
  q_run fun ρe he k w hs => by
    have h1 := ty_agg_no (S.tyI ht) h6 h7 w
    have h2 : w.cell? ⟨b, i, none⟩ = some v := by rw [hs.cell hb, hv]
    simp [execOp, he x (by simp [Op.operands]) _ hx, Instr.loadAt, Instr.sureAddr, loadVar, h1, h2]
theorem q_loads {t b i E : Nat} {ti : TyI} {x : Operand} {l vs : List Value} {fr : Nat × Nat} (hx : ev ρ x = some (pt b i)) (ht : lkN S.ty t = some ti)
    (h7 : (Nat.beq ti.kind 6 || Nat.beq ti.kind 7) = true) (hb : Has L b (.cells ⟨l⟩ E fr)) (hv : Gets l i vs ∧ ti.size = vs.length) : QOp P ⟨d, .load t x, ty, pos, af, g⟩ ρ L (.agg ⟨vs⟩) :=
  q_run fun ρe he k w hs => by
    obtain ⟨hv, hn⟩ := hv
    have h1 := ty_agg (S.tyI ht) h7 w
    have h2 := load_cells (P := P) hs hb hv
    have h3 := ty_size (S.tyI ht) w
    simp [execOp, he x (by simp [Op.operands]) _ hx, Instr.loadAt, Instr.sureAddr, loadVar, h1, h2, h3, hn]
theorem q_fieldAddr {s f b i o ft : Nat} {x : Operand} (hx : ev ρ x = some (pt b i)) (hf : lkN S.fl (s * 64 + f) = some (o, ft)) (hlt : Nat.blt f 64 = true) : QOp P ⟨d, .fieldAddr s x f, ty, pos, af, g⟩ ρ L (pt b (i + o)) :=
  q_runp (fun ρe he N => by
    obtain ⟨h, -⟩ := S.fldI hf hlt
    unfold fldI at h
    split at h
    · rename_i fs hfs
      split at h
      · rename_i fd hfd
        split at h
        · rename_i inf hinf
          split at h
          · cases h
          · rename_i hsz
            simp only [execOp]
            exact Plo.bind (pl_fieldAt hfs hfd hinf hsz) fun _ => trivial
        · cases h
      · cases h
    · cases h) fun ρe he k w hs => by
    obtain ⟨h, -⟩ := S.fldI hf hlt
    unfold fldI at h
    split at h
    · rename_i fs hfs
      split at h
      · rename_i fd hfd
        split at h
        · rename_i inf hinf
          split at h
          · cases h
          · rename_i hsz
            cases h
            simp [execOp, he x (by simp [Op.operands]) _ hx, Instr.fieldAt, run_underlying hfs, hfd, Instr.sureAddr, fieldPlace, sizeOf, typeInfo, hinf, hsz, addr_add]
        · cases h
      · cases h
    · cases h
theorem q_indexAddr {t b i len cap e y0 s0 b0 k1 x1 y1 sz b1 : Nat} {x y : Operand} {k : IntKind} {j : Int} (hx : ev ρ x = some (sl b i len cap)) (hy : ev ρ y = some (.int k j)) (ht : lkN S.ty t = some ⟨5, e, y0, s0, b0⟩)
    (he' : lkN S.ty e = some ⟨k1, x1, y1, sz, b1⟩) (hj : 0 ≤ j ∧ j < len) : QOp P ⟨d, .indexAddr t x y, ty, pos, af, g⟩ ρ L (pt b (i + j.toNat * sz)) :=
  q_run fun ρe he k w hs => by
    have h1 := ty_slice (S.tyI ht) rfl
    have h2 := ty_size (S.tyI he') w
    simp [execOp, he x (by simp [Op.operands]) _ hx, he y (by simp [Op.operands]) _ hy, Instr.indexAt, asIntOf, run_underlying h1, hj, h2, addr_add]
theorem q_indexAddr1 {t b i len cap e y0 s0 b0 k1 x1 y1 b1 : Nat} {x y : Operand} {k : IntKind} {j : Int} (hx : ev ρ x = some (sl b i len cap)) (hy : ev ρ y = some (.int k j)) (ht : lkN S.ty t = some ⟨5, e, y0, s0, b0⟩)
    (he' : lkN S.ty e = some ⟨k1, x1, y1, 1, b1⟩) (hj : 0 ≤ j ∧ j < len) : QOp P ⟨d, .indexAddr t x y, ty, pos, af, g⟩ ρ L (pt b (i + j.toNat)) := by
  have := q_indexAddr (d := d) (ty := ty) (pos := pos) (af := af) (g := g) (L := L) S hx hy ht he' hj
  rw [Nat.mul_one] at this
  exact this
theorem q_indexAddrA {t b i len e s0 b0 k1 x1 y1 sz b1 : Nat} {x y : Operand} {k : IntKind} {j : Int} (hx : ev ρ x = some (pt b i)) (hy : ev ρ y = some (.int k j)) (ht : lkN S.ty t = some ⟨6, len, e, s0, b0⟩)
    (he' : lkN S.ty e = some ⟨k1, x1, y1, sz, b1⟩) (hj : 0 ≤ j ∧ j < len) : QOp P ⟨d, .indexAddr t x y, ty, pos, af, g⟩ ρ L (pt b (i + j.toNat * sz)) :=
  q_run fun ρe he k w hs => by
    have h1 := ty_array (S.tyI ht) rfl
    have h2 := ty_size (S.tyI he') w
    simp [execOp, he x (by simp [Op.operands]) _ hx, he y (by simp [Op.operands]) _ hy, Instr.indexAt, asIntOf, Instr.sureAddr, run_underlying h1, hj, h2, addr_add]

/-! arithmetic -/
theorem wrap64_id {a : Int} (h : -9223372036854775808 ≤ a ∧ a ≤ 9223372036854775807) : IntKind.i64.wrap a = a := IntWalk.i64_in a h
theorem eqGuard_int {op : BinOp} {t : Nat} {x y : Operand} {k k' : IntKind} {a b : Int} (w : World) : (eqGuard op t x y (.int k a) (.int k' b)).run P w = .ok () w := by
  cases op <;> simp [eqGuard]
theorem pl_bin {op : BinOp} {t t' : Nat} {x y : Operand} {ρe : Operand → Value} {B W : Nat → Prop} {N : Nat} (hg : Plo P B W N (eqGuard op t x y (ρe x) (ρe y))) (hb : Plo P B W N (binOp op t (ρe x) (ρe y))) : Plo P B W N (execOp ρe ⟨d, .binOp op t x y t', ty, pos, af, g⟩) := by
  simp only [execOp]
  exact Plo.bind (Plo.bind hg fun _ => hb) fun _ => trivial
theorem pl_guardInt {op : BinOp} {t : Nat} {x y : Operand} {k k' : IntKind} {a b : Int} {B W : Nat → Prop} {N : Nat} : Plo P B W N (eqGuard op t x y (.int k a) (.int k' b)) := by cases op <;> exact trivial
theorem pl_binInt {op : BinOp} {t : Nat} {k k' : IntKind} {a b : Int} {B W : Nat → Prop} {N : Nat} : Plo P B W N (binOp op t (.int k a) (.int k' b)) := by
  cases op <;> simp only [binOp] <;> first | exact pl_shift _ _ _ _ _ | (split; exact trivial; first | exact pl_intArith _ _ _ _ | exact pl_intDiv _ _ _ _ | exact pl_intBits _ _ _ _ | exact pl_intCmp _ _ _)
theorem q_arith {op : BinOp} {t t' : Nat} {x y : Operand} {k : IntKind} {a b : Int} {v : Value} (hx : ev ρ x = some (.int k a)) (hy : ev ρ y = some (.int k b)) (hv : ∀ w, (binOp op t (.int k a) (.int k b)).run P w = .ok v w) :
    QOp P ⟨d, .binOp op t x y t', ty, pos, af, g⟩ ρ L v :=
  q_runp (fun ρe he N => by
    refine pl_bin ?_ ?_
    · rw [he x (by simp [Op.operands]) _ hx, he y (by simp [Op.operands]) _ hy]; exact pl_guardInt
    · rw [he x (by simp [Op.operands]) _ hx, he y (by simp [Op.operands]) _ hy]; exact pl_binInt) fun ρe he k w hs => by simp [execOp, he x (by simp [Op.operands]) _ hx, he y (by simp [Op.operands]) _ hy, eqGuard_int, hv w]
theorem q_add {t t' : Nat} {x y : Operand} {a b : Int} (hx : ev ρ x = some (iv a)) (hy : ev ρ y = some (iv b)) (h : -9223372036854775808 ≤ a + b ∧ a + b ≤ 9223372036854775807) : QOp P ⟨d, .binOp .add t x y t', ty, pos, af, g⟩ ρ L (iv (a + b)) :=
  q_arith hx hy fun w => by simp [binOp, Op.intArith, wrap64_id h]
theorem q_sub {t t' : Nat} {x y : Operand} {a b : Int} (hx : ev ρ x = some (iv a)) (hy : ev ρ y = some (iv b)) (h : -9223372036854775808 ≤ a - b ∧ a - b ≤ 9223372036854775807) : QOp P ⟨d, .binOp .sub t x y t', ty, pos, af, g⟩ ρ L (iv (a - b)) :=
  q_arith hx hy fun w => by simp [binOp, Op.intArith, wrap64_id h]
theorem q_mul {t t' : Nat} {x y : Operand} {a b : Int} (hx : ev ρ x = some (iv a)) (hy : ev ρ y = some (iv b)) (h : -9223372036854775808 ≤ a * b ∧ a * b ≤ 9223372036854775807) : QOp P ⟨d, .binOp .mul t x y t', ty, pos, af, g⟩ ρ L (iv (a * b)) :=
  q_arith hx hy fun w => by simp [binOp, Op.intArith, wrap64_id h]
theorem q_quo {t t' : Nat} {x y : Operand} {a b : Int} (hx : ev ρ x = some (iv a)) (hy : ev ρ y = some (iv b)) (h : 0 ≤ a ∧ a ≤ 9223372036854775807 ∧ 1 ≤ b) : QOp P ⟨d, .binOp .quo t x y t', ty, pos, af, g⟩ ρ L (iv (a / b)) :=
  q_arith hx hy fun w => by
    have h2 : b ≠ 0 := by omega
    simp [binOp, Op.intDiv, IntWalk.i64_quo a b h, h2]
theorem q_rem {t t' : Nat} {x y : Operand} {a b : Int} (hx : ev ρ x = some (iv a)) (hy : ev ρ y = some (iv b)) (h : 0 ≤ a ∧ a ≤ 9223372036854775807 ∧ 1 ≤ b) : QOp P ⟨d, .binOp .rem t x y t', ty, pos, af, g⟩ ρ L (iv (a % b)) :=
  q_arith hx hy fun w => by
    have h2 : b ≠ 0 := by omega
    simp [binOp, Op.intDiv, IntWalk.rem_in a b h.1, h2]
theorem q_lss {t t' : Nat} {x y : Operand} {k : IntKind} {a b : Int} (hx : ev ρ x = some (.int k a)) (hy : ev ρ y = some (.int k b)) : QOp P ⟨d, .binOp .lss t x y t', ty, pos, af, g⟩ ρ L (.bool (decide (a < b))) :=
  q_arith hx hy fun w => by simp [binOp, Op.intCmp]
theorem q_leq {t t' : Nat} {x y : Operand} {k : IntKind} {a b : Int} (hx : ev ρ x = some (.int k a)) (hy : ev ρ y = some (.int k b)) : QOp P ⟨d, .binOp .leq t x y t', ty, pos, af, g⟩ ρ L (.bool (decide (a ≤ b))) :=
  q_arith hx hy fun w => by simp [binOp, Op.intCmp]
theorem q_gtr {t t' : Nat} {x y : Operand} {k : IntKind} {a b : Int} (hx : ev ρ x = some (.int k a)) (hy : ev ρ y = some (.int k b)) : QOp P ⟨d, .binOp .gtr t x y t', ty, pos, af, g⟩ ρ L (.bool (decide (b < a))) :=
  q_arith hx hy fun w => by simp [binOp, Op.intCmp]
theorem q_geq {t t' : Nat} {x y : Operand} {k : IntKind} {a b : Int} (hx : ev ρ x = some (.int k a)) (hy : ev ρ y = some (.int k b)) : QOp P ⟨d, .binOp .geq t x y t', ty, pos, af, g⟩ ρ L (.bool (decide (b ≤ a))) :=
  q_arith hx hy fun w => by simp [binOp, Op.intCmp]
theorem q_eql {t t' : Nat} {x y : Operand} {k : IntKind} {a b : Int} (hx : ev ρ x = some (.int k a)) (hy : ev ρ y = some (.int k b)) : QOp P ⟨d, .binOp .eql t x y t', ty, pos, af, g⟩ ρ L (.bool (decide (a = b))) :=
  q_arith hx hy fun w => by simp [binOp, Op.intCmp]; rfl
theorem q_neq {t t' : Nat} {x y : Operand} {k : IntKind} {a b : Int} (hx : ev ρ x = some (.int k a)) (hy : ev ρ y = some (.int k b)) : QOp P ⟨d, .binOp .neq t x y t', ty, pos, af, g⟩ ρ L (.bool (decide (a ≠ b))) :=
  q_arith hx hy fun w => by
    simp only [binOp, Op.intCmp, ne_eq, not_true_eq_false, if_false]
    by_cases e : a = b
    · simp [e]
    · simp [e, bne_iff_ne.2 e]
theorem q_not {t : Nat} {x : Operand} {b : Bool} (hx : ev ρ x = some (.bool b)) : QOp P ⟨d, .unOp .not t x, ty, pos, af, g⟩ ρ L (.bool (!b)) :=
  q_run fun ρe he k w hs => by simp [execOp, he x (by simp [Op.operands]) _ hx, Op.unary]
theorem q_not_t {t : Nat} {x : Operand} {b : Bool} (hx : ev ρ x = some (.bool b)) (hb : b = true) : QOp P ⟨d, .unOp .not t x, ty, pos, af, g⟩ ρ L (.bool false) := by subst hb; exact q_not hx
theorem q_not_f {t : Nat} {x : Operand} {b : Bool} (hx : ev ρ x = some (.bool b)) (hb : b = false) : QOp P ⟨d, .unOp .not t x, ty, pos, af, g⟩ ρ L (.bool true) := by subst hb; exact q_not hx
theorem pl_equal_of {t : Nat} {x y : Value} {B W : Nat → Prop} {N : Nat} (h : ∀ dd, Plo P B W N (Op.equalIn (dd + 1) t x y)) : Plo P B W N (Op.equal t x y) := h 9999
theorem q_eqlB {t t' : Nat} {ti : TyI} {x y : Operand} {a b : Bool} (hx : ev ρ x = some (.bool a)) (hy : ev ρ y = some (.bool b)) (ht : lkN S.ty t = some ti) (h1 : ti.kind = 1) : QOp P ⟨d, .binOp .eql t x y t', ty, pos, af, g⟩ ρ L (.bool (decide (a = b))) :=
  q_runp (fun ρe he N => by
    refine pl_bin ?_ ?_
    · rw [he x (by simp [Op.operands]) _ hx, he y (by simp [Op.operands]) _ hy]; exact trivial
    · rw [he x (by simp [Op.operands]) _ hx, he y (by simp [Op.operands]) _ hy]
      refine Plo.bind (pl_equal_of fun dd => ?_) fun _ => trivial
      unfold Op.equalIn
      exact Zc (ty_bool (S.tyI ht) h1) trivial) fun ρe he k w hs => by
    have e : (a == b) = decide (a = b) := by cases a <;> cases b <;> rfl
    simp [execOp, he x (by simp [Op.operands]) _ hx, he y (by simp [Op.operands]) _ hy, eqGuard, run_eql_bool w t a b (ty_bool (S.tyI ht) h1), e]
theorem q_neqB {t t' : Nat} {ti : TyI} {x y : Operand} {a b : Bool} (hx : ev ρ x = some (.bool a)) (hy : ev ρ y = some (.bool b)) (ht : lkN S.ty t = some ti) (h1 : ti.kind = 1) : QOp P ⟨d, .binOp .neq t x y t', ty, pos, af, g⟩ ρ L (.bool (decide (a ≠ b))) :=
  q_runp (fun ρe he N => by
    refine pl_bin ?_ ?_
    · rw [he x (by simp [Op.operands]) _ hx, he y (by simp [Op.operands]) _ hy]; exact trivial
    · rw [he x (by simp [Op.operands]) _ hx, he y (by simp [Op.operands]) _ hy]
      refine Plo.bind (pl_equal_of fun dd => ?_) fun _ => trivial
      unfold Op.equalIn
      exact Zc (ty_bool (S.tyI ht) h1) trivial) fun ρe he k w hs => by
    have e : (!(a == b)) = decide (a ≠ b) := by cases a <;> cases b <;> rfl
    simp only [execOp, he x (by simp [Op.operands]) _ hx, he y (by simp [Op.operands]) _ hy]
    simp [eqGuard, run_neq_bool w t a b (ty_bool (S.tyI ht) h1)]
    cases a <;> cases b <;> rfl
theorem ba_list (a : List UInt8) : (ByteArray.mk ⟨a⟩).toList = a := by
  exact Go.ByteArray.toList_mk a
theorem ba_size (a : List UInt8) : (ByteArray.mk ⟨a⟩).size = a.length := by simp [ByteArray.size]
theorem ba_append (a b : List UInt8) : (ByteArray.mk ⟨a⟩) ++ (ByteArray.mk ⟨b⟩) = ByteArray.mk ⟨a ++ b⟩ := by
  apply ByteArray.ext
  simp [ByteArray.data_append]
theorem q_eqlS {t t' : Nat} {x y : Operand} {a b : List UInt8} (hx : ev ρ x = some (bs a)) (hy : ev ρ y = some (bs b)) : QOp P ⟨d, .binOp .eql t x y t', ty, pos, af, g⟩ ρ L (.bool (decide (a = b))) :=
  q_runp (fun ρe he N => by
    refine pl_bin ?_ ?_
    · rw [he x (by simp [Op.operands]) _ hx, he y (by simp [Op.operands]) _ hy]; exact trivial
    · rw [he x (by simp [Op.operands]) _ hx, he y (by simp [Op.operands]) _ hy]; simp only [binOp]; exact pl_stringOp _ _ _) fun ρe he k w hs => by
    simp only [execOp, he x (by simp [Op.operands]) _ hx, he y (by simp [Op.operands]) _ hy]
    simp [eqGuard, binOp, Op.stringOp, ba_list]
    by_cases e : a = b <;> simp [e]
theorem q_neqS {t t' : Nat} {x y : Operand} {a b : List UInt8} (hx : ev ρ x = some (bs a)) (hy : ev ρ y = some (bs b)) : QOp P ⟨d, .binOp .neq t x y t', ty, pos, af, g⟩ ρ L (.bool (decide (a ≠ b))) :=
  q_runp (fun ρe he N => by
    refine pl_bin ?_ ?_
    · rw [he x (by simp [Op.operands]) _ hx, he y (by simp [Op.operands]) _ hy]; exact trivial
    · rw [he x (by simp [Op.operands]) _ hx, he y (by simp [Op.operands]) _ hy]; simp only [binOp]; exact pl_stringOp _ _ _) fun ρe he k w hs => by
    simp only [execOp, he x (by simp [Op.operands]) _ hx, he y (by simp [Op.operands]) _ hy]
    simp [eqGuard, binOp, Op.stringOp, ba_list]
    by_cases e : a = b <;> simp [e]
theorem q_addS {t t' : Nat} {x y : Operand} {a b : List UInt8} (hx : ev ρ x = some (bs a)) (hy : ev ρ y = some (bs b)) (h : a.length + b.length ≤ 9223372036854775807) : QOp P ⟨d, .binOp .add t x y t', ty, pos, af, g⟩ ρ L (bs (a ++ b)) :=
  q_runp (fun ρe he N => by
    refine pl_bin ?_ ?_
    · rw [he x (by simp [Op.operands]) _ hx, he y (by simp [Op.operands]) _ hy]; exact trivial
    · rw [he x (by simp [Op.operands]) _ hx, he y (by simp [Op.operands]) _ hy]; simp only [binOp]; exact pl_stringOp _ _ _) fun ρe he k w hs => by
    simp only [execOp, he x (by simp [Op.operands]) _ hx, he y (by simp [Op.operands]) _ hy]
    have h2 := run_string_add_sum (P := P) w ⟨⟨a⟩⟩ ⟨⟨b⟩⟩ (by simp only [ba_size]; exact h)
    simp [eqGuard, binOp, h2, ba_append]
/-! nil -/
theorem equal_of {t : Nat} {x y : Value} {b : Bool} {w : World} (h : ∀ dd, (Op.equalIn (dd + 1) t x y).run P w = .ok b w) : (Op.equal t x y).run P w = .ok b w := h 9999
theorem eqIn_pn {t e : Nat} {p : Option Addr} (h : P.underlying t = some (.pointer e)) (dd : Nat) (w : World) : (Op.equalIn (dd + 1) t (.pointer p) (.pointer none)).run P w = .ok p.isNone w := by
  cases p <;> simp [Op.equalIn, run_underlying h]
theorem eqIn_in {t : Nat} {ms : Array (String × TypeId)} {u : Nat} {v : Value} (h : P.underlying t = some (.interface ms)) (dd : Nat) (w : World) : (Op.equalIn (dd + 1) t (.iface u v) .nilIface).run P w = .ok false w := by
  simp [Op.equalIn, run_underlying h]
theorem eqIn_inn {t : Nat} {ms : Array (String × TypeId)} (h : P.underlying t = some (.interface ms)) (dd : Nat) (w : World) : (Op.equalIn (dd + 1) t .nilIface .nilIface).run P w = .ok true w := by
  simp [Op.equalIn, run_underlying h]
theorem eqIn_sn {t e : Nat} {p : Option Addr} {len cap : Nat} (h : P.underlying t = some (.slice e)) (dd : Nat) (w : World) : (Op.equalIn (dd + 1) t (.slice p len cap) nilS).run P w = .ok p.isNone w := by
  cases p <;> simp [Op.equalIn, run_underlying h]
theorem plIn_pn {t e : Nat} {p : Option Addr} {B W : Nat → Prop} {N : Nat} (h : P.underlying t = some (.pointer e)) (dd : Nat) : Plo P B W N (Op.equalIn (dd + 1) t (.pointer p) (.pointer none)) := by
  unfold Op.equalIn; refine Zc h ?_; cases p <;> exact trivial
theorem plIn_in {t : Nat} {ms : Array (String × TypeId)} {u : Nat} {v : Value} {B W : Nat → Prop} {N : Nat} (h : P.underlying t = some (.interface ms)) (dd : Nat) : Plo P B W N (Op.equalIn (dd + 1) t (.iface u v) .nilIface) := by
  unfold Op.equalIn; exact Zc h trivial
theorem plIn_inn {t : Nat} {ms : Array (String × TypeId)} {B W : Nat → Prop} {N : Nat} (h : P.underlying t = some (.interface ms)) (dd : Nat) : Plo P B W N (Op.equalIn (dd + 1) t .nilIface .nilIface) := by
  unfold Op.equalIn; exact Zc h trivial
theorem plIn_sn {t e : Nat} {p : Option Addr} {len cap : Nat} {B W : Nat → Prop} {N : Nat} (h : P.underlying t = some (.slice e)) (dd : Nat) : Plo P B W N (Op.equalIn (dd + 1) t (.slice p len cap) nilS) := by
  unfold Op.equalIn; refine Zc h ?_; cases p <;> exact trivial
theorem q_equal {t t' : Nat} {x y : Operand} {u v : Value} {b : Bool} (hx : ev ρ x = some u) (hy : ev ρ y = some v) (hg : ∀ w : World, (eqGuard .eql t x y u v).run P w = .ok () w) (hb : ∀ w, (Op.equal t u v).run P w = .ok b w)
    (hgp : ∀ B W N, Plo P B W N (eqGuard .eql t x y u v)) (hp : ∀ B W N, Plo P B W N (Op.equal t u v)) (hop : binOp .eql t u v = (do pure (.bool (← Op.equal t u v)))) : QOp P ⟨d, .binOp .eql t x y t', ty, pos, af, g⟩ ρ L (.bool b) :=
  q_runp (fun ρe he N => by
    refine pl_bin ?_ ?_
    · rw [he x (by simp [Op.operands]) _ hx, he y (by simp [Op.operands]) _ hy]; exact hgp _ _ _
    · rw [he x (by simp [Op.operands]) _ hx, he y (by simp [Op.operands]) _ hy, hop]; exact Plo.bind (hp _ _ _) fun _ => trivial) fun ρe he k w hs => by
    simp only [execOp, he x (by simp [Op.operands]) _ hx, he y (by simp [Op.operands]) _ hy]
    simp [hg w, hop, hb w]
theorem q_nequal {t t' : Nat} {x y : Operand} {u v : Value} {b : Bool} (hx : ev ρ x = some u) (hy : ev ρ y = some v) (hg : ∀ w : World, (eqGuard .neq t x y u v).run P w = .ok () w) (hb : ∀ w, (Op.equal t u v).run P w = .ok b w)
    (hgp : ∀ B W N, Plo P B W N (eqGuard .neq t x y u v)) (hp : ∀ B W N, Plo P B W N (Op.equal t u v)) (hop : binOp .neq t u v = (do pure (.bool (!(← Op.equal t u v))))) : QOp P ⟨d, .binOp .neq t x y t', ty, pos, af, g⟩ ρ L (.bool (!b)) :=
  q_runp (fun ρe he N => by
    refine pl_bin ?_ ?_
    · rw [he x (by simp [Op.operands]) _ hx, he y (by simp [Op.operands]) _ hy]; exact hgp _ _ _
    · rw [he x (by simp [Op.operands]) _ hx, he y (by simp [Op.operands]) _ hy, hop]; exact Plo.bind (hp _ _ _) fun _ => trivial) fun ρe he k w hs => by
    simp only [execOp, he x (by simp [Op.operands]) _ hx, he y (by simp [Op.operands]) _ hy]
    simp [hg w, hop, hb w]
theorem q_eqlPn {t t' : Nat} {ti : TyI} {x y : Operand} {p : Addr} (hx : ev ρ x = some (.pointer (some p))) (hy : ev ρ y = some (.pointer none)) (ht : lkN S.ty t = some ti) (h4 : ti.kind = 4) : QOp P ⟨d, .binOp .eql t x y t', ty, pos, af, g⟩ ρ L (.bool false) :=
  q_equal (b := false) hx hy (fun w => by simp [eqGuard]) (fun w => equal_of fun dd => eqIn_pn (ty_pointer (S.tyI ht) h4) dd w) (fun _ _ _ => trivial) (fun _ _ _ => pl_equal_of fun dd => plIn_pn (ty_pointer (S.tyI ht) h4) dd) rfl
theorem q_eqlPnn {t t' : Nat} {ti : TyI} {x y : Operand} (hx : ev ρ x = some (.pointer none)) (hy : ev ρ y = some (.pointer none)) (ht : lkN S.ty t = some ti) (h4 : ti.kind = 4) : QOp P ⟨d, .binOp .eql t x y t', ty, pos, af, g⟩ ρ L (.bool true) :=
  q_equal (b := true) hx hy (fun w => by simp [eqGuard]) (fun w => equal_of fun dd => eqIn_pn (ty_pointer (S.tyI ht) h4) dd w) (fun _ _ _ => trivial) (fun _ _ _ => pl_equal_of fun dd => plIn_pn (ty_pointer (S.tyI ht) h4) dd) rfl
theorem q_neqPn {t t' : Nat} {ti : TyI} {x y : Operand} {p : Addr} (hx : ev ρ x = some (.pointer (some p))) (hy : ev ρ y = some (.pointer none)) (ht : lkN S.ty t = some ti) (h4 : ti.kind = 4) : QOp P ⟨d, .binOp .neq t x y t', ty, pos, af, g⟩ ρ L (.bool true) :=
  q_nequal (b := false) hx hy (fun w => by simp [eqGuard]) (fun w => equal_of fun dd => eqIn_pn (ty_pointer (S.tyI ht) h4) dd w) (fun _ _ _ => trivial) (fun _ _ _ => pl_equal_of fun dd => plIn_pn (ty_pointer (S.tyI ht) h4) dd) rfl
theorem q_neqPnn {t t' : Nat} {ti : TyI} {x y : Operand} (hx : ev ρ x = some (.pointer none)) (hy : ev ρ y = some (.pointer none)) (ht : lkN S.ty t = some ti) (h4 : ti.kind = 4) : QOp P ⟨d, .binOp .neq t x y t', ty, pos, af, g⟩ ρ L (.bool false) :=
  q_nequal (b := true) hx hy (fun w => by simp [eqGuard]) (fun w => equal_of fun dd => eqIn_pn (ty_pointer (S.tyI ht) h4) dd w) (fun _ _ _ => trivial) (fun _ _ _ => pl_equal_of fun dd => plIn_pn (ty_pointer (S.tyI ht) h4) dd) rfl
theorem ty_iface {t : Nat} {i : TyI} (h : tyI P t = some i) (hk : i.kind = 9) : ∃ ms, P.underlying t = some (.interface ms) := by
  obtain ⟨d, j, hd, hj, he, hs, _⟩ := ty_desc h
  rw [hd]
  cases d <;> simp [descI, hk] at he
  exact ⟨_, rfl⟩
theorem q_eqlIn {t t' u : Nat} {ti : TyI} {x y : Operand} {v : Value} (hx : ev ρ x = some (.iface u v)) (hy : ev ρ y = some .nilIface) (ht : lkN S.ty t = some ti) (h9 : ti.kind = 9) : QOp P ⟨d, .binOp .eql t x y t', ty, pos, af, g⟩ ρ L (.bool false) := by
  obtain ⟨ms, hms⟩ := ty_iface (S.tyI ht) h9
  exact q_equal (b := false) hx hy (fun w => by simp [eqGuard]) (fun w => equal_of fun dd => eqIn_in hms dd w) (fun _ _ _ => trivial) (fun _ _ _ => pl_equal_of fun dd => plIn_in hms dd) rfl
theorem q_neqIn {t t' u : Nat} {ti : TyI} {x y : Operand} {v : Value} (hx : ev ρ x = some (.iface u v)) (hy : ev ρ y = some .nilIface) (ht : lkN S.ty t = some ti) (h9 : ti.kind = 9) : QOp P ⟨d, .binOp .neq t x y t', ty, pos, af, g⟩ ρ L (.bool true) := by
  obtain ⟨ms, hms⟩ := ty_iface (S.tyI ht) h9
  exact q_nequal (b := false) hx hy (fun w => by simp [eqGuard]) (fun w => equal_of fun dd => eqIn_in hms dd w) (fun _ _ _ => trivial) (fun _ _ _ => pl_equal_of fun dd => plIn_in hms dd) rfl
theorem q_eqlInn {t t' : Nat} {ti : TyI} {x : Operand} (hx : ev ρ x = some .nilIface) (ht : lkN S.ty t = some ti) (h9 : ti.kind = 9) : QOp P ⟨d, .binOp .eql t x (.const .nilIface) t', ty, pos, af, g⟩ ρ L (.bool true) := by
  obtain ⟨ms, hms⟩ := ty_iface (S.tyI ht) h9
  exact q_equal (b := true) hx rfl (fun w => by cases x <;> simp [eqGuard]) (fun w => equal_of fun dd => eqIn_inn hms dd w) (fun _ _ _ => by cases x <;> exact trivial) (fun _ _ _ => pl_equal_of fun dd => plIn_inn hms dd) rfl
theorem q_neqInn {t t' : Nat} {ti : TyI} {x : Operand} (hx : ev ρ x = some .nilIface) (ht : lkN S.ty t = some ti) (h9 : ti.kind = 9) : QOp P ⟨d, .binOp .neq t x (.const .nilIface) t', ty, pos, af, g⟩ ρ L (.bool false) := by
  obtain ⟨ms, hms⟩ := ty_iface (S.tyI ht) h9
  exact q_nequal (b := true) hx rfl (fun w => by cases x <;> simp [eqGuard]) (fun w => equal_of fun dd => eqIn_inn hms dd w) (fun _ _ _ => by cases x <;> exact trivial) (fun _ _ _ => pl_equal_of fun dd => plIn_inn hms dd) rfl

/-! lengths, parts -/
theorem q_lenS {t : Nat} {ti : TyI} {x : Operand} {a : Option Addr} {len cap : Nat} (hx : ev ρ x = some (.slice a len cap)) (ht : lkN S.ty t = some ti) (h5 : ti.kind = 5) :
    QOp P ⟨d, .call { callee := .builtin .len, args := #[x], argTypes := #[t] }, ty, pos, af, g⟩ ρ L (iv len) :=
  q_run fun ρe he k w hs => by
    have h1 := ty_slice (S.tyI ht) h5
    simp [execOp, resolve, invoke, builtin, he x (by simp [Op.operands, Call.operands]) _ hx, Builtin.len_, run_underlying h1, goInt]
theorem q_lenT {t : Nat} {ti : TyI} {x : Operand} {l : List UInt8} (hx : ev ρ x = some (bs l)) (ht : lkN S.ty t = some ti) (h3 : ti.kind = 3) :
    QOp P ⟨d, .call { callee := .builtin .len, args := #[x], argTypes := #[t] }, ty, pos, af, g⟩ ρ L (iv l.length) :=
  q_run fun ρe he k w hs => by
    have h1 := ty_string (S.tyI ht) h3
    have h2 : (Builtin.len_ #[t] ty #[bs l]).run P w = .ok (iv l.length) w := by rw [run_len_string w t ty _ h1, ba_size]; rfl
    simp [execOp, resolve, invoke, builtin, he x (by simp [Op.operands, Call.operands]) _ hx, h2]
theorem q_lenA {t len e s0 b0 : Nat} {x : Operand} {v : Value} (hx : ev ρ x = some v) (ht : lkN S.ty t = some ⟨6, len, e, s0, b0⟩) :
    QOp P ⟨d, .call { callee := .builtin .len, args := #[x], argTypes := #[t] }, ty, pos, af, g⟩ ρ L (iv len) :=
  q_run fun ρe he k w hs => by
    have h1 := ty_array (S.tyI ht) rfl
    have h3 : (Builtin.len_ #[t] ty #[ρe x]).run P w = .ok (iv len) w := by
      simp [Builtin.len_, run_underlying h1, goInt]
    simp [execOp, resolve, invoke, builtin, h3]
theorem q_max {ts : Array TypeId} {x y : Operand} {k : IntKind} {a b : Int} (hx : ev ρ x = some (.int k a)) (hy : ev ρ y = some (.int k b)) :
    QOp P ⟨d, .call { callee := .builtin .max, args := #[x, y], argTypes := ts }, ty, pos, af, g⟩ ρ L (.int k (max a b)) :=
  q_run fun ρe he k w hs => by
    have e : (if a < b then b else a) = max a b := by simp only [Int.max_def]; split <;> split <;> omega
    simp [execOp, resolve, invoke, builtin, he x (by simp [Op.operands, Call.operands]) _ hx, he y (by simp [Op.operands, Call.operands]) _ hy, run_max_int2, e]
theorem q_min {ts : Array TypeId} {x y : Operand} {k : IntKind} {a b : Int} (hx : ev ρ x = some (.int k a)) (hy : ev ρ y = some (.int k b)) :
    QOp P ⟨d, .call { callee := .builtin .min, args := #[x, y], argTypes := ts }, ty, pos, af, g⟩ ρ L (.int k (min a b)) :=
  q_run fun ρe he k w hs => by
    have e : (if b < a then b else a) = min a b := by simp only [Int.min_def]; split <;> split <;> omega
    simp [execOp, resolve, invoke, builtin, he x (by simp [Op.operands, Call.operands]) _ hx, he y (by simp [Op.operands, Call.operands]) _ hy, run_min_int2, e]
end q
end Go.HL
end
