/- What the listed error variables hold when a law begins. Conditions: none. -/
import Derived.Test.YtkookaogdkdegabDoorSeat
import Derived.ProofKit
import Derived.OpenShut
import Derived.Deep.DeepHandedRow
import Derived.Stop.LaidErr
import Derived.LaidLaws
import Derived.Lay
import Derived.MakeChecks
import Derived.LaidHandle
namespace Go.HL
open Go Go.Proofs Go.ChangeShapes Go.WideShapes Go.ChangeAt Go.RowKit
set_option linter.unusedVariables false
theorem gl_of_var {P : Program} {W : World} {n : String} {g : Nat} {v : Value} (hg : P.globalNamed n = some g) (h : W.var? P n = some #[v]) : Gl [blks W] g v := by
  unfold World.var? at h
  simp only [hg, Option.bind_some] at h
  split at h
  · rename_i c E fr hh
    cases h
    exact ⟨[v], E, fr, has_blks hh, rfl⟩
  · cases h
theorem star_es : "*" ++ "errors.errorString" = "*errors.errorString" := by decide
theorem row_es (u : TypeId) (h : Tryd.prog.typeName? 3 u = some "*errors.errorString") : u = 267 :=
  typeName_ptr_named (nm := "errors.errorString") (by rw [star_es]; kernel_rfl) (by kernel_rfl) (by decide) u (by rw [star_es]; exact h)
def nameOf : Nat → String
  | 1 => "threefold/api.ErrText"
  | 2 => "threefold/api.ErrBound"
  | 3 => "threefold/api.ErrShape"
  | 4 => "threefold/api.ErrNone"
  | 5 => "threefold/api.ErrFull"
  | 6 => "threefold/api.ErrOff"
  | 7 => "threefold/api.ErrSum"
  | 8 => "threefold/api.ErrHeld"
  | _ => "threefold/api.ErrSplit"
def word3 : List UInt8 := [116, 104, 114, 101, 101, 102, 111, 108, 100, 58, 32]
def textOf : Nat → List UInt8
  | 1 => word3 ++ [116, 101, 120, 116]
  | 2 => word3 ++ [98, 111, 117, 110, 100]
  | 3 => word3 ++ [115, 104, 97, 112, 101]
  | 4 => word3 ++ [110, 111, 110, 101]
  | 5 => word3 ++ [102, 117, 108, 108]
  | 6 => word3 ++ [111, 102, 102]
  | 7 => word3 ++ [115, 117, 109]
  | 8 => word3 ++ [104, 101, 108, 100]
  | _ => word3 ++ [115, 112, 108, 105, 116]
def sentL (cs : List Nat) : List (String × DataW Unit) := cs.map fun c => (nameOf c, .iface "*errors.errorString" (.ptr (.agg [.lit (.string (textOf c))])))
theorem laid_sent0 {P : Program} {n nm : String} {text : List UInt8} {r : List (String × DataW Unit)} {W : World} {g : Nat} {ti tp te ts : TypeId} {ms : Array (String × TypeId)} {f : Field}
    (h : laidMet P ((n, .iface nm (.ptr (.agg [.lit (.string text)]))) :: r) W)
    (hg : P.globalNamed n = some g) (ht : (P.globals[g]?).map (·.type) = some ti) (hi : P.underlying ti = some (.interface ms)) (hrow : ∀ u, P.typeName? 3 u = some nm → u = tp)
    (hp : P.underlying tp = some (.pointer te)) (he : P.underlying te = some (.struct #[f])) (hft : f.type = ts) (hfo : f.offset = 0) (hs : P.underlying ts = some .string) (hc : P.cellsOf te = 1) (hcs : P.cellsOf ts = 1) :
    ∃ (a : Addr) (c : Array Value) (t : TypeId), Gl [blks W] g (.iface tp (.pointer (some a))) ∧ W.cell? a = some (bs text) ∧ Has [blks W] a.block (.cells c t (0, 0)) := by
  obtain ⟨ps, ⟨g0, t0, cs0, f0, p0, q0, hg0, ht0, hv0, hd0, _, e0⟩, _, hrows⟩ := h
  obtain rfl := Option.some.inj (hg.symm.trans hg0)
  obtain rfl := Option.some.inj (ht.symm.trans ht0)
  subst e0
  obtain ⟨l0⟩ := cs0
  have ok0 : ∀ u v, l0 = [.iface u v] → Value.okWide P W .any 0 u v := fun u v e => by
    subst e
    exact (hrows g 0 (by simp [MemPlace.row])).2 u v (by simpa using World.var?_cell hg0 hv0 0)
  obtain ⟨a0, s0, rfl, hc0, hs0, hz0, rfl⟩ := errorString_of_trod hi hrow hp he hft hfo hs hc hcs hd0 ok0
  obtain ⟨c0, t0, hb0⟩ := (hrows a0.block a0.off (by simp [MemPlace.row])).1
  refine ⟨a0, c0, t0, gl_of_var hg hv0, ?_, has_blks hb0⟩
  rw [hc0]
  obtain ⟨⟨s0⟩⟩ := s0
  simp only at hs0
  subst hs0
  rfl
theorem laid_sent1 {n : String} {text : List UInt8} {r : List (String × DataW Unit)} {W : World} {g : Nat}
    (h : laidMet Tryd.prog ((n, .iface "*errors.errorString" (.ptr (.agg [.lit (.string text)]))) :: r) W) (hg : Tryd.prog.globalNamed n = some g) (ht : (Tryd.prog.globals[g]?).map (·.type) = some 37) :
    ∃ (a : Addr) (c : Array Value) (t : TypeId), Gl [blks W] g (.iface 267 (.pointer (some a))) ∧ W.cell? a = some (bs text) ∧ Has [blks W] a.block (.cells c t (0, 0)) :=
  laid_sent0 h hg ht Tryd.underlying37 row_es Tryd.underlying267 Tryd.underlying286 rfl rfl Tryd.underlying9 (by kernel_rfl) (by kernel_rfl)
def SentAt (W : World) (c : Nat) (a : Addr) : Prop := (∀ g, Tryd.prog.globalNamed (nameOf c) = some g → Gl [blks W] g (.iface 267 (.pointer (some a)))) ∧ W.cell? a = some (bs (textOf c)) ∧ ∃ l t, Has [blks W] a.block (.cells l t (0, 0))
theorem sents {W : World} : ∀ (cs : List Nat), laidMet Tryd.prog (sentL cs) W → (∀ c ∈ cs, ∃ g, Tryd.prog.globalNamed (nameOf c) = some g ∧ (Tryd.prog.globals[g]?).map (·.type) = some 37) → ∀ c ∈ cs, ∃ a, SentAt W c a
  | [], _, _, c, hc => by cases hc
  | x :: cs, h, hn, c, hc => by
    rcases List.mem_cons.1 hc with rfl | hc
    · obtain ⟨g, hg, ht⟩ := hn c (by simp)
      obtain ⟨a, l, t, h1, h2, h3⟩ := laid_sent1 h hg ht
      refine ⟨a, fun g' hg' => ?_, h2, l, t, h3⟩
      obtain rfl := Option.some.inj (hg.symm.trans hg')
      exact h1
    · exact sents cs h.tail (fun y hy => hn y (by simp [hy])) c hc
theorem errTab_ok : (errTab.all fun p => decide (Tryd.prog.globalNamed (nameOf p.2) = some p.1) && decide ((Tryd.prog.globals[p.1]?).map (·.type) = some 37)) = true := by kernel_rfl
theorem errs_of {W : World} {cs : List Nat} (h : laidMet Tryd.prog (sentL cs) W) (hm : (cs.all fun c => errTab.any fun p => Nat.beq p.2 c) = true := by rfl) :
    ∃ E, Er 267 E cs [blks W] ∧ ∀ c ∈ cs, SentAt W c (E c) := by
  have h1 := sents cs h (fun c hc => by
    obtain ⟨p, hp, he⟩ := List.any_eq_true.1 (List.all_eq_true.1 hm c hc)
    have h2 := List.all_eq_true.1 errTab_ok p hp
    simp only [Bool.and_eq_true, decide_eq_true_eq] at h2
    rw [Nat.eq_of_beq_eq_true he] at h2
    exact ⟨p.1, h2.1, h2.2⟩)
  have h2 : ∀ c, ∃ a, c ∈ cs → SentAt W c a := fun c => by
    by_cases hc : c ∈ cs
    · obtain ⟨a, ha⟩ := h1 c hc
      exact ⟨a, fun _ => ha⟩
    · exact ⟨⟨0, 0, none⟩, fun h => absurd h hc⟩
  refine ⟨fun c => Classical.choose (h2 c), fun g c hg hc => ?_, fun c hc => Classical.choose_spec (h2 c) hc⟩
  have hcm : c ∈ cs := List.elem_iff.1 hc
  have h3 := Classical.choose_spec (h2 c) hcm
  have h4 := List.all_eq_true.1 errTab_ok (g, c) (lkN_mem hg)
  simp only [Bool.and_eq_true, decide_eq_true_eq] at h4
  exact h3.1 g h4.1
/-- the world of the witness -/
noncomputable def layW (os : Os) (l : List (String × DataW Unit)) : World := (World.holding Tryd.prog os ⟨#[], #[], []⟩).layVars Tryd.prog l
theorem layW_os (os : Os) (l : List (String × DataW Unit)) : (layW os l).os = os := World.layVars_os _ _ _
end Go.HL
