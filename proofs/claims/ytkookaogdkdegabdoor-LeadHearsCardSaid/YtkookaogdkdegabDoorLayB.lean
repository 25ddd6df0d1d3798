/- What the listed variables hold when a law begins, errors.errorType among them. Conditions: none. -/
import Derived.Test.YtkookaogdkdegabDoorLayA
import Derived.Test.YtkookaogdkdegabDoorErC
namespace Go.HL
open Go Go.Proofs Go.ChangeShapes Go.WideShapes Go.ChangeAt Go.RowKit
set_option linter.unusedVariables false
def handL : List (String × DataW Unit) := [("errors.errorType", .iface "internal/reflectlite.rtype" (.agg [.ptr (.lit (.string [101, 114, 114, 111, 114]))]))]
theorem hd_et : Tryd.prog.globalNamed "errors.errorType" = some 9 := by kernel_rfl
theorem hd_rt : (Tryd.prog.cutTypes.find? (·.1 == "internal/reflectlite.rtype")).map (·.2) = some 241 := by kernel_rfl
theorem hd_row : ((List.range 298).filter fun t => Tryd.prog.rowNamed t [101, 114, 114, 111, 114]) = [37] := by kernel_rfl
theorem hd_size : Tryd.prog.types.size = 298 := by kernel_rfl
theorem hd_handle : typeHandle Tryd.prog 37 = .pointer (some ⟨10, 37, none⟩) := by kernel_rfl
theorem handle_of {W : World} (h : handlesMet Tryd.prog handL W) : Gl [blks W] 9 (.iface 241 (.agg #[.pointer (some ⟨10, 37, none⟩)])) := by
  obtain ⟨name, u, ty, e1, e2, e3, e4, e5⟩ := h _ (List.mem_singleton.2 rfl)
  have en : name = [101, 114, 114, 111, 114] := (Option.some.inj e1).symm
  subst en
  obtain rfl := Option.some.inj (hd_rt.symm.trans e2)
  have hm : ty ∈ (List.range 298).filter fun t => Tryd.prog.rowNamed t [101, 114, 114, 111, 114] := List.mem_filter.2 ⟨List.mem_range.2 (by rw [← hd_size]; exact e3), e4⟩
  rw [hd_row] at hm
  obtain rfl := List.mem_singleton.1 hm
  rw [hd_handle] at e5
  exact gl_of_var hd_et e5
theorem text_inj {c c' : Nat} (h : List.elem c all9 = true) (h' : List.elem c' all9 = true) (e : textOf c = textOf c') : c = c' := by
  have key : (all9.all fun c => all9.all fun c' => decide (textOf c = textOf c' → c = c')) = true := by decide +kernel
  have h1 := List.all_eq_true.1 (List.all_eq_true.1 key c (List.elem_iff.1 h)) c' (List.elem_iff.1 h')
  exact of_decide_eq_true h1 e
theorem ez_of {W : World} {l : List Nat} (hs : laidMet Tryd.prog (sentL l) W) (hh : handlesMet Tryd.prog handL W) (hl : (all9.all fun c => l.elem c) = true := by rfl) (hm : (l.all fun c => errTab.any fun p => Nat.beq p.2 c) = true := by rfl) : ∃ E, Ez 267 E [blks W] := by
  obtain ⟨E, hG, hE⟩ := errs_of hs hm
  have hmem : ∀ c, List.elem c all9 = true → c ∈ l := fun c hc => List.elem_iff.1 (List.all_eq_true.1 hl c (List.elem_iff.1 hc))
  refine ⟨E, rfl, hG.sub hl, fun c hc => (hE c (hmem c hc)).2.2, fun c c' hc hc' e => ?_, handle_of hh⟩
  have h1 := (hE c (hmem c hc)).2.1
  have h2 := (hE c' (hmem c' hc')).2.1
  rw [e, h2] at h1
  have h3 : textOf c' = textOf c := by
    have := Option.some.inj h1
    simp only [Value.string.injEq, ByteArray.mk.injEq, Array.mk.injEq] at this
    exact this
  exact text_inj hc hc' h3.symm
/-- the witness's world -/
theorem laidMet_lay0 {P : Program} {w0 : World} {laid : List (String × DataW Unit)} (args : Array Value) (hf : w0.layFits P laid [] = true) (hi : w0.layIfaces P laid (w0.layVars P laid) = true) :
    laidMet P laid ((w0.layVars P laid).forCall (fun _ _ => 0) ⟨#[], args, []⟩).memory := by
  have e1 : (laid.filter fun x => (laid.map (·.1)).contains x.1) = laid := List.filter_eq_self.2 fun x hx => List.contains_iff_mem.2 (List.mem_map.2 ⟨x, hx, rfl⟩)
  have e2 : (laid.filter fun x => !(laid.map (·.1)).contains x.1) = [] := List.filter_eq_nil_iff.2 fun x hx => by rw [List.contains_iff_mem.2 (List.mem_map.2 ⟨x, hx, rfl⟩)]; simp
  have h : laidMet P laid (w0.layVars P laid) := laidMet_layVars (w0 := w0) (laid.map (·.1)) [] (by rw [e1]) (by rw [e1]; exact hf) (by rw [e1]; exact hi) (by rw [e2]; exact LaidIn.none)
  exact h.of_heap (by simp [World.memory, World.forCall, Input.heap])
noncomputable def w0H (os : Os) : World :=
  let w := World.holding Tryd.prog os ⟨#[], #[], []⟩
  { w with heap := w.heap.modify 9 fun
      | .cells _ t frozen => .cells #[.iface 241 (.agg #[.pointer (some ⟨10, 37, none⟩)])] t frozen
      | o => o }
noncomputable def layH (os : Os) (l : List Nat) : World := (w0H os).layVars Tryd.prog (sentL l)
theorem layH_os (os : Os) (l : List Nat) : (layH os l).os = os := World.layVars_os _ _ _
end Go.HL
