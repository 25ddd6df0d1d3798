/- Texts laid into one, without what the claim does not use. Conditions: none. -/
import Derived.Test.YtkookaogdkdegabDoorSDG
import Derived.Test.YtkookaogdkdegabDoorCards
import Derived.Test.YtkookaogdkdegabDoorTie
/-! QCdSD -/
section
namespace Go.Proofs.YtkookaogdkdegabDoor.sideDecodes
set_option maxRecDepth 100000
open Go.ChangeShapes Go.WideShapes Go.ChangeAt Go.RowKit Go.HL
open Go.Conc
set_option linter.unusedVariables false
theorem own : ownKnob Tryd.prog.godebug = none := by kernel_rfl
theorem started_map : ((begin Tryd.prog (fun _ _ => 0) default).world.heap[Tryd.prog.globals.size + 1]?).any (fun o => match o with | .map _ _ => true | _ => false) = true := by kernel_rfl
theorem no_cells {W : World} (hSh : W.ShapedOpen Tryd.prog) : Tryd.prog.globals.size + 1 < W.heap.size ∧ ∀ c E fr, W.heap[Tryd.prog.globals.size + 1]? ≠ some (.cells c E fr) := by
  have hm := started_map
  cases h0 : (begin Tryd.prog (fun _ _ => 0) default).world.heap[Tryd.prog.globals.size + 1]? with
  | none => rw [h0] at hm; cases hm
  | some o0 =>
    rw [h0] at hm
    have hlt := (Array.getElem?_eq_some_iff.1 h0).1
    obtain ⟨o, o1, e1, e2, e3⟩ := hSh.2 (Tryd.prog.globals.size + 1) (by omega) hlt
    obtain rfl : o0 = o1 := Option.some.inj (h0.symm.trans e2)
    refine ⟨(Array.getElem?_eq_some_iff.1 e1).1, fun c E fr e => ?_⟩
    rw [e1] at e
    cases e
    rw [if_pos (by rw [Nat.add_sub_cancel_left]; rfl)] at e3
    cases o0 with
    | map es ck => exact absurd e3 (by simp [Obj.alike])
    | _ => simp at hm
set_option maxRecDepth 100000 in
theorem contract (H : Type) (enc : TypeId × Value → H) (W : World) (base : Nat) (args : Array Value) (ds gs : List (DataW H)) (before : List MemPlace)
    (hval : ∀ (j : Nat) t v, Tryd.f13.params[j]? = some t → args[j]? = some v → Value.okWide Tryd.prog W .any base t v)
    (hW : DataW.Whole enc Tryd.prog Tryd.f13.params.toList Rows.sideDecodesSpec.vars false W args.toList ds gs before) (hL : laidMetH Tryd.prog Rows.sideDecodesRow.laid W) (hSh : W.ShapedOpen Tryd.prog) :
    ∃ M last o w' t', runNT Tryd.prog (M + 1) (solo (G (Frame.enter Tryd.prog 13 args .normal) []) W) #[] = (.ended o w', t') ∧ runN Tryd.prog M (solo (G (Frame.enter Tryd.prog 13 args .normal) []) W) = .next last ∧
      step Tryd.prog last = .ended o w' ∧ Conc.Good Tryd.prog (fun v W' => Rows.sideDecodesSpec.post enc Tryd.prog Tryd.f13 false true false false W args v W') last o w' t' := by
  have hW' := hW
  obtain ⟨p, q, hA0, hV, rfl, hfz, hnd⟩ := hW
  have hA : DataW.TrodAll enc Tryd.prog W 0 (fun _ => true) true Tryd.f13.params.toList args.toList ds p := hA0
  rw [Tryd.params13] at hA hval
  obtain ⟨v0, vs0, d0, ds0, p0, q0, hargs, rfl, rfl, h0, r0⟩ := trodAll_cons hA
  obtain ⟨v1, vs1, d1, ds1, p1, q1, rfl, rfl, rfl, h1, r1⟩ := trodAll_cons r0
  obtain ⟨rfl, rfl, rfl⟩ := trodAll_nil r1
  obtain rfl : args = #[v0, v1] := by cases args; simp_all
  obtain ⟨rfl, rfl⟩ := trodVars_none hV
  letI tasks0 : Tasks := noTasks W
  obtain ⟨a, cap, ss, rfl, hR, hx, hc⟩ := open_rd Tryd.underlying137 (sz := 1) (by kernel_rfl) (by decide) (hval 0 _ v0 rfl rfl) h0 (fun _ => True) (encV := bsc) (fun n cs x h => by
    obtain ⟨s, rfl, -, -⟩ := DataW.trod_string Tryd.underlying9 h
    obtain ⟨⟨s⟩⟩ := s
    exact ⟨s, rfl, trivial⟩)
  obtain ⟨z, rfl, rfl, rfl, w1⟩ := open_int Tryd.underlying3 (hval 1 _ v1 rfl rfl) h1
  have hL' : laidMet Tryd.prog (sentL [1, 2, 3, 4, 5, 6, 7, 8, 9]) W ∧ handlesMet Tryd.prog handL W := hL
  obtain ⟨E, hE⟩ := ez_of hL'.1 hL'.2
  obtain ⟨hb, hn⟩ := no_cells hSh
  have hE2 : letI := sideTasks W E ss; Ez 267 E [blks W] := @Ez.mk (sideTasks W E ss) _ _ _ hE.ty hE.errs hE.blk hE.one hE.et
  have hR2 : letI := sideTasks W E ss; Rd bsc 1 [blks W] a ss := hR
  obtain ⟨M, last, o, w', t', e1, e2, e3, e4⟩ := side_run (W := W) (E := E) (ss := ss) (wk := z) (a := a) (cap := cap) hb hn hE2 hR2
  refine ⟨M, last, o, w', t', e1, e2, e3, e4.mono fun v ⟨hv, hbl⟩ => ?_⟩
  subst hv
  exact post_law (by kernel_rfl) (by decide +kernel) hW' hbl rfl rfl rfl Tryd.underlying4
theorem laid_met (os : Os) : laidMetH Tryd.prog Rows.sideDecodesRow.laid ((layH os [1, 2, 3, 4, 5, 6, 7, 8, 9]).forCall (fun _ _ => 0) ⟨#[], #[.slice none 0 0, .int .i64 0], []⟩).memory := laidMetH_of_parts (laidMet_lay0 (laid := sentL [1, 2, 3, 4, 5, 6, 7, 8, 9]) _ (by kernel_rfl) (by kernel_rfl)) (by kernel_rfl)
theorem reads (os : Os) {H : Type} (enc : TypeId × Value → H) : ∃ places, DataW.whole enc Tryd.prog ((layH os [1, 2, 3, 4, 5, 6, 7, 8, 9]).forCall (fun _ _ => 0) ⟨#[], #[.slice none 0 0, .int .i64 0], []⟩).memory Tryd.f13.params.toList Rows.sideDecodesSpec.vars false (#[.slice none 0 0, .int .i64 0] : Array Value).toList 8 = some ([.nil, .lit (.int .i64 0)], [], places) :=
  ⟨[], by kernel_rfl⟩
set_option maxRecDepth 100000 in
theorem lifted (os : Os) (started : os.Started) (H : Type) (enc : TypeId × Value → H) (F : Stop.Interp) :
    ReturnsInLeavingWide {} Tryd.checked os 13 .any ((OpenSpec.ofChange Rows.sideDecodesSpec).preRow enc Tryd.prog Tryd.f13 Rows.sideDecodesRow.domain false Rows.sideDecodesRow.laid) (((OpenSpec.ofChange Rows.sideDecodesSpec).at F).post enc Tryd.prog Tryd.f13 false true false false) := by
  obtain ⟨places, hx⟩ := reads os enc
  refine leaving_of_row (C := Tryd.checked) (s := OpenSpec.ofChange Rows.sideDecodesSpec) own started Tryd.func13
    (witness_row_at (enc := enc) (C := Tryd.checked) false (layH os [1, 2, 3, 4, 5, 6, 7, 8, 9]) #[.slice none 0 0, .int .i64 0] (layH_os _ _) (by kernel_rfl) (by kernel_rfl) (by kernel_rfl)
      (OpenSpec.preRow_of_cond 8 hx (by kernel_rfl) (fun k hk => by cases hk) (by kernel_rfl) (laid_met os))) ?_
  intro W base args ds gs before hval hW hL hSh
  exact contract H enc W base args ds gs before hval hW hL hSh
theorem said : Rows.SideDecodesSaid :=
  OpenClaim.holds_of_wide_leaving 13 Tryd.f13 rfl rfl rfl rfl rfl rfl rfl ⟨rfl, rfl, rfl, rfl, rfl⟩ rfl rfl rfl rfl rfl (by kernel_rfl) Tryd.func13 (by kernel_rfl)
    (of_decide_eq_true (by kernel_rfl)) (by unfold Func.isWrapper; first | (rw [if_pos (by decide +kernel)]; kernel_rfl) | (rw [if_neg (by decide +kernel)]; exact ⟨rfl, rfl⟩))
    (fun os started H enc _ => by rw [OpenClaim.pre_eq_preRow]; exact lifted os started H enc (fun _ _ _ => 0))
theorem plain (f : FuncId) (fn : Func) (hf : Tryd.pinned.checked.prog.funcNamed "threefold/threefoldlaw3.SideDecodes" = some f) (hfn : Tryd.pinned.checked.prog.funcs[f]? = some fn) :
    true = Tryd.pinned.checked.prog.looks [] ∧ ∀ (j : Nat) t, fn.params[j]? = some t → Tryd.pinned.checked.prog.wantsStandIn t = false := by
  obtain rfl : f = 13 := Option.some.inj ((show Tryd.prog.funcNamed "threefold/threefoldlaw3.SideDecodes" = some 13 by kernel_rfl).symm.trans hf) |>.symm
  obtain rfl : fn = Tryd.f13 := (Option.some.inj (Tryd.func13.symm.trans hfn)).symm
  refine ⟨by kernel_rfl, fun j t ht => ?_⟩
  have hm : t ∈ Tryd.f13.params := Array.mem_of_getElem? ht
  have hall : (Tryd.f13.params.toList.all fun t => !Tryd.prog.wantsStandIn t) = true := by kernel_rfl
  have h9 := List.all_eq_true.1 hall t (Array.mem_toList_iff.2 hm)
  have h8 : Tryd.prog.wantsStandIn t = false := by simpa using h9
  exact h8
theorem proved : Rows.SideDecodesCardSaid :=
  holds_tied_goes .later [] _ _ _ _ _ said (fun _ h => by cases h) (by kernel_rfl) (fun _ h => by cases h) sideDecodes_row_tie rfl ⟨rfl, rfl⟩ (by kernel_rfl) rfl plain (by kernel_rfl)
#print axioms proved
end Go.Proofs.YtkookaogdkdegabDoor.sideDecodes
end
