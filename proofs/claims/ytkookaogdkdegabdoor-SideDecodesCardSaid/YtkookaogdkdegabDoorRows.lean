/-
  NARROWER THAN 'FOR EVERY INPUT', by the rows' own cells (each row's printed sentence says how): JudgeChecks: laid · WireCodes: laid · WireReads: laid · WireBurst: laid · WeightsSets: laid · WeightsLeast: laid · JournalCuts: laid · JournalActs: laid · LeadHears: laid · SiteActs: laid · SideDecodes: laid.
  DERIVED. THE GIVEN ROWS OF THIS SEAT. 11 by the template 'for every input the law returns true; each argument reads behind the call as it read before'; 0 by the template 'total and deterministic' (their statements: YtkookaogdkdegabDoorTotals.lean).
  GIVEN WITH THE SEED: the statements are not yours to turn. If you find one false, say at which input.
  Laid BY PROGRAM, IN A SANDBOX (cutbox-rows.mjs): the forced cells as the released guide's own fill.sh prints them over the translation c6c8c0c56e8eba03… (all of the seat's roots in one cut). By AI agents, Wed Nov 11 2026. No macro, syntax, notation, axiom, sorry.
-/
import Derived.Test.YtkookaogdkdegabDoorChecked
import GoSem.Claim
import GoSem.ClaimJoined
import GoSem.ClaimMapViews
import Derived.JoinedTies
import Derived.KernelRfl
namespace Go.Proofs.YtkookaogdkdegabDoor
/- THE CELL 'sum', in the pinned program and in every row, IS THE sha256 OF THE DUMP (.gsa) THAT YtkookaogdkdegabDoorProg.lean LOADS. Nothing in Lean hashes anything: it is a label: what it is worth is what the hold of that sum in a sandbox is worth. -/
noncomputable def Tryd.pinned : Pinned := { name := "ytkookaogdkdegabdoor", sum := "c6c8c0c56e8eba0305bf6188234349ca05ba56ac7837dd8696534a27c4b0d7da", checked := Tryd.checked }
namespace Rows
def none {H : Type} : Left H := { results := [], args := [] }

/- WHAT THE LISTED PACKAGE-LEVEL VARIABLES READ AS WHEN THE CALL BEGINS. Each datum BY PROGRAM (the guide's laid-datum.mjs) off the statement by which the dump's own 'gosem.cut.vars' lays the variable. In a bare row this is a premise. The card (YtkookaogdkdegabDoorCards.lean) ties it to the program's text. -/
def laid_errors_errorType {H : Type} : DataW H := .iface "internal/reflectlite.rtype" (.agg [.ptr (.lit (.string [101, 114, 114, 111, 114]))])
def laid_threefold_api_ErrText {H : Type} : DataW H := .iface "*errors.errorString" (.ptr (.agg [.lit (.string [116, 104, 114, 101, 101, 102, 111, 108, 100, 58, 32, 116, 101, 120, 116])]))
def laid_threefold_api_ErrBound {H : Type} : DataW H := .iface "*errors.errorString" (.ptr (.agg [.lit (.string [116, 104, 114, 101, 101, 102, 111, 108, 100, 58, 32, 98, 111, 117, 110, 100])]))
def laid_threefold_api_ErrShape {H : Type} : DataW H := .iface "*errors.errorString" (.ptr (.agg [.lit (.string [116, 104, 114, 101, 101, 102, 111, 108, 100, 58, 32, 115, 104, 97, 112, 101])]))
def laid_threefold_api_ErrNone {H : Type} : DataW H := .iface "*errors.errorString" (.ptr (.agg [.lit (.string [116, 104, 114, 101, 101, 102, 111, 108, 100, 58, 32, 110, 111, 110, 101])]))
def laid_threefold_api_ErrFull {H : Type} : DataW H := .iface "*errors.errorString" (.ptr (.agg [.lit (.string [116, 104, 114, 101, 101, 102, 111, 108, 100, 58, 32, 102, 117, 108, 108])]))
def laid_threefold_api_ErrOff {H : Type} : DataW H := .iface "*errors.errorString" (.ptr (.agg [.lit (.string [116, 104, 114, 101, 101, 102, 111, 108, 100, 58, 32, 111, 102, 102])]))
def laid_threefold_api_ErrSum {H : Type} : DataW H := .iface "*errors.errorString" (.ptr (.agg [.lit (.string [116, 104, 114, 101, 101, 102, 111, 108, 100, 58, 32, 115, 117, 109])]))
def laid_threefold_api_ErrHeld {H : Type} : DataW H := .iface "*errors.errorString" (.ptr (.agg [.lit (.string [116, 104, 114, 101, 101, 102, 111, 108, 100, 58, 32, 104, 101, 108, 100])]))
def laid_threefold_api_ErrSplit {H : Type} : DataW H := .iface "*errors.errorString" (.ptr (.agg [.lit (.string [116, 104, 114, 101, 101, 102, 111, 108, 100, 58, 32, 115, 112, 108, 105, 116])]))

/-- 'threefoldlaw3.JudgeChecks': WHATEVER THE INPUT: true; the input reads as it did. -/
def judgeChecksSpec : ChangeSpec := { name := "judgeChecks", fn := fun _ => fun
  | [d1, d2, d3, d4] => { results := [.lit (.bool true)], args := [d1, d2, d3, d4] }
  | _ => none }
def judgeChecksRow : OpenClaim := { program := "ytkookaogdkdegabdoor", sum := "c6c8c0c56e8eba0305bf6188234349ca05ba56ac7837dd8696534a27c4b0d7da", func := "threefold/threefoldlaw3.JudgeChecks", spec := "judgeChecks", inPlace := ["internal/reflectlite.ValueOf", "(internal/reflectlite.Value).Type", "(internal/reflectlite.Value).IsNil", "internal/reflectlite.TypeOf", "(internal/reflectlite.Value).Elem", "(internal/reflectlite.Value).Set"], unfollowed := true, recurses := true, named := ["threefold/api.ErrBound", "threefold/api.ErrSplit", "threefold/api.ErrHeld", "threefold/api.ErrText", "threefold/api.ErrShape", "threefold/api.ErrNone", "threefold/api.ErrFull", "threefold/api.ErrOff", "threefold/api.ErrSum", "errors.errorType"], leaving := true, apart := false, laid := [("errors.errorType", laid_errors_errorType), ("threefold/api.ErrText", laid_threefold_api_ErrText), ("threefold/api.ErrBound", laid_threefold_api_ErrBound), ("threefold/api.ErrShape", laid_threefold_api_ErrShape), ("threefold/api.ErrNone", laid_threefold_api_ErrNone), ("threefold/api.ErrFull", laid_threefold_api_ErrFull), ("threefold/api.ErrOff", laid_threefold_api_ErrOff), ("threefold/api.ErrSum", laid_threefold_api_ErrSum), ("threefold/api.ErrHeld", laid_threefold_api_ErrHeld), ("threefold/api.ErrSplit", laid_threefold_api_ErrSplit)] }
def JudgeChecksSaid : Prop := judgeChecksRow.holds Tryd.pinned (OpenSpec.ofChange judgeChecksSpec)

/-- ITS FALSE NEIGHBOUR: 'it returns false'. Refute it at one input. -/
def judgeChecksWrong : ChangeSpec := { name := "judgeChecks", fn := fun _ => fun
  | [d1, d2, d3, d4] => { results := [.lit (.bool false)], args := [d1, d2, d3, d4] }
  | _ => none }
def JudgeChecksWrongFalsely : Prop := judgeChecksRow.holds Tryd.pinned (OpenSpec.ofChange judgeChecksWrong)

/-- 'threefoldlaw1.WireCodes': WHATEVER THE INPUT: true; the input reads as it did. -/
def wireCodesSpec : ChangeSpec := { name := "wireCodes", fn := fun _ => fun
  | [d] => { results := [.lit (.bool true)], args := [d] }
  | _ => none }
def wireCodesRow : OpenClaim := { program := "ytkookaogdkdegabdoor", sum := "c6c8c0c56e8eba0305bf6188234349ca05ba56ac7837dd8696534a27c4b0d7da", func := "threefold/threefoldlaw1.WireCodes", spec := "wireCodes", inPlace := ["internal/reflectlite.ValueOf", "(internal/reflectlite.Value).Type", "(internal/reflectlite.Value).IsNil", "internal/reflectlite.TypeOf", "(internal/reflectlite.Value).Elem", "(internal/reflectlite.Value).Set"], unfollowed := true, recurses := true, named := ["threefold/api.ErrBound", "threefold/api.ErrText", "threefold/api.ErrSum", "threefold/api.ErrShape", "threefold/api.ErrNone", "threefold/api.ErrFull", "threefold/api.ErrOff", "threefold/api.ErrHeld", "threefold/api.ErrSplit", "errors.errorType"], leaving := true, apart := false, laid := [("errors.errorType", laid_errors_errorType), ("threefold/api.ErrText", laid_threefold_api_ErrText), ("threefold/api.ErrBound", laid_threefold_api_ErrBound), ("threefold/api.ErrShape", laid_threefold_api_ErrShape), ("threefold/api.ErrNone", laid_threefold_api_ErrNone), ("threefold/api.ErrFull", laid_threefold_api_ErrFull), ("threefold/api.ErrOff", laid_threefold_api_ErrOff), ("threefold/api.ErrSum", laid_threefold_api_ErrSum), ("threefold/api.ErrHeld", laid_threefold_api_ErrHeld), ("threefold/api.ErrSplit", laid_threefold_api_ErrSplit)] }
def WireCodesSaid : Prop := wireCodesRow.holds Tryd.pinned (OpenSpec.ofChange wireCodesSpec)

/-- ITS FALSE NEIGHBOUR: 'it returns false'. Refute it at one input. -/
def wireCodesWrong : ChangeSpec := { name := "wireCodes", fn := fun _ => fun
  | [d] => { results := [.lit (.bool false)], args := [d] }
  | _ => none }
def WireCodesWrongFalsely : Prop := wireCodesRow.holds Tryd.pinned (OpenSpec.ofChange wireCodesWrong)

/-- 'threefoldlaw1.WireReads': WHATEVER THE INPUT: true; the input reads as it did. -/
def wireReadsSpec : ChangeSpec := { name := "wireReads", fn := fun _ => fun
  | [d1, d2] => { results := [.lit (.bool true)], args := [d1, d2] }
  | _ => none }
def wireReadsRow : OpenClaim := { program := "ytkookaogdkdegabdoor", sum := "c6c8c0c56e8eba0305bf6188234349ca05ba56ac7837dd8696534a27c4b0d7da", func := "threefold/threefoldlaw1.WireReads", spec := "wireReads", inPlace := ["internal/reflectlite.ValueOf", "(internal/reflectlite.Value).Type", "(internal/reflectlite.Value).IsNil", "internal/reflectlite.TypeOf", "(internal/reflectlite.Value).Elem", "(internal/reflectlite.Value).Set"], unfollowed := true, recurses := true, named := ["threefold/api.ErrBound", "threefold/api.ErrText", "threefold/api.ErrSum", "threefold/api.ErrShape", "threefold/api.ErrNone", "threefold/api.ErrFull", "threefold/api.ErrOff", "threefold/api.ErrHeld", "threefold/api.ErrSplit", "errors.errorType"], leaving := true, apart := false, laid := [("errors.errorType", laid_errors_errorType), ("threefold/api.ErrText", laid_threefold_api_ErrText), ("threefold/api.ErrBound", laid_threefold_api_ErrBound), ("threefold/api.ErrShape", laid_threefold_api_ErrShape), ("threefold/api.ErrNone", laid_threefold_api_ErrNone), ("threefold/api.ErrFull", laid_threefold_api_ErrFull), ("threefold/api.ErrOff", laid_threefold_api_ErrOff), ("threefold/api.ErrSum", laid_threefold_api_ErrSum), ("threefold/api.ErrHeld", laid_threefold_api_ErrHeld), ("threefold/api.ErrSplit", laid_threefold_api_ErrSplit)] }
def WireReadsSaid : Prop := wireReadsRow.holds Tryd.pinned (OpenSpec.ofChange wireReadsSpec)

/-- ITS FALSE NEIGHBOUR: 'it returns false'. Refute it at one input. -/
def wireReadsWrong : ChangeSpec := { name := "wireReads", fn := fun _ => fun
  | [d1, d2] => { results := [.lit (.bool false)], args := [d1, d2] }
  | _ => none }
def WireReadsWrongFalsely : Prop := wireReadsRow.holds Tryd.pinned (OpenSpec.ofChange wireReadsWrong)

/-- 'threefoldlaw1.WireBurst': WHATEVER THE INPUT: true; the input reads as it did. -/
def wireBurstSpec : ChangeSpec := { name := "wireBurst", fn := fun _ => fun
  | [d1, d2, d3] => { results := [.lit (.bool true)], args := [d1, d2, d3] }
  | _ => none }
def wireBurstRow : OpenClaim := { program := "ytkookaogdkdegabdoor", sum := "c6c8c0c56e8eba0305bf6188234349ca05ba56ac7837dd8696534a27c4b0d7da", func := "threefold/threefoldlaw1.WireBurst", spec := "wireBurst", inPlace := ["internal/reflectlite.ValueOf", "(internal/reflectlite.Value).Type", "(internal/reflectlite.Value).IsNil", "internal/reflectlite.TypeOf", "(internal/reflectlite.Value).Elem", "(internal/reflectlite.Value).Set"], unfollowed := true, recurses := true, named := ["threefold/api.ErrBound", "threefold/api.ErrText", "threefold/api.ErrSum", "threefold/api.ErrShape", "threefold/api.ErrNone", "threefold/api.ErrFull", "threefold/api.ErrOff", "threefold/api.ErrHeld", "threefold/api.ErrSplit", "errors.errorType"], leaving := true, apart := false, laid := [("errors.errorType", laid_errors_errorType), ("threefold/api.ErrText", laid_threefold_api_ErrText), ("threefold/api.ErrBound", laid_threefold_api_ErrBound), ("threefold/api.ErrShape", laid_threefold_api_ErrShape), ("threefold/api.ErrNone", laid_threefold_api_ErrNone), ("threefold/api.ErrFull", laid_threefold_api_ErrFull), ("threefold/api.ErrOff", laid_threefold_api_ErrOff), ("threefold/api.ErrSum", laid_threefold_api_ErrSum), ("threefold/api.ErrHeld", laid_threefold_api_ErrHeld), ("threefold/api.ErrSplit", laid_threefold_api_ErrSplit)] }
def WireBurstSaid : Prop := wireBurstRow.holds Tryd.pinned (OpenSpec.ofChange wireBurstSpec)

/-- ITS FALSE NEIGHBOUR: 'it returns false'. Refute it at one input. -/
def wireBurstWrong : ChangeSpec := { name := "wireBurst", fn := fun _ => fun
  | [d1, d2, d3] => { results := [.lit (.bool false)], args := [d1, d2, d3] }
  | _ => none }
def WireBurstWrongFalsely : Prop := wireBurstRow.holds Tryd.pinned (OpenSpec.ofChange wireBurstWrong)

/-- 'threefoldlaw1.WeightsSets': WHATEVER THE INPUT: true; the input reads as it did. -/
def weightsSetsSpec : ChangeSpec := { name := "weightsSets", fn := fun _ => fun
  | [d1, d2] => { results := [.lit (.bool true)], args := [d1, d2] }
  | _ => none }
def weightsSetsRow : OpenClaim := { program := "ytkookaogdkdegabdoor", sum := "c6c8c0c56e8eba0305bf6188234349ca05ba56ac7837dd8696534a27c4b0d7da", func := "threefold/threefoldlaw1.WeightsSets", spec := "weightsSets", inPlace := ["internal/reflectlite.ValueOf", "(internal/reflectlite.Value).Type", "(internal/reflectlite.Value).IsNil", "internal/reflectlite.TypeOf", "(internal/reflectlite.Value).Elem", "(internal/reflectlite.Value).Set"], unfollowed := true, recurses := true, named := ["threefold/api.ErrBound", "threefold/api.ErrShape", "threefold/api.ErrNone", "threefold/api.ErrText", "threefold/api.ErrFull", "threefold/api.ErrOff", "threefold/api.ErrSum", "threefold/api.ErrHeld", "threefold/api.ErrSplit", "errors.errorType"], leaving := true, apart := false, laid := [("errors.errorType", laid_errors_errorType), ("threefold/api.ErrText", laid_threefold_api_ErrText), ("threefold/api.ErrBound", laid_threefold_api_ErrBound), ("threefold/api.ErrShape", laid_threefold_api_ErrShape), ("threefold/api.ErrNone", laid_threefold_api_ErrNone), ("threefold/api.ErrFull", laid_threefold_api_ErrFull), ("threefold/api.ErrOff", laid_threefold_api_ErrOff), ("threefold/api.ErrSum", laid_threefold_api_ErrSum), ("threefold/api.ErrHeld", laid_threefold_api_ErrHeld), ("threefold/api.ErrSplit", laid_threefold_api_ErrSplit)] }
def WeightsSetsSaid : Prop := weightsSetsRow.holds Tryd.pinned (OpenSpec.ofChange weightsSetsSpec)

/-- ITS FALSE NEIGHBOUR: 'it returns false'. Refute it at one input. -/
def weightsSetsWrong : ChangeSpec := { name := "weightsSets", fn := fun _ => fun
  | [d1, d2] => { results := [.lit (.bool false)], args := [d1, d2] }
  | _ => none }
def WeightsSetsWrongFalsely : Prop := weightsSetsRow.holds Tryd.pinned (OpenSpec.ofChange weightsSetsWrong)

/-- 'threefoldlaw1.WeightsLeast': WHATEVER THE INPUT: true; the input reads as it did. -/
def weightsLeastSpec : ChangeSpec := { name := "weightsLeast", fn := fun _ => fun
  | [d] => { results := [.lit (.bool true)], args := [d] }
  | _ => none }
def weightsLeastRow : OpenClaim := { program := "ytkookaogdkdegabdoor", sum := "c6c8c0c56e8eba0305bf6188234349ca05ba56ac7837dd8696534a27c4b0d7da", func := "threefold/threefoldlaw1.WeightsLeast", spec := "weightsLeast", inPlace := ["internal/reflectlite.ValueOf", "(internal/reflectlite.Value).Type", "(internal/reflectlite.Value).IsNil", "internal/reflectlite.TypeOf", "(internal/reflectlite.Value).Elem", "(internal/reflectlite.Value).Set"], unfollowed := true, recurses := true, named := ["threefold/api.ErrBound", "threefold/api.ErrShape", "threefold/api.ErrNone", "threefold/api.ErrText", "threefold/api.ErrFull", "threefold/api.ErrOff", "threefold/api.ErrSum", "threefold/api.ErrHeld", "threefold/api.ErrSplit", "errors.errorType"], leaving := true, apart := false, laid := [("errors.errorType", laid_errors_errorType), ("threefold/api.ErrText", laid_threefold_api_ErrText), ("threefold/api.ErrBound", laid_threefold_api_ErrBound), ("threefold/api.ErrShape", laid_threefold_api_ErrShape), ("threefold/api.ErrNone", laid_threefold_api_ErrNone), ("threefold/api.ErrFull", laid_threefold_api_ErrFull), ("threefold/api.ErrOff", laid_threefold_api_ErrOff), ("threefold/api.ErrSum", laid_threefold_api_ErrSum), ("threefold/api.ErrHeld", laid_threefold_api_ErrHeld), ("threefold/api.ErrSplit", laid_threefold_api_ErrSplit)] }
def WeightsLeastSaid : Prop := weightsLeastRow.holds Tryd.pinned (OpenSpec.ofChange weightsLeastSpec)

/-- ITS FALSE NEIGHBOUR: 'it returns false'. Refute it at one input. -/
def weightsLeastWrong : ChangeSpec := { name := "weightsLeast", fn := fun _ => fun
  | [d] => { results := [.lit (.bool false)], args := [d] }
  | _ => none }
def WeightsLeastWrongFalsely : Prop := weightsLeastRow.holds Tryd.pinned (OpenSpec.ofChange weightsLeastWrong)

/-- 'threefoldlaw1.JournalCuts': WHATEVER THE INPUT: true; the input reads as it did. -/
def journalCutsSpec : ChangeSpec := { name := "journalCuts", fn := fun _ => fun
  | [d] => { results := [.lit (.bool true)], args := [d] }
  | _ => none }
def journalCutsRow : OpenClaim := { program := "ytkookaogdkdegabdoor", sum := "c6c8c0c56e8eba0305bf6188234349ca05ba56ac7837dd8696534a27c4b0d7da", func := "threefold/threefoldlaw1.JournalCuts", spec := "journalCuts", inPlace := ["internal/reflectlite.ValueOf", "(internal/reflectlite.Value).Type", "(internal/reflectlite.Value).IsNil", "internal/reflectlite.TypeOf", "(internal/reflectlite.Value).Elem", "(internal/reflectlite.Value).Set"], unfollowed := true, recurses := true, named := ["threefold/api.ErrBound", "threefold/api.ErrShape", "threefold/api.ErrOff", "threefold/api.ErrFull", "threefold/api.ErrText", "threefold/api.ErrNone", "threefold/api.ErrSum", "threefold/api.ErrHeld", "threefold/api.ErrSplit", "errors.errorType"], leaving := true, apart := false, laid := [("errors.errorType", laid_errors_errorType), ("threefold/api.ErrText", laid_threefold_api_ErrText), ("threefold/api.ErrBound", laid_threefold_api_ErrBound), ("threefold/api.ErrShape", laid_threefold_api_ErrShape), ("threefold/api.ErrNone", laid_threefold_api_ErrNone), ("threefold/api.ErrFull", laid_threefold_api_ErrFull), ("threefold/api.ErrOff", laid_threefold_api_ErrOff), ("threefold/api.ErrSum", laid_threefold_api_ErrSum), ("threefold/api.ErrHeld", laid_threefold_api_ErrHeld), ("threefold/api.ErrSplit", laid_threefold_api_ErrSplit)] }
def JournalCutsSaid : Prop := journalCutsRow.holds Tryd.pinned (OpenSpec.ofChange journalCutsSpec)

/-- ITS FALSE NEIGHBOUR: 'it returns false'. Refute it at one input. -/
def journalCutsWrong : ChangeSpec := { name := "journalCuts", fn := fun _ => fun
  | [d] => { results := [.lit (.bool false)], args := [d] }
  | _ => none }
def JournalCutsWrongFalsely : Prop := journalCutsRow.holds Tryd.pinned (OpenSpec.ofChange journalCutsWrong)

/-- 'threefoldlaw1.JournalActs': WHATEVER THE INPUT: true; the input reads as it did. -/
def journalActsSpec : ChangeSpec := { name := "journalActs", fn := fun _ => fun
  | [d1, d2] => { results := [.lit (.bool true)], args := [d1, d2] }
  | _ => none }
def journalActsRow : OpenClaim := { program := "ytkookaogdkdegabdoor", sum := "c6c8c0c56e8eba0305bf6188234349ca05ba56ac7837dd8696534a27c4b0d7da", func := "threefold/threefoldlaw1.JournalActs", spec := "journalActs", inPlace := ["internal/reflectlite.ValueOf", "(internal/reflectlite.Value).Type", "(internal/reflectlite.Value).IsNil", "internal/reflectlite.TypeOf", "(internal/reflectlite.Value).Elem", "(internal/reflectlite.Value).Set"], unfollowed := true, recurses := true, named := ["threefold/api.ErrBound", "threefold/api.ErrShape", "threefold/api.ErrOff", "threefold/api.ErrFull", "threefold/api.ErrText", "threefold/api.ErrNone", "threefold/api.ErrSum", "threefold/api.ErrHeld", "threefold/api.ErrSplit", "errors.errorType"], leaving := true, apart := false, laid := [("errors.errorType", laid_errors_errorType), ("threefold/api.ErrText", laid_threefold_api_ErrText), ("threefold/api.ErrBound", laid_threefold_api_ErrBound), ("threefold/api.ErrShape", laid_threefold_api_ErrShape), ("threefold/api.ErrNone", laid_threefold_api_ErrNone), ("threefold/api.ErrFull", laid_threefold_api_ErrFull), ("threefold/api.ErrOff", laid_threefold_api_ErrOff), ("threefold/api.ErrSum", laid_threefold_api_ErrSum), ("threefold/api.ErrHeld", laid_threefold_api_ErrHeld), ("threefold/api.ErrSplit", laid_threefold_api_ErrSplit)] }
def JournalActsSaid : Prop := journalActsRow.holds Tryd.pinned (OpenSpec.ofChange journalActsSpec)

/-- ITS FALSE NEIGHBOUR: 'it returns false'. Refute it at one input. -/
def journalActsWrong : ChangeSpec := { name := "journalActs", fn := fun _ => fun
  | [d1, d2] => { results := [.lit (.bool false)], args := [d1, d2] }
  | _ => none }
def JournalActsWrongFalsely : Prop := journalActsRow.holds Tryd.pinned (OpenSpec.ofChange journalActsWrong)

/-- 'threefoldlaw2.LeadHears': WHATEVER THE INPUT: true; the input reads as it did. -/
def leadHearsSpec : ChangeSpec := { name := "leadHears", fn := fun _ => fun
  | [d1, d2, d3, d4, d5, d6] => { results := [.lit (.bool true)], args := [d1, d2, d3, d4, d5, d6] }
  | _ => none }
def leadHearsRow : OpenClaim := { program := "ytkookaogdkdegabdoor", sum := "c6c8c0c56e8eba0305bf6188234349ca05ba56ac7837dd8696534a27c4b0d7da", func := "threefold/threefoldlaw2.LeadHears", spec := "leadHears", inPlace := ["internal/reflectlite.ValueOf", "(internal/reflectlite.Value).Type", "(internal/reflectlite.Value).IsNil", "internal/reflectlite.TypeOf", "(internal/reflectlite.Value).Elem", "(internal/reflectlite.Value).Set"], unfollowed := true, recurses := true, named := ["threefold/api.ErrBound", "threefold/api.ErrShape", "threefold/api.ErrNone", "threefold/api.ErrText", "threefold/api.ErrFull", "threefold/api.ErrOff", "threefold/api.ErrSum", "threefold/api.ErrHeld", "threefold/api.ErrSplit", "errors.errorType"], leaving := true, apart := false, laid := [("errors.errorType", laid_errors_errorType), ("threefold/api.ErrText", laid_threefold_api_ErrText), ("threefold/api.ErrBound", laid_threefold_api_ErrBound), ("threefold/api.ErrShape", laid_threefold_api_ErrShape), ("threefold/api.ErrNone", laid_threefold_api_ErrNone), ("threefold/api.ErrFull", laid_threefold_api_ErrFull), ("threefold/api.ErrOff", laid_threefold_api_ErrOff), ("threefold/api.ErrSum", laid_threefold_api_ErrSum), ("threefold/api.ErrHeld", laid_threefold_api_ErrHeld), ("threefold/api.ErrSplit", laid_threefold_api_ErrSplit)] }
def LeadHearsSaid : Prop := leadHearsRow.holds Tryd.pinned (OpenSpec.ofChange leadHearsSpec)

/-- ITS FALSE NEIGHBOUR: 'it returns false'. Refute it at one input. -/
def leadHearsWrong : ChangeSpec := { name := "leadHears", fn := fun _ => fun
  | [d1, d2, d3, d4, d5, d6] => { results := [.lit (.bool false)], args := [d1, d2, d3, d4, d5, d6] }
  | _ => none }
def LeadHearsWrongFalsely : Prop := leadHearsRow.holds Tryd.pinned (OpenSpec.ofChange leadHearsWrong)

/-- 'threefoldlaw2.SiteActs': WHATEVER THE INPUT: true; the input reads as it did. -/
def siteActsSpec : ChangeSpec := { name := "siteActs", fn := fun _ => fun
  | [d1, d2, d3] => { results := [.lit (.bool true)], args := [d1, d2, d3] }
  | _ => none }
def siteActsRow : OpenClaim := { program := "ytkookaogdkdegabdoor", sum := "c6c8c0c56e8eba0305bf6188234349ca05ba56ac7837dd8696534a27c4b0d7da", func := "threefold/threefoldlaw2.SiteActs", spec := "siteActs", inPlace := ["internal/reflectlite.ValueOf", "(internal/reflectlite.Value).Type", "(internal/reflectlite.Value).IsNil", "internal/reflectlite.TypeOf", "(internal/reflectlite.Value).Elem", "(internal/reflectlite.Value).Set"], unfollowed := true, recurses := true, named := ["threefold/api.ErrBound", "threefold/api.ErrShape", "threefold/api.ErrOff", "threefold/api.ErrFull", "threefold/api.ErrText", "threefold/api.ErrNone", "threefold/api.ErrSum", "threefold/api.ErrHeld", "threefold/api.ErrSplit", "errors.errorType"], leaving := true, apart := false, laid := [("errors.errorType", laid_errors_errorType), ("threefold/api.ErrText", laid_threefold_api_ErrText), ("threefold/api.ErrBound", laid_threefold_api_ErrBound), ("threefold/api.ErrShape", laid_threefold_api_ErrShape), ("threefold/api.ErrNone", laid_threefold_api_ErrNone), ("threefold/api.ErrFull", laid_threefold_api_ErrFull), ("threefold/api.ErrOff", laid_threefold_api_ErrOff), ("threefold/api.ErrSum", laid_threefold_api_ErrSum), ("threefold/api.ErrHeld", laid_threefold_api_ErrHeld), ("threefold/api.ErrSplit", laid_threefold_api_ErrSplit)] }
def SiteActsSaid : Prop := siteActsRow.holds Tryd.pinned (OpenSpec.ofChange siteActsSpec)

/-- ITS FALSE NEIGHBOUR: 'it returns false'. Refute it at one input. -/
def siteActsWrong : ChangeSpec := { name := "siteActs", fn := fun _ => fun
  | [d1, d2, d3] => { results := [.lit (.bool false)], args := [d1, d2, d3] }
  | _ => none }
def SiteActsWrongFalsely : Prop := siteActsRow.holds Tryd.pinned (OpenSpec.ofChange siteActsWrong)

/-- 'threefoldlaw3.SideDecodes': WHATEVER THE INPUT: true; the input reads as it did. -/
def sideDecodesSpec : ChangeSpec := { name := "sideDecodes", fn := fun _ => fun
  | [d1, d2] => { results := [.lit (.bool true)], args := [d1, d2] }
  | _ => none }
def sideDecodesRow : OpenClaim := { program := "ytkookaogdkdegabdoor", sum := "c6c8c0c56e8eba0305bf6188234349ca05ba56ac7837dd8696534a27c4b0d7da", func := "threefold/threefoldlaw3.SideDecodes", spec := "sideDecodes", inPlace := ["(*sync.WaitGroup).Go", "(*sync.WaitGroup).Add", "internal/race.ReleaseMerge", "internal/race.Disable", "internal/race.Enable", "internal/synctest.IsInBubble", "internal/synctest.Associate[sync.WaitGroup]", "sync.fatal", "sync/atomic.OrUint64", "sync/atomic.AddUint64", "internal/race.Read", "sync/atomic.LoadUint64", "sync/atomic.StoreUint64", "internal/synctest.Disassociate[sync.WaitGroup]", "sync.runtime_Semrelease", "(*sync.WaitGroup).Go$1", "(*sync.WaitGroup).Go$1$1", "(*sync.WaitGroup).Done", "(*sync.WaitGroup).Wait", "internal/race.Acquire", "internal/synctest.IsAssociated[sync.WaitGroup]", "sync/atomic.CompareAndSwapUint64", "internal/race.Write", "sync.runtime_SemacquireWaitGroup", "internal/reflectlite.ValueOf", "(internal/reflectlite.Value).Type", "(internal/reflectlite.Value).IsNil", "internal/reflectlite.TypeOf", "(internal/reflectlite.Value).Elem", "(internal/reflectlite.Value).Set"], unfollowed := true, recurses := true, named := ["threefold/api.ErrShape", "threefold/api.ErrBound", "threefold/api.ErrText", "threefold/api.ErrSum", "errors.errorType", "threefold/api.ErrNone", "threefold/api.ErrFull", "threefold/api.ErrOff", "threefold/api.ErrHeld", "threefold/api.ErrSplit"], leaving := true, apart := false, laid := [("errors.errorType", laid_errors_errorType), ("threefold/api.ErrText", laid_threefold_api_ErrText), ("threefold/api.ErrBound", laid_threefold_api_ErrBound), ("threefold/api.ErrShape", laid_threefold_api_ErrShape), ("threefold/api.ErrNone", laid_threefold_api_ErrNone), ("threefold/api.ErrFull", laid_threefold_api_ErrFull), ("threefold/api.ErrOff", laid_threefold_api_ErrOff), ("threefold/api.ErrSum", laid_threefold_api_ErrSum), ("threefold/api.ErrHeld", laid_threefold_api_ErrHeld), ("threefold/api.ErrSplit", laid_threefold_api_ErrSplit)] }
def SideDecodesSaid : Prop := sideDecodesRow.holds Tryd.pinned (OpenSpec.ofChange sideDecodesSpec)

/-- ITS FALSE NEIGHBOUR: 'it returns false'. Refute it at one input. -/
def sideDecodesWrong : ChangeSpec := { name := "sideDecodes", fn := fun _ => fun
  | [d1, d2] => { results := [.lit (.bool false)], args := [d1, d2] }
  | _ => none }
def SideDecodesWrongFalsely : Prop := sideDecodesRow.holds Tryd.pinned (OpenSpec.ofChange sideDecodesWrong)

/- THE SECOND FORM. 'bulk': how many values and letters a reading holds, each counted each time it is reached (what is shared counts as often as it is met; a slice's spare places count too). A statement '..UptoSaid' is the law's where the arguments, and the package variables that the reading takes, are together of bulk at most 1048576: NARROWER than '..Said'. Prove '..Said' where nothing that the law and all that it calls make is longer than what came in: it says more and counts as full. Else prove '..UptoSaid'. A law counts once. -/
mutual
def uptoBulk {H : Type} : DataW H → Nat
  | .lit (.string bytes) => bytes.length + 1
  | .lit _ => 1
  | .nil => 1
  | .ptr d => uptoBulk d + 1
  | .slice elems spare => uptoBulkAll elems + uptoBulkAll spare + 1
  | .agg parts => uptoBulkAll parts + 1
  | .iface _ d => uptoBulk d + 1
  | .map entries => uptoBulkEntries entries + 1
  | .held _ => 1
def uptoBulkAll {H : Type} : List (DataW H) → Nat
  | [] => 0
  | d :: r => uptoBulk d + uptoBulkAll r
def uptoBulkEntries {H : Type} : List (Lit × DataW H) → Nat
  | [] => 0
  | x :: r => uptoBulkEntry x + uptoBulkEntries r
def uptoBulkEntry {H : Type} : Lit × DataW H → Nat
  | (.string bytes, d) => bytes.length + uptoBulk d + 1
  | (_, d) => uptoBulk d + 1
 end
def uptoSmall : (H : Type) → List (DataW H) → Bool := fun _ ds => decide (uptoBulkAll ds ≤ 1048576)
def OpenSpec.upto (s : _root_.Go.ChangeSpec) : _root_.Go.OpenSpec := { _root_.Go.OpenSpec.ofChange s with cond := some uptoSmall }

/-- 'threefoldlaw3.JudgeChecks', WHERE WHAT IT READS IS OF BULK AT MOST 1048576: true; the input reads as it did. -/
def judgeChecksUptoRow : OpenClaim := { program := "ytkookaogdkdegabdoor", sum := "c6c8c0c56e8eba0305bf6188234349ca05ba56ac7837dd8696534a27c4b0d7da", func := "threefold/threefoldlaw3.JudgeChecks", spec := "judgeChecks", inPlace := ["internal/reflectlite.ValueOf", "(internal/reflectlite.Value).Type", "(internal/reflectlite.Value).IsNil", "internal/reflectlite.TypeOf", "(internal/reflectlite.Value).Elem", "(internal/reflectlite.Value).Set"], unfollowed := true, recurses := true, named := ["threefold/api.ErrBound", "threefold/api.ErrSplit", "threefold/api.ErrHeld", "threefold/api.ErrText", "threefold/api.ErrShape", "threefold/api.ErrNone", "threefold/api.ErrFull", "threefold/api.ErrOff", "threefold/api.ErrSum", "errors.errorType"], leaving := true, apart := false, laid := [("errors.errorType", laid_errors_errorType), ("threefold/api.ErrText", laid_threefold_api_ErrText), ("threefold/api.ErrBound", laid_threefold_api_ErrBound), ("threefold/api.ErrShape", laid_threefold_api_ErrShape), ("threefold/api.ErrNone", laid_threefold_api_ErrNone), ("threefold/api.ErrFull", laid_threefold_api_ErrFull), ("threefold/api.ErrOff", laid_threefold_api_ErrOff), ("threefold/api.ErrSum", laid_threefold_api_ErrSum), ("threefold/api.ErrHeld", laid_threefold_api_ErrHeld), ("threefold/api.ErrSplit", laid_threefold_api_ErrSplit)], narrowed := true }
def JudgeChecksUptoSaid : Prop := judgeChecksUptoRow.holds Tryd.pinned (OpenSpec.upto judgeChecksSpec)

/-- 'threefoldlaw1.WireCodes', WHERE WHAT IT READS IS OF BULK AT MOST 1048576: true; the input reads as it did. -/
def wireCodesUptoRow : OpenClaim := { program := "ytkookaogdkdegabdoor", sum := "c6c8c0c56e8eba0305bf6188234349ca05ba56ac7837dd8696534a27c4b0d7da", func := "threefold/threefoldlaw1.WireCodes", spec := "wireCodes", inPlace := ["internal/reflectlite.ValueOf", "(internal/reflectlite.Value).Type", "(internal/reflectlite.Value).IsNil", "internal/reflectlite.TypeOf", "(internal/reflectlite.Value).Elem", "(internal/reflectlite.Value).Set"], unfollowed := true, recurses := true, named := ["threefold/api.ErrBound", "threefold/api.ErrText", "threefold/api.ErrSum", "threefold/api.ErrShape", "threefold/api.ErrNone", "threefold/api.ErrFull", "threefold/api.ErrOff", "threefold/api.ErrHeld", "threefold/api.ErrSplit", "errors.errorType"], leaving := true, apart := false, laid := [("errors.errorType", laid_errors_errorType), ("threefold/api.ErrText", laid_threefold_api_ErrText), ("threefold/api.ErrBound", laid_threefold_api_ErrBound), ("threefold/api.ErrShape", laid_threefold_api_ErrShape), ("threefold/api.ErrNone", laid_threefold_api_ErrNone), ("threefold/api.ErrFull", laid_threefold_api_ErrFull), ("threefold/api.ErrOff", laid_threefold_api_ErrOff), ("threefold/api.ErrSum", laid_threefold_api_ErrSum), ("threefold/api.ErrHeld", laid_threefold_api_ErrHeld), ("threefold/api.ErrSplit", laid_threefold_api_ErrSplit)], narrowed := true }
def WireCodesUptoSaid : Prop := wireCodesUptoRow.holds Tryd.pinned (OpenSpec.upto wireCodesSpec)

/-- 'threefoldlaw1.WireReads', WHERE WHAT IT READS IS OF BULK AT MOST 1048576: true; the input reads as it did. -/
def wireReadsUptoRow : OpenClaim := { program := "ytkookaogdkdegabdoor", sum := "c6c8c0c56e8eba0305bf6188234349ca05ba56ac7837dd8696534a27c4b0d7da", func := "threefold/threefoldlaw1.WireReads", spec := "wireReads", inPlace := ["internal/reflectlite.ValueOf", "(internal/reflectlite.Value).Type", "(internal/reflectlite.Value).IsNil", "internal/reflectlite.TypeOf", "(internal/reflectlite.Value).Elem", "(internal/reflectlite.Value).Set"], unfollowed := true, recurses := true, named := ["threefold/api.ErrBound", "threefold/api.ErrText", "threefold/api.ErrSum", "threefold/api.ErrShape", "threefold/api.ErrNone", "threefold/api.ErrFull", "threefold/api.ErrOff", "threefold/api.ErrHeld", "threefold/api.ErrSplit", "errors.errorType"], leaving := true, apart := false, laid := [("errors.errorType", laid_errors_errorType), ("threefold/api.ErrText", laid_threefold_api_ErrText), ("threefold/api.ErrBound", laid_threefold_api_ErrBound), ("threefold/api.ErrShape", laid_threefold_api_ErrShape), ("threefold/api.ErrNone", laid_threefold_api_ErrNone), ("threefold/api.ErrFull", laid_threefold_api_ErrFull), ("threefold/api.ErrOff", laid_threefold_api_ErrOff), ("threefold/api.ErrSum", laid_threefold_api_ErrSum), ("threefold/api.ErrHeld", laid_threefold_api_ErrHeld), ("threefold/api.ErrSplit", laid_threefold_api_ErrSplit)], narrowed := true }
def WireReadsUptoSaid : Prop := wireReadsUptoRow.holds Tryd.pinned (OpenSpec.upto wireReadsSpec)

/-- 'threefoldlaw1.WireBurst', WHERE WHAT IT READS IS OF BULK AT MOST 1048576: true; the input reads as it did. -/
def wireBurstUptoRow : OpenClaim := { program := "ytkookaogdkdegabdoor", sum := "c6c8c0c56e8eba0305bf6188234349ca05ba56ac7837dd8696534a27c4b0d7da", func := "threefold/threefoldlaw1.WireBurst", spec := "wireBurst", inPlace := ["internal/reflectlite.ValueOf", "(internal/reflectlite.Value).Type", "(internal/reflectlite.Value).IsNil", "internal/reflectlite.TypeOf", "(internal/reflectlite.Value).Elem", "(internal/reflectlite.Value).Set"], unfollowed := true, recurses := true, named := ["threefold/api.ErrBound", "threefold/api.ErrText", "threefold/api.ErrSum", "threefold/api.ErrShape", "threefold/api.ErrNone", "threefold/api.ErrFull", "threefold/api.ErrOff", "threefold/api.ErrHeld", "threefold/api.ErrSplit", "errors.errorType"], leaving := true, apart := false, laid := [("errors.errorType", laid_errors_errorType), ("threefold/api.ErrText", laid_threefold_api_ErrText), ("threefold/api.ErrBound", laid_threefold_api_ErrBound), ("threefold/api.ErrShape", laid_threefold_api_ErrShape), ("threefold/api.ErrNone", laid_threefold_api_ErrNone), ("threefold/api.ErrFull", laid_threefold_api_ErrFull), ("threefold/api.ErrOff", laid_threefold_api_ErrOff), ("threefold/api.ErrSum", laid_threefold_api_ErrSum), ("threefold/api.ErrHeld", laid_threefold_api_ErrHeld), ("threefold/api.ErrSplit", laid_threefold_api_ErrSplit)], narrowed := true }
def WireBurstUptoSaid : Prop := wireBurstUptoRow.holds Tryd.pinned (OpenSpec.upto wireBurstSpec)

/-- 'threefoldlaw1.WeightsSets', WHERE WHAT IT READS IS OF BULK AT MOST 1048576: true; the input reads as it did. -/
def weightsSetsUptoRow : OpenClaim := { program := "ytkookaogdkdegabdoor", sum := "c6c8c0c56e8eba0305bf6188234349ca05ba56ac7837dd8696534a27c4b0d7da", func := "threefold/threefoldlaw1.WeightsSets", spec := "weightsSets", inPlace := ["internal/reflectlite.ValueOf", "(internal/reflectlite.Value).Type", "(internal/reflectlite.Value).IsNil", "internal/reflectlite.TypeOf", "(internal/reflectlite.Value).Elem", "(internal/reflectlite.Value).Set"], unfollowed := true, recurses := true, named := ["threefold/api.ErrBound", "threefold/api.ErrShape", "threefold/api.ErrNone", "threefold/api.ErrText", "threefold/api.ErrFull", "threefold/api.ErrOff", "threefold/api.ErrSum", "threefold/api.ErrHeld", "threefold/api.ErrSplit", "errors.errorType"], leaving := true, apart := false, laid := [("errors.errorType", laid_errors_errorType), ("threefold/api.ErrText", laid_threefold_api_ErrText), ("threefold/api.ErrBound", laid_threefold_api_ErrBound), ("threefold/api.ErrShape", laid_threefold_api_ErrShape), ("threefold/api.ErrNone", laid_threefold_api_ErrNone), ("threefold/api.ErrFull", laid_threefold_api_ErrFull), ("threefold/api.ErrOff", laid_threefold_api_ErrOff), ("threefold/api.ErrSum", laid_threefold_api_ErrSum), ("threefold/api.ErrHeld", laid_threefold_api_ErrHeld), ("threefold/api.ErrSplit", laid_threefold_api_ErrSplit)], narrowed := true }
def WeightsSetsUptoSaid : Prop := weightsSetsUptoRow.holds Tryd.pinned (OpenSpec.upto weightsSetsSpec)

/-- 'threefoldlaw1.WeightsLeast', WHERE WHAT IT READS IS OF BULK AT MOST 1048576: true; the input reads as it did. -/
def weightsLeastUptoRow : OpenClaim := { program := "ytkookaogdkdegabdoor", sum := "c6c8c0c56e8eba0305bf6188234349ca05ba56ac7837dd8696534a27c4b0d7da", func := "threefold/threefoldlaw1.WeightsLeast", spec := "weightsLeast", inPlace := ["internal/reflectlite.ValueOf", "(internal/reflectlite.Value).Type", "(internal/reflectlite.Value).IsNil", "internal/reflectlite.TypeOf", "(internal/reflectlite.Value).Elem", "(internal/reflectlite.Value).Set"], unfollowed := true, recurses := true, named := ["threefold/api.ErrBound", "threefold/api.ErrShape", "threefold/api.ErrNone", "threefold/api.ErrText", "threefold/api.ErrFull", "threefold/api.ErrOff", "threefold/api.ErrSum", "threefold/api.ErrHeld", "threefold/api.ErrSplit", "errors.errorType"], leaving := true, apart := false, laid := [("errors.errorType", laid_errors_errorType), ("threefold/api.ErrText", laid_threefold_api_ErrText), ("threefold/api.ErrBound", laid_threefold_api_ErrBound), ("threefold/api.ErrShape", laid_threefold_api_ErrShape), ("threefold/api.ErrNone", laid_threefold_api_ErrNone), ("threefold/api.ErrFull", laid_threefold_api_ErrFull), ("threefold/api.ErrOff", laid_threefold_api_ErrOff), ("threefold/api.ErrSum", laid_threefold_api_ErrSum), ("threefold/api.ErrHeld", laid_threefold_api_ErrHeld), ("threefold/api.ErrSplit", laid_threefold_api_ErrSplit)], narrowed := true }
def WeightsLeastUptoSaid : Prop := weightsLeastUptoRow.holds Tryd.pinned (OpenSpec.upto weightsLeastSpec)

/-- 'threefoldlaw1.JournalCuts', WHERE WHAT IT READS IS OF BULK AT MOST 1048576: true; the input reads as it did. -/
def journalCutsUptoRow : OpenClaim := { program := "ytkookaogdkdegabdoor", sum := "c6c8c0c56e8eba0305bf6188234349ca05ba56ac7837dd8696534a27c4b0d7da", func := "threefold/threefoldlaw1.JournalCuts", spec := "journalCuts", inPlace := ["internal/reflectlite.ValueOf", "(internal/reflectlite.Value).Type", "(internal/reflectlite.Value).IsNil", "internal/reflectlite.TypeOf", "(internal/reflectlite.Value).Elem", "(internal/reflectlite.Value).Set"], unfollowed := true, recurses := true, named := ["threefold/api.ErrBound", "threefold/api.ErrShape", "threefold/api.ErrOff", "threefold/api.ErrFull", "threefold/api.ErrText", "threefold/api.ErrNone", "threefold/api.ErrSum", "threefold/api.ErrHeld", "threefold/api.ErrSplit", "errors.errorType"], leaving := true, apart := false, laid := [("errors.errorType", laid_errors_errorType), ("threefold/api.ErrText", laid_threefold_api_ErrText), ("threefold/api.ErrBound", laid_threefold_api_ErrBound), ("threefold/api.ErrShape", laid_threefold_api_ErrShape), ("threefold/api.ErrNone", laid_threefold_api_ErrNone), ("threefold/api.ErrFull", laid_threefold_api_ErrFull), ("threefold/api.ErrOff", laid_threefold_api_ErrOff), ("threefold/api.ErrSum", laid_threefold_api_ErrSum), ("threefold/api.ErrHeld", laid_threefold_api_ErrHeld), ("threefold/api.ErrSplit", laid_threefold_api_ErrSplit)], narrowed := true }
def JournalCutsUptoSaid : Prop := journalCutsUptoRow.holds Tryd.pinned (OpenSpec.upto journalCutsSpec)

/-- 'threefoldlaw1.JournalActs', WHERE WHAT IT READS IS OF BULK AT MOST 1048576: true; the input reads as it did. -/
def journalActsUptoRow : OpenClaim := { program := "ytkookaogdkdegabdoor", sum := "c6c8c0c56e8eba0305bf6188234349ca05ba56ac7837dd8696534a27c4b0d7da", func := "threefold/threefoldlaw1.JournalActs", spec := "journalActs", inPlace := ["internal/reflectlite.ValueOf", "(internal/reflectlite.Value).Type", "(internal/reflectlite.Value).IsNil", "internal/reflectlite.TypeOf", "(internal/reflectlite.Value).Elem", "(internal/reflectlite.Value).Set"], unfollowed := true, recurses := true, named := ["threefold/api.ErrBound", "threefold/api.ErrShape", "threefold/api.ErrOff", "threefold/api.ErrFull", "threefold/api.ErrText", "threefold/api.ErrNone", "threefold/api.ErrSum", "threefold/api.ErrHeld", "threefold/api.ErrSplit", "errors.errorType"], leaving := true, apart := false, laid := [("errors.errorType", laid_errors_errorType), ("threefold/api.ErrText", laid_threefold_api_ErrText), ("threefold/api.ErrBound", laid_threefold_api_ErrBound), ("threefold/api.ErrShape", laid_threefold_api_ErrShape), ("threefold/api.ErrNone", laid_threefold_api_ErrNone), ("threefold/api.ErrFull", laid_threefold_api_ErrFull), ("threefold/api.ErrOff", laid_threefold_api_ErrOff), ("threefold/api.ErrSum", laid_threefold_api_ErrSum), ("threefold/api.ErrHeld", laid_threefold_api_ErrHeld), ("threefold/api.ErrSplit", laid_threefold_api_ErrSplit)], narrowed := true }
def JournalActsUptoSaid : Prop := journalActsUptoRow.holds Tryd.pinned (OpenSpec.upto journalActsSpec)

/-- 'threefoldlaw2.LeadHears', WHERE WHAT IT READS IS OF BULK AT MOST 1048576: true; the input reads as it did. -/
def leadHearsUptoRow : OpenClaim := { program := "ytkookaogdkdegabdoor", sum := "c6c8c0c56e8eba0305bf6188234349ca05ba56ac7837dd8696534a27c4b0d7da", func := "threefold/threefoldlaw2.LeadHears", spec := "leadHears", inPlace := ["internal/reflectlite.ValueOf", "(internal/reflectlite.Value).Type", "(internal/reflectlite.Value).IsNil", "internal/reflectlite.TypeOf", "(internal/reflectlite.Value).Elem", "(internal/reflectlite.Value).Set"], unfollowed := true, recurses := true, named := ["threefold/api.ErrBound", "threefold/api.ErrShape", "threefold/api.ErrNone", "threefold/api.ErrText", "threefold/api.ErrFull", "threefold/api.ErrOff", "threefold/api.ErrSum", "threefold/api.ErrHeld", "threefold/api.ErrSplit", "errors.errorType"], leaving := true, apart := false, laid := [("errors.errorType", laid_errors_errorType), ("threefold/api.ErrText", laid_threefold_api_ErrText), ("threefold/api.ErrBound", laid_threefold_api_ErrBound), ("threefold/api.ErrShape", laid_threefold_api_ErrShape), ("threefold/api.ErrNone", laid_threefold_api_ErrNone), ("threefold/api.ErrFull", laid_threefold_api_ErrFull), ("threefold/api.ErrOff", laid_threefold_api_ErrOff), ("threefold/api.ErrSum", laid_threefold_api_ErrSum), ("threefold/api.ErrHeld", laid_threefold_api_ErrHeld), ("threefold/api.ErrSplit", laid_threefold_api_ErrSplit)], narrowed := true }
def LeadHearsUptoSaid : Prop := leadHearsUptoRow.holds Tryd.pinned (OpenSpec.upto leadHearsSpec)

/-- 'threefoldlaw2.SiteActs', WHERE WHAT IT READS IS OF BULK AT MOST 1048576: true; the input reads as it did. -/
def siteActsUptoRow : OpenClaim := { program := "ytkookaogdkdegabdoor", sum := "c6c8c0c56e8eba0305bf6188234349ca05ba56ac7837dd8696534a27c4b0d7da", func := "threefold/threefoldlaw2.SiteActs", spec := "siteActs", inPlace := ["internal/reflectlite.ValueOf", "(internal/reflectlite.Value).Type", "(internal/reflectlite.Value).IsNil", "internal/reflectlite.TypeOf", "(internal/reflectlite.Value).Elem", "(internal/reflectlite.Value).Set"], unfollowed := true, recurses := true, named := ["threefold/api.ErrBound", "threefold/api.ErrShape", "threefold/api.ErrOff", "threefold/api.ErrFull", "threefold/api.ErrText", "threefold/api.ErrNone", "threefold/api.ErrSum", "threefold/api.ErrHeld", "threefold/api.ErrSplit", "errors.errorType"], leaving := true, apart := false, laid := [("errors.errorType", laid_errors_errorType), ("threefold/api.ErrText", laid_threefold_api_ErrText), ("threefold/api.ErrBound", laid_threefold_api_ErrBound), ("threefold/api.ErrShape", laid_threefold_api_ErrShape), ("threefold/api.ErrNone", laid_threefold_api_ErrNone), ("threefold/api.ErrFull", laid_threefold_api_ErrFull), ("threefold/api.ErrOff", laid_threefold_api_ErrOff), ("threefold/api.ErrSum", laid_threefold_api_ErrSum), ("threefold/api.ErrHeld", laid_threefold_api_ErrHeld), ("threefold/api.ErrSplit", laid_threefold_api_ErrSplit)], narrowed := true }
def SiteActsUptoSaid : Prop := siteActsUptoRow.holds Tryd.pinned (OpenSpec.upto siteActsSpec)

/-- 'threefoldlaw3.SideDecodes', WHERE WHAT IT READS IS OF BULK AT MOST 1048576: true; the input reads as it did. -/
def sideDecodesUptoRow : OpenClaim := { program := "ytkookaogdkdegabdoor", sum := "c6c8c0c56e8eba0305bf6188234349ca05ba56ac7837dd8696534a27c4b0d7da", func := "threefold/threefoldlaw3.SideDecodes", spec := "sideDecodes", inPlace := ["(*sync.WaitGroup).Go", "(*sync.WaitGroup).Add", "internal/race.ReleaseMerge", "internal/race.Disable", "internal/race.Enable", "internal/synctest.IsInBubble", "internal/synctest.Associate[sync.WaitGroup]", "sync.fatal", "sync/atomic.OrUint64", "sync/atomic.AddUint64", "internal/race.Read", "sync/atomic.LoadUint64", "sync/atomic.StoreUint64", "internal/synctest.Disassociate[sync.WaitGroup]", "sync.runtime_Semrelease", "(*sync.WaitGroup).Go$1", "(*sync.WaitGroup).Go$1$1", "(*sync.WaitGroup).Done", "(*sync.WaitGroup).Wait", "internal/race.Acquire", "internal/synctest.IsAssociated[sync.WaitGroup]", "sync/atomic.CompareAndSwapUint64", "internal/race.Write", "sync.runtime_SemacquireWaitGroup", "internal/reflectlite.ValueOf", "(internal/reflectlite.Value).Type", "(internal/reflectlite.Value).IsNil", "internal/reflectlite.TypeOf", "(internal/reflectlite.Value).Elem", "(internal/reflectlite.Value).Set"], unfollowed := true, recurses := true, named := ["threefold/api.ErrShape", "threefold/api.ErrBound", "threefold/api.ErrText", "threefold/api.ErrSum", "errors.errorType", "threefold/api.ErrNone", "threefold/api.ErrFull", "threefold/api.ErrOff", "threefold/api.ErrHeld", "threefold/api.ErrSplit"], leaving := true, apart := false, laid := [("errors.errorType", laid_errors_errorType), ("threefold/api.ErrText", laid_threefold_api_ErrText), ("threefold/api.ErrBound", laid_threefold_api_ErrBound), ("threefold/api.ErrShape", laid_threefold_api_ErrShape), ("threefold/api.ErrNone", laid_threefold_api_ErrNone), ("threefold/api.ErrFull", laid_threefold_api_ErrFull), ("threefold/api.ErrOff", laid_threefold_api_ErrOff), ("threefold/api.ErrSum", laid_threefold_api_ErrSum), ("threefold/api.ErrHeld", laid_threefold_api_ErrHeld), ("threefold/api.ErrSplit", laid_threefold_api_ErrSplit)], narrowed := true }
def SideDecodesUptoSaid : Prop := sideDecodesUptoRow.holds Tryd.pinned (OpenSpec.upto sideDecodesSpec)

end Rows
end Go.Proofs.YtkookaogdkdegabDoor
