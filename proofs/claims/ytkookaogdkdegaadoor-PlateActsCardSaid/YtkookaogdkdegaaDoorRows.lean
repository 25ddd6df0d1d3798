/-
  NARROWER THAN 'FOR EVERY INPUT', by the rows' own cells (each row's printed sentence says how): WeightsMeet: laid · WeightsMany: laid · JournalLast: laid · Names: laid · LeadDecides: laid · LeadStale: laid · SiteKeeps: laid · SiteRises: laid · PlateActs: laid.
  DERIVED. THE GIVEN ROWS OF THIS SEAT. 9 by the template 'for every input the law returns true; each argument reads behind the call as it read before'; 0 by the template 'total and deterministic' (their statements: YtkookaogdkdegaaDoorTotals.lean).
  GIVEN WITH THE SEED: the statements are not yours to turn. If you find one false, say at which input.
  Laid BY PROGRAM, IN A SANDBOX (cutbox-rows.mjs): the forced cells as the released guide's own fill.sh prints them over the translation e4af7562bac93077… (all of the seat's roots in one cut). By AI agents, Wed Nov 11 2026. No macro, syntax, notation, axiom, sorry.
-/
import Derived.Test.YtkookaogdkdegaaDoorChecked
import GoSem.Claim
import GoSem.ClaimJoined
import GoSem.ClaimMapViews
import Derived.JoinedTies
import Derived.KernelRfl
namespace Go.Proofs.YtkookaogdkdegaaDoor
/- THE CELL 'sum', in the pinned program and in every row, IS THE sha256 OF THE DUMP (.gsa) THAT YtkookaogdkdegaaDoorProg.lean LOADS. Nothing in Lean hashes anything: it is a label: what it is worth is what the hold of that sum in a sandbox is worth. -/
noncomputable def Tryd.pinned : Pinned := { name := "ytkookaogdkdegaadoor", sum := "e4af7562bac930773d0de9749b6e3ebaffa04cfb5b62997674e38f55feb49172", checked := Tryd.checked }
namespace Rows
def none {H : Type} : Left H := { results := [], args := [] }

/- WHAT THE LISTED PACKAGE-LEVEL VARIABLES READ AS WHEN THE CALL BEGINS. Each datum BY PROGRAM (the guide's laid-datum.mjs) off the statement by which the dump's own 'gosem.cut.vars' lays the variable. In a bare row this is a premise. The card (YtkookaogdkdegaaDoorCards.lean) ties it to the program's text. -/
def laid_threefold_api_ErrBound {H : Type} : DataW H := .iface "*errors.errorString" (.ptr (.agg [.lit (.string [116, 104, 114, 101, 101, 102, 111, 108, 100, 58, 32, 98, 111, 117, 110, 100])]))
def laid_threefold_api_ErrShape {H : Type} : DataW H := .iface "*errors.errorString" (.ptr (.agg [.lit (.string [116, 104, 114, 101, 101, 102, 111, 108, 100, 58, 32, 115, 104, 97, 112, 101])]))
def laid_threefold_api_ErrNone {H : Type} : DataW H := .iface "*errors.errorString" (.ptr (.agg [.lit (.string [116, 104, 114, 101, 101, 102, 111, 108, 100, 58, 32, 110, 111, 110, 101])]))
def laid_threefold_api_ErrFull {H : Type} : DataW H := .iface "*errors.errorString" (.ptr (.agg [.lit (.string [116, 104, 114, 101, 101, 102, 111, 108, 100, 58, 32, 102, 117, 108, 108])]))
def laid_threefold_api_ErrOff {H : Type} : DataW H := .iface "*errors.errorString" (.ptr (.agg [.lit (.string [116, 104, 114, 101, 101, 102, 111, 108, 100, 58, 32, 111, 102, 102])]))
def laid_errors_errorType {H : Type} : DataW H := .iface "internal/reflectlite.rtype" (.agg [.ptr (.lit (.string [101, 114, 114, 111, 114]))])
def laid_threefold_api_ErrText {H : Type} : DataW H := .iface "*errors.errorString" (.ptr (.agg [.lit (.string [116, 104, 114, 101, 101, 102, 111, 108, 100, 58, 32, 116, 101, 120, 116])]))
def laid_threefold_api_ErrSum {H : Type} : DataW H := .iface "*errors.errorString" (.ptr (.agg [.lit (.string [116, 104, 114, 101, 101, 102, 111, 108, 100, 58, 32, 115, 117, 109])]))
def laid_threefold_api_ErrHeld {H : Type} : DataW H := .iface "*errors.errorString" (.ptr (.agg [.lit (.string [116, 104, 114, 101, 101, 102, 111, 108, 100, 58, 32, 104, 101, 108, 100])]))
def laid_threefold_api_ErrSplit {H : Type} : DataW H := .iface "*errors.errorString" (.ptr (.agg [.lit (.string [116, 104, 114, 101, 101, 102, 111, 108, 100, 58, 32, 115, 112, 108, 105, 116])]))

/-- 'threefoldlaw1.WeightsMeet': WHATEVER THE INPUT: true; the input reads as it did. -/
def weightsMeetSpec : ChangeSpec := { name := "weightsMeet", fn := fun _ => fun
  | [d1, d2, d3] => { results := [.lit (.bool true)], args := [d1, d2, d3] }
  | _ => none }
def weightsMeetRow : OpenClaim := { program := "ytkookaogdkdegaadoor", sum := "e4af7562bac930773d0de9749b6e3ebaffa04cfb5b62997674e38f55feb49172", func := "threefold/threefoldlaw1.WeightsMeet", spec := "weightsMeet", unfollowed := true, recurses := true, named := ["threefold/api.ErrBound", "threefold/api.ErrShape", "threefold/api.ErrNone"], apart := false, laid := [("threefold/api.ErrBound", laid_threefold_api_ErrBound), ("threefold/api.ErrShape", laid_threefold_api_ErrShape), ("threefold/api.ErrNone", laid_threefold_api_ErrNone)] }
def WeightsMeetSaid : Prop := weightsMeetRow.holds Tryd.pinned (OpenSpec.ofChange weightsMeetSpec)

/-- ITS FALSE NEIGHBOUR: 'it returns false'. Refute it at one input. -/
def weightsMeetWrong : ChangeSpec := { name := "weightsMeet", fn := fun _ => fun
  | [d1, d2, d3] => { results := [.lit (.bool false)], args := [d1, d2, d3] }
  | _ => none }
def WeightsMeetWrongFalsely : Prop := weightsMeetRow.holds Tryd.pinned (OpenSpec.ofChange weightsMeetWrong)

/-- 'threefoldlaw1.WeightsMany': WHATEVER THE INPUT: true; the input reads as it did. -/
def weightsManySpec : ChangeSpec := { name := "weightsMany", fn := fun _ => fun
  | [d1, d2, d3] => { results := [.lit (.bool true)], args := [d1, d2, d3] }
  | _ => none }
def weightsManyRow : OpenClaim := { program := "ytkookaogdkdegaadoor", sum := "e4af7562bac930773d0de9749b6e3ebaffa04cfb5b62997674e38f55feb49172", func := "threefold/threefoldlaw1.WeightsMany", spec := "weightsMany", unfollowed := true, recurses := true, named := ["threefold/api.ErrBound", "threefold/api.ErrShape", "threefold/api.ErrNone"], apart := false, laid := [("threefold/api.ErrBound", laid_threefold_api_ErrBound), ("threefold/api.ErrShape", laid_threefold_api_ErrShape), ("threefold/api.ErrNone", laid_threefold_api_ErrNone)] }
def WeightsManySaid : Prop := weightsManyRow.holds Tryd.pinned (OpenSpec.ofChange weightsManySpec)

/-- ITS FALSE NEIGHBOUR: 'it returns false'. Refute it at one input. -/
def weightsManyWrong : ChangeSpec := { name := "weightsMany", fn := fun _ => fun
  | [d1, d2, d3] => { results := [.lit (.bool false)], args := [d1, d2, d3] }
  | _ => none }
def WeightsManyWrongFalsely : Prop := weightsManyRow.holds Tryd.pinned (OpenSpec.ofChange weightsManyWrong)

/-- 'threefoldlaw1.JournalLast': WHATEVER THE INPUT: true; the input reads as it did. -/
def journalLastSpec : ChangeSpec := { name := "journalLast", fn := fun _ => fun
  | [d] => { results := [.lit (.bool true)], args := [d] }
  | _ => none }
def journalLastRow : OpenClaim := { program := "ytkookaogdkdegaadoor", sum := "e4af7562bac930773d0de9749b6e3ebaffa04cfb5b62997674e38f55feb49172", func := "threefold/threefoldlaw1.JournalLast", spec := "journalLast", named := ["threefold/api.ErrBound", "threefold/api.ErrShape", "threefold/api.ErrOff", "threefold/api.ErrFull"], apart := false, laid := [("threefold/api.ErrBound", laid_threefold_api_ErrBound), ("threefold/api.ErrShape", laid_threefold_api_ErrShape), ("threefold/api.ErrFull", laid_threefold_api_ErrFull), ("threefold/api.ErrOff", laid_threefold_api_ErrOff)] }
def JournalLastSaid : Prop := journalLastRow.holds Tryd.pinned (OpenSpec.ofChange journalLastSpec)

/-- ITS FALSE NEIGHBOUR: 'it returns false'. Refute it at one input. -/
def journalLastWrong : ChangeSpec := { name := "journalLast", fn := fun _ => fun
  | [d] => { results := [.lit (.bool false)], args := [d] }
  | _ => none }
def JournalLastWrongFalsely : Prop := journalLastRow.holds Tryd.pinned (OpenSpec.ofChange journalLastWrong)

/-- 'threefoldlaw1.Names': WHATEVER THE INPUT: true; the input reads as it did. -/
def namesSpec : ChangeSpec := { name := "names", fn := fun _ => fun
  | [] => { results := [.lit (.bool true)], args := [] }
  | _ => none }
def namesRow : OpenClaim := { program := "ytkookaogdkdegaadoor", sum := "e4af7562bac930773d0de9749b6e3ebaffa04cfb5b62997674e38f55feb49172", func := "threefold/threefoldlaw1.Names", spec := "names", inPlace := ["internal/reflectlite.ValueOf", "(internal/reflectlite.Value).Type", "(internal/reflectlite.Value).IsNil", "internal/reflectlite.TypeOf", "(internal/reflectlite.Value).Elem", "(internal/reflectlite.Value).Set"], unfollowed := true, recurses := true, named := ["threefold/api.ErrText", "threefold/api.ErrBound", "threefold/api.ErrShape", "threefold/api.ErrNone", "threefold/api.ErrFull", "threefold/api.ErrOff", "threefold/api.ErrSum", "threefold/api.ErrHeld", "threefold/api.ErrSplit", "errors.errorType"], apart := false, laid := [("errors.errorType", laid_errors_errorType), ("threefold/api.ErrText", laid_threefold_api_ErrText), ("threefold/api.ErrBound", laid_threefold_api_ErrBound), ("threefold/api.ErrShape", laid_threefold_api_ErrShape), ("threefold/api.ErrNone", laid_threefold_api_ErrNone), ("threefold/api.ErrFull", laid_threefold_api_ErrFull), ("threefold/api.ErrOff", laid_threefold_api_ErrOff), ("threefold/api.ErrSum", laid_threefold_api_ErrSum), ("threefold/api.ErrHeld", laid_threefold_api_ErrHeld), ("threefold/api.ErrSplit", laid_threefold_api_ErrSplit)] }
def NamesSaid : Prop := namesRow.holds Tryd.pinned (OpenSpec.ofChange namesSpec)

/-- ITS FALSE NEIGHBOUR: 'it returns false'. Refute it at one input. -/
def namesWrong : ChangeSpec := { name := "names", fn := fun _ => fun
  | [] => { results := [.lit (.bool false)], args := [] }
  | _ => none }
def NamesWrongFalsely : Prop := namesRow.holds Tryd.pinned (OpenSpec.ofChange namesWrong)

/-- 'threefoldlaw2.LeadDecides': WHATEVER THE INPUT: true; the input reads as it did. -/
def leadDecidesSpec : ChangeSpec := { name := "leadDecides", fn := fun _ => fun
  | [d1, d2, d3] => { results := [.lit (.bool true)], args := [d1, d2, d3] }
  | _ => none }
def leadDecidesRow : OpenClaim := { program := "ytkookaogdkdegaadoor", sum := "e4af7562bac930773d0de9749b6e3ebaffa04cfb5b62997674e38f55feb49172", func := "threefold/threefoldlaw2.LeadDecides", spec := "leadDecides", unfollowed := true, recurses := true, named := ["threefold/api.ErrBound", "threefold/api.ErrShape", "threefold/api.ErrNone"], apart := false, laid := [("threefold/api.ErrBound", laid_threefold_api_ErrBound), ("threefold/api.ErrShape", laid_threefold_api_ErrShape), ("threefold/api.ErrNone", laid_threefold_api_ErrNone)] }
def LeadDecidesSaid : Prop := leadDecidesRow.holds Tryd.pinned (OpenSpec.ofChange leadDecidesSpec)

/-- ITS FALSE NEIGHBOUR: 'it returns false'. Refute it at one input. -/
def leadDecidesWrong : ChangeSpec := { name := "leadDecides", fn := fun _ => fun
  | [d1, d2, d3] => { results := [.lit (.bool false)], args := [d1, d2, d3] }
  | _ => none }
def LeadDecidesWrongFalsely : Prop := leadDecidesRow.holds Tryd.pinned (OpenSpec.ofChange leadDecidesWrong)

/-- 'threefoldlaw2.LeadStale': WHATEVER THE INPUT: true; the input reads as it did. -/
def leadStaleSpec : ChangeSpec := { name := "leadStale", fn := fun _ => fun
  | [d1, d2, d3, d4] => { results := [.lit (.bool true)], args := [d1, d2, d3, d4] }
  | _ => none }
def leadStaleRow : OpenClaim := { program := "ytkookaogdkdegaadoor", sum := "e4af7562bac930773d0de9749b6e3ebaffa04cfb5b62997674e38f55feb49172", func := "threefold/threefoldlaw2.LeadStale", spec := "leadStale", unfollowed := true, recurses := true, named := ["threefold/api.ErrBound", "threefold/api.ErrShape", "threefold/api.ErrNone"], apart := false, laid := [("threefold/api.ErrBound", laid_threefold_api_ErrBound), ("threefold/api.ErrShape", laid_threefold_api_ErrShape), ("threefold/api.ErrNone", laid_threefold_api_ErrNone)] }
def LeadStaleSaid : Prop := leadStaleRow.holds Tryd.pinned (OpenSpec.ofChange leadStaleSpec)

/-- ITS FALSE NEIGHBOUR: 'it returns false'. Refute it at one input. -/
def leadStaleWrong : ChangeSpec := { name := "leadStale", fn := fun _ => fun
  | [d1, d2, d3, d4] => { results := [.lit (.bool false)], args := [d1, d2, d3, d4] }
  | _ => none }
def LeadStaleWrongFalsely : Prop := leadStaleRow.holds Tryd.pinned (OpenSpec.ofChange leadStaleWrong)

/-- 'threefoldlaw2.SiteKeeps': WHATEVER THE INPUT: true; the input reads as it did. -/
def siteKeepsSpec : ChangeSpec := { name := "siteKeeps", fn := fun _ => fun
  | [d] => { results := [.lit (.bool true)], args := [d] }
  | _ => none }
def siteKeepsRow : OpenClaim := { program := "ytkookaogdkdegaadoor", sum := "e4af7562bac930773d0de9749b6e3ebaffa04cfb5b62997674e38f55feb49172", func := "threefold/threefoldlaw2.SiteKeeps", spec := "siteKeeps", named := ["threefold/api.ErrBound", "threefold/api.ErrShape", "threefold/api.ErrOff", "threefold/api.ErrFull"], apart := false, laid := [("threefold/api.ErrBound", laid_threefold_api_ErrBound), ("threefold/api.ErrShape", laid_threefold_api_ErrShape), ("threefold/api.ErrFull", laid_threefold_api_ErrFull), ("threefold/api.ErrOff", laid_threefold_api_ErrOff)] }
def SiteKeepsSaid : Prop := siteKeepsRow.holds Tryd.pinned (OpenSpec.ofChange siteKeepsSpec)

/-- ITS FALSE NEIGHBOUR: 'it returns false'. Refute it at one input. -/
def siteKeepsWrong : ChangeSpec := { name := "siteKeeps", fn := fun _ => fun
  | [d] => { results := [.lit (.bool false)], args := [d] }
  | _ => none }
def SiteKeepsWrongFalsely : Prop := siteKeepsRow.holds Tryd.pinned (OpenSpec.ofChange siteKeepsWrong)

/-- 'threefoldlaw2.SiteRises': WHATEVER THE INPUT: true; the input reads as it did. -/
def siteRisesSpec : ChangeSpec := { name := "siteRises", fn := fun _ => fun
  | [d] => { results := [.lit (.bool true)], args := [d] }
  | _ => none }
def siteRisesRow : OpenClaim := { program := "ytkookaogdkdegaadoor", sum := "e4af7562bac930773d0de9749b6e3ebaffa04cfb5b62997674e38f55feb49172", func := "threefold/threefoldlaw2.SiteRises", spec := "siteRises", named := ["threefold/api.ErrBound", "threefold/api.ErrShape", "threefold/api.ErrOff", "threefold/api.ErrFull"], apart := false, laid := [("threefold/api.ErrBound", laid_threefold_api_ErrBound), ("threefold/api.ErrShape", laid_threefold_api_ErrShape), ("threefold/api.ErrFull", laid_threefold_api_ErrFull), ("threefold/api.ErrOff", laid_threefold_api_ErrOff)] }
def SiteRisesSaid : Prop := siteRisesRow.holds Tryd.pinned (OpenSpec.ofChange siteRisesSpec)

/-- ITS FALSE NEIGHBOUR: 'it returns false'. Refute it at one input. -/
def siteRisesWrong : ChangeSpec := { name := "siteRises", fn := fun _ => fun
  | [d] => { results := [.lit (.bool false)], args := [d] }
  | _ => none }
def SiteRisesWrongFalsely : Prop := siteRisesRow.holds Tryd.pinned (OpenSpec.ofChange siteRisesWrong)

/-- 'threefoldlaw1.PlateActs': WHATEVER THE INPUT: true; the input reads as it did. -/
def plateActsSpec : ChangeSpec := { name := "plateActs", fn := fun _ => fun
  | [d1, d2, d3] => { results := [.lit (.bool true)], args := [d1, d2, d3] }
  | _ => none }
def plateActsRow : OpenClaim := { program := "ytkookaogdkdegaadoor", sum := "e4af7562bac930773d0de9749b6e3ebaffa04cfb5b62997674e38f55feb49172", func := "threefold/threefoldlaw1.PlateActs", spec := "plateActs", inPlace := ["internal/reflectlite.ValueOf", "(internal/reflectlite.Value).Type", "(internal/reflectlite.Value).IsNil", "internal/reflectlite.TypeOf", "(internal/reflectlite.Value).Elem", "(internal/reflectlite.Value).Set"], unfollowed := true, recurses := true, named := ["threefold/api.ErrBound", "threefold/api.ErrOff", "threefold/api.ErrText", "threefold/api.ErrShape", "threefold/api.ErrNone", "threefold/api.ErrFull", "threefold/api.ErrSum", "threefold/api.ErrHeld", "threefold/api.ErrSplit", "errors.errorType"], apart := false, laid := [("errors.errorType", laid_errors_errorType), ("threefold/api.ErrText", laid_threefold_api_ErrText), ("threefold/api.ErrBound", laid_threefold_api_ErrBound), ("threefold/api.ErrShape", laid_threefold_api_ErrShape), ("threefold/api.ErrNone", laid_threefold_api_ErrNone), ("threefold/api.ErrFull", laid_threefold_api_ErrFull), ("threefold/api.ErrOff", laid_threefold_api_ErrOff), ("threefold/api.ErrSum", laid_threefold_api_ErrSum), ("threefold/api.ErrHeld", laid_threefold_api_ErrHeld), ("threefold/api.ErrSplit", laid_threefold_api_ErrSplit)] }
def PlateActsSaid : Prop := plateActsRow.holds Tryd.pinned (OpenSpec.ofChange plateActsSpec)

/-- ITS FALSE NEIGHBOUR: 'it returns false'. Refute it at one input. -/
def plateActsWrong : ChangeSpec := { name := "plateActs", fn := fun _ => fun
  | [d1, d2, d3] => { results := [.lit (.bool false)], args := [d1, d2, d3] }
  | _ => none }
def PlateActsWrongFalsely : Prop := plateActsRow.holds Tryd.pinned (OpenSpec.ofChange plateActsWrong)

/- THE SECOND FORM. 'bulk': how many values and letters a reading holds, each counted each time it is reached (what is shared counts as often as it is met; a slice's spare places count too). A statement '..UptoSaid' is the law's where the arguments, and the package variables that the reading takes, are together of bulk at most 1048576: NARROWER than '..Said'. Prove '..Said' where nothing that the law and all that it calls make is longer than what came in: it says more and counts as full. Else prove '..UptoSaid'. A law counts once. -/
mutual
def uptoBulk {H : Type} : DataW H → Nat
  | .lit (.string bytes) => bytes.length + 1
  | .lit _ => 1
  | .nil => 1
  | .ptr d => uptoBulk d + 1
  | .slice elems spare => uptoBulkAll elems + uptoBulkAll spare + 1
  | .agg parts => uptoBulkAll parts + 1
  | .iface _ d => uptoBulk d + 1
  | .map entries => uptoBulkEntries entries + 1
  | .held _ => 1
def uptoBulkAll {H : Type} : List (DataW H) → Nat
  | [] => 0
  | d :: r => uptoBulk d + uptoBulkAll r
def uptoBulkEntries {H : Type} : List (Lit × DataW H) → Nat
  | [] => 0
  | x :: r => uptoBulkEntry x + uptoBulkEntries r
def uptoBulkEntry {H : Type} : Lit × DataW H → Nat
  | (.string bytes, d) => bytes.length + uptoBulk d + 1
  | (_, d) => uptoBulk d + 1
 end
def uptoSmall : (H : Type) → List (DataW H) → Bool := fun _ ds => decide (uptoBulkAll ds ≤ 1048576)
def OpenSpec.upto (s : _root_.Go.ChangeSpec) : _root_.Go.OpenSpec := { _root_.Go.OpenSpec.ofChange s with cond := some uptoSmall }

/-- 'threefoldlaw1.WeightsMeet', WHERE WHAT IT READS IS OF BULK AT MOST 1048576: true; the input reads as it did. -/
def weightsMeetUptoRow : OpenClaim := { program := "ytkookaogdkdegaadoor", sum := "e4af7562bac930773d0de9749b6e3ebaffa04cfb5b62997674e38f55feb49172", func := "threefold/threefoldlaw1.WeightsMeet", spec := "weightsMeet", unfollowed := true, recurses := true, named := ["threefold/api.ErrBound", "threefold/api.ErrShape", "threefold/api.ErrNone"], apart := false, laid := [("threefold/api.ErrBound", laid_threefold_api_ErrBound), ("threefold/api.ErrShape", laid_threefold_api_ErrShape), ("threefold/api.ErrNone", laid_threefold_api_ErrNone)], narrowed := true }
def WeightsMeetUptoSaid : Prop := weightsMeetUptoRow.holds Tryd.pinned (OpenSpec.upto weightsMeetSpec)

/-- 'threefoldlaw1.WeightsMany', WHERE WHAT IT READS IS OF BULK AT MOST 1048576: true; the input reads as it did. -/
def weightsManyUptoRow : OpenClaim := { program := "ytkookaogdkdegaadoor", sum := "e4af7562bac930773d0de9749b6e3ebaffa04cfb5b62997674e38f55feb49172", func := "threefold/threefoldlaw1.WeightsMany", spec := "weightsMany", unfollowed := true, recurses := true, named := ["threefold/api.ErrBound", "threefold/api.ErrShape", "threefold/api.ErrNone"], apart := false, laid := [("threefold/api.ErrBound", laid_threefold_api_ErrBound), ("threefold/api.ErrShape", laid_threefold_api_ErrShape), ("threefold/api.ErrNone", laid_threefold_api_ErrNone)], narrowed := true }
def WeightsManyUptoSaid : Prop := weightsManyUptoRow.holds Tryd.pinned (OpenSpec.upto weightsManySpec)

/-- 'threefoldlaw1.JournalLast', WHERE WHAT IT READS IS OF BULK AT MOST 1048576: true; the input reads as it did. -/
def journalLastUptoRow : OpenClaim := { program := "ytkookaogdkdegaadoor", sum := "e4af7562bac930773d0de9749b6e3ebaffa04cfb5b62997674e38f55feb49172", func := "threefold/threefoldlaw1.JournalLast", spec := "journalLast", named := ["threefold/api.ErrBound", "threefold/api.ErrShape", "threefold/api.ErrOff", "threefold/api.ErrFull"], apart := false, laid := [("threefold/api.ErrBound", laid_threefold_api_ErrBound), ("threefold/api.ErrShape", laid_threefold_api_ErrShape), ("threefold/api.ErrFull", laid_threefold_api_ErrFull), ("threefold/api.ErrOff", laid_threefold_api_ErrOff)], narrowed := true }
def JournalLastUptoSaid : Prop := journalLastUptoRow.holds Tryd.pinned (OpenSpec.upto journalLastSpec)

/-- 'threefoldlaw1.Names', WHERE WHAT IT READS IS OF BULK AT MOST 1048576: true; the input reads as it did. -/
def namesUptoRow : OpenClaim := { program := "ytkookaogdkdegaadoor", sum := "e4af7562bac930773d0de9749b6e3ebaffa04cfb5b62997674e38f55feb49172", func := "threefold/threefoldlaw1.Names", spec := "names", inPlace := ["internal/reflectlite.ValueOf", "(internal/reflectlite.Value).Type", "(internal/reflectlite.Value).IsNil", "internal/reflectlite.TypeOf", "(internal/reflectlite.Value).Elem", "(internal/reflectlite.Value).Set"], unfollowed := true, recurses := true, named := ["threefold/api.ErrText", "threefold/api.ErrBound", "threefold/api.ErrShape", "threefold/api.ErrNone", "threefold/api.ErrFull", "threefold/api.ErrOff", "threefold/api.ErrSum", "threefold/api.ErrHeld", "threefold/api.ErrSplit", "errors.errorType"], apart := false, laid := [("errors.errorType", laid_errors_errorType), ("threefold/api.ErrText", laid_threefold_api_ErrText), ("threefold/api.ErrBound", laid_threefold_api_ErrBound), ("threefold/api.ErrShape", laid_threefold_api_ErrShape), ("threefold/api.ErrNone", laid_threefold_api_ErrNone), ("threefold/api.ErrFull", laid_threefold_api_ErrFull), ("threefold/api.ErrOff", laid_threefold_api_ErrOff), ("threefold/api.ErrSum", laid_threefold_api_ErrSum), ("threefold/api.ErrHeld", laid_threefold_api_ErrHeld), ("threefold/api.ErrSplit", laid_threefold_api_ErrSplit)], narrowed := true }
def NamesUptoSaid : Prop := namesUptoRow.holds Tryd.pinned (OpenSpec.upto namesSpec)

/-- 'threefoldlaw2.LeadDecides', WHERE WHAT IT READS IS OF BULK AT MOST 1048576: true; the input reads as it did. -/
def leadDecidesUptoRow : OpenClaim := { program := "ytkookaogdkdegaadoor", sum := "e4af7562bac930773d0de9749b6e3ebaffa04cfb5b62997674e38f55feb49172", func := "threefold/threefoldlaw2.LeadDecides", spec := "leadDecides", unfollowed := true, recurses := true, named := ["threefold/api.ErrBound", "threefold/api.ErrShape", "threefold/api.ErrNone"], apart := false, laid := [("threefold/api.ErrBound", laid_threefold_api_ErrBound), ("threefold/api.ErrShape", laid_threefold_api_ErrShape), ("threefold/api.ErrNone", laid_threefold_api_ErrNone)], narrowed := true }
def LeadDecidesUptoSaid : Prop := leadDecidesUptoRow.holds Tryd.pinned (OpenSpec.upto leadDecidesSpec)

/-- 'threefoldlaw2.LeadStale', WHERE WHAT IT READS IS OF BULK AT MOST 1048576: true; the input reads as it did. -/
def leadStaleUptoRow : OpenClaim := { program := "ytkookaogdkdegaadoor", sum := "e4af7562bac930773d0de9749b6e3ebaffa04cfb5b62997674e38f55feb49172", func := "threefold/threefoldlaw2.LeadStale", spec := "leadStale", unfollowed := true, recurses := true, named := ["threefold/api.ErrBound", "threefold/api.ErrShape", "threefold/api.ErrNone"], apart := false, laid := [("threefold/api.ErrBound", laid_threefold_api_ErrBound), ("threefold/api.ErrShape", laid_threefold_api_ErrShape), ("threefold/api.ErrNone", laid_threefold_api_ErrNone)], narrowed := true }
def LeadStaleUptoSaid : Prop := leadStaleUptoRow.holds Tryd.pinned (OpenSpec.upto leadStaleSpec)

/-- 'threefoldlaw2.SiteKeeps', WHERE WHAT IT READS IS OF BULK AT MOST 1048576: true; the input reads as it did. -/
def siteKeepsUptoRow : OpenClaim := { program := "ytkookaogdkdegaadoor", sum := "e4af7562bac930773d0de9749b6e3ebaffa04cfb5b62997674e38f55feb49172", func := "threefold/threefoldlaw2.SiteKeeps", spec := "siteKeeps", named := ["threefold/api.ErrBound", "threefold/api.ErrShape", "threefold/api.ErrOff", "threefold/api.ErrFull"], apart := false, laid := [("threefold/api.ErrBound", laid_threefold_api_ErrBound), ("threefold/api.ErrShape", laid_threefold_api_ErrShape), ("threefold/api.ErrFull", laid_threefold_api_ErrFull), ("threefold/api.ErrOff", laid_threefold_api_ErrOff)], narrowed := true }
def SiteKeepsUptoSaid : Prop := siteKeepsUptoRow.holds Tryd.pinned (OpenSpec.upto siteKeepsSpec)

/-- 'threefoldlaw2.SiteRises', WHERE WHAT IT READS IS OF BULK AT MOST 1048576: true; the input reads as it did. -/
def siteRisesUptoRow : OpenClaim := { program := "ytkookaogdkdegaadoor", sum := "e4af7562bac930773d0de9749b6e3ebaffa04cfb5b62997674e38f55feb49172", func := "threefold/threefoldlaw2.SiteRises", spec := "siteRises", named := ["threefold/api.ErrBound", "threefold/api.ErrShape", "threefold/api.ErrOff", "threefold/api.ErrFull"], apart := false, laid := [("threefold/api.ErrBound", laid_threefold_api_ErrBound), ("threefold/api.ErrShape", laid_threefold_api_ErrShape), ("threefold/api.ErrFull", laid_threefold_api_ErrFull), ("threefold/api.ErrOff", laid_threefold_api_ErrOff)], narrowed := true }
def SiteRisesUptoSaid : Prop := siteRisesUptoRow.holds Tryd.pinned (OpenSpec.upto siteRisesSpec)

/-- 'threefoldlaw1.PlateActs', WHERE WHAT IT READS IS OF BULK AT MOST 1048576: true; the input reads as it did. -/
def plateActsUptoRow : OpenClaim := { program := "ytkookaogdkdegaadoor", sum := "e4af7562bac930773d0de9749b6e3ebaffa04cfb5b62997674e38f55feb49172", func := "threefold/threefoldlaw1.PlateActs", spec := "plateActs", inPlace := ["internal/reflectlite.ValueOf", "(internal/reflectlite.Value).Type", "(internal/reflectlite.Value).IsNil", "internal/reflectlite.TypeOf", "(internal/reflectlite.Value).Elem", "(internal/reflectlite.Value).Set"], unfollowed := true, recurses := true, named := ["threefold/api.ErrBound", "threefold/api.ErrOff", "threefold/api.ErrText", "threefold/api.ErrShape", "threefold/api.ErrNone", "threefold/api.ErrFull", "threefold/api.ErrSum", "threefold/api.ErrHeld", "threefold/api.ErrSplit", "errors.errorType"], apart := false, laid := [("errors.errorType", laid_errors_errorType), ("threefold/api.ErrText", laid_threefold_api_ErrText), ("threefold/api.ErrBound", laid_threefold_api_ErrBound), ("threefold/api.ErrShape", laid_threefold_api_ErrShape), ("threefold/api.ErrNone", laid_threefold_api_ErrNone), ("threefold/api.ErrFull", laid_threefold_api_ErrFull), ("threefold/api.ErrOff", laid_threefold_api_ErrOff), ("threefold/api.ErrSum", laid_threefold_api_ErrSum), ("threefold/api.ErrHeld", laid_threefold_api_ErrHeld), ("threefold/api.ErrSplit", laid_threefold_api_ErrSplit)], narrowed := true }
def PlateActsUptoSaid : Prop := plateActsUptoRow.holds Tryd.pinned (OpenSpec.upto plateActsSpec)

end Rows
end Go.Proofs.YtkookaogdkdegaaDoor
