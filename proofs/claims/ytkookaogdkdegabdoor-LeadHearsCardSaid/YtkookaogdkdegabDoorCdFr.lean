/- What a frame's cells, an int's cell read as. Conditions: none. -/
import Derived.Test.YtkookaogdkdegabDoorLayA
import Derived.Test.YtkookaogdkdegabDoorHLOpen
namespace Go.HL
open Go Go.Proofs Go.ChangeShapes Go.WideShapes Go.ChangeAt Go.RowKit
def okI (z : Int) : Prop := -9223372036854775808 ≤ z ∧ z ≤ 9223372036854775807
def FrI (f : Fr) : Prop := okI f.fr ∧ okI f.to ∧ okI f.dl ∧ okI f.kd ∧ okI f.att ∧ okI f.s.ph ∧ okI f.s.pr ∧ okI f.s.att
theorem fit_fr {l : List Nat} {cs : List Value} (h : FitK (3 :: 3 :: 3 :: 3 :: 3 :: 8 :: 3 :: 3 :: 3 :: l) cs) : ∃ (f : Fr) (r : List Value), cs = fc f ++ r ∧ FrI f ∧ FitK l r := by
  obtain ⟨a, r, rfl, ha, h1⟩ := fitI64 h
  obtain ⟨b, r, rfl, hb, h2⟩ := fitI64 h1
  obtain ⟨c, r, rfl, hc, h3⟩ := fitI64 h2
  obtain ⟨d, r, rfl, hd, h4⟩ := fitI64 h3
  obtain ⟨e, r, rfl, he, h5⟩ := fitI64 h4
  obtain ⟨f, r, rfl, h6⟩ := fitB h5
  obtain ⟨g, r, rfl, hg, h7⟩ := fitI64 h6
  obtain ⟨i, r, rfl, hi, h8⟩ := fitI64 h7
  obtain ⟨j, r, rfl, hj, h9⟩ := fitI64 h8
  exact ⟨⟨a, b, c, d, e, f, ⟨g, i, j⟩⟩, r, rfl, ⟨ha, hb, hc, hd, he, hg, hi, hj⟩, h9⟩
theorem open_fr {H : Type} {enc : TypeId × Value → H} {W : World} {base : Nat} {spare : Nat → Bool} {held : Bool} (n : Nat) (cs : List Value) (x : DataW H × List MemPlace) (h : DataW.trod enc Tryd.prog W base spare held n 45 cs = some x) : ∃ s : Fr, cs = fc s ∧ FrI s := by
  have hf := open_kt 4 45 [3, 3, 3, 3, 3, 8, 3, 3, 3] n cs x (by kernel_rfl) h
  obtain ⟨f, r, rfl, h1, h2⟩ := fit_fr hf
  obtain rfl := fit0 h2
  exact ⟨f, by simp, h1⟩
theorem open_ic {H : Type} {enc : TypeId × Value → H} {W : World} {base : Nat} {spare : Nat → Bool} {held : Bool} (n : Nat) (cs : List Value) (x : DataW H × List MemPlace) (h : DataW.trod enc Tryd.prog W base spare held n 3 cs = some x) :
    ∃ z : Int, cs = ic z ∧ okI z := by
  obtain ⟨z, e, -, hw⟩ := DataW.trod_int Tryd.underlying3 h
  exact ⟨z, e, by simpa [okI, Lit.wf, IntKind.min, IntKind.max, IntKind.signed, IntKind.bits] using hw⟩
theorem okI_wf {z : Int} (h : (Lit.int .i64 z).wf = true) : okI z := by simpa [okI, Lit.wf, IntKind.min, IntKind.max, IntKind.signed, IntKind.bits] using h
end Go.HL
