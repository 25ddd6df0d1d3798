/- What an act's cells (law package 2) read as. Conditions: none. -/
import Derived.Test.YtkookaogdkdegaaDoorCdFr
import Derived.Test.YtkookaogdkdegaaDoorStE
namespace Go.HL
open Go Go.Proofs Go.ChangeShapes Go.WideShapes Go.ChangeAt Go.RowKit
def AcI (a : ActS) : Prop := a.kd.length ≤ 9223372036854775807 ∧ FrI a.f ∧ okI a.d ∧ okI a.n
theorem open_ac {H : Type} {enc : TypeId × Value → H} {W : World} {base : Nat} {spare : Nat → Bool} {held : Bool} (n : Nat) (cs : List Value) (x : DataW H × List MemPlace) (h : DataW.trod enc Tryd.prog W base spare held n 79 cs = some x) : ∃ s : ActS, cs = acL s ∧ AcI s := by
  have h0 := open_kt 4 79 [9, 3, 3, 3, 3, 3, 8, 3, 3, 3, 3, 3] n cs x (by kernel_rfl) h
  obtain ⟨s, r, rfl, hs, h1⟩ := fitT h0
  obtain ⟨f, r, rfl, hf, h2⟩ := fit_fr h1
  obtain ⟨d, r, rfl, hd, h3⟩ := fitI64 h2
  obtain ⟨m, r, rfl, hm, h4⟩ := fitI64 h3
  obtain rfl := fit0 h4
  exact ⟨⟨s, f, d, m⟩, rfl, hs, hf, hd, hm⟩
end Go.HL
