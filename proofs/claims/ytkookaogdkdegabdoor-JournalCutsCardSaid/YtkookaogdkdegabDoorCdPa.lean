/- What a Put's cells read as. Conditions: none. -/
import Derived.Test.YtkookaogdkdegabDoorCdFa
import Derived.Test.YtkookaogdkdegabDoorJnI
namespace Go.HL
open Go Go.Proofs Go.ChangeShapes Go.WideShapes Go.ChangeAt Go.RowKit
theorem open_pac {H : Type} {enc : TypeId × Value → H} {W : World} {base : Nat} {spare : Nat → Bool} {held : Bool} (n : Nat) (cs : List Value) (x : DataW H × List MemPlace) (h : DataW.trod enc Tryd.prog W base spare held n 87 cs = some x) : ∃ s : PutA, cs = paL s ∧ okI s.cut := by
  have hf := open_kt 4 87 [3, 3, 3, 3, 3, 8] n cs x (by kernel_rfl) h
  obtain ⟨a, r, rfl, ha, h1⟩ := fitI64 hf
  obtain ⟨b, r, rfl, hb, h2⟩ := fitI64 h1
  obtain ⟨c, r, rfl, hc, h3⟩ := fitI64 h2
  obtain ⟨d, r, rfl, hd, h4⟩ := fitI64 h3
  obtain ⟨e, r, rfl, he, h5⟩ := fitI64 h4
  obtain ⟨f, r, rfl, h6⟩ := fitB h5
  obtain rfl := fit0 h6
  exact ⟨⟨a, ⟨b, c, d⟩, e, f⟩, rfl, he⟩
end Go.HL
