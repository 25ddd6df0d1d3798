/- Texts laid into one, without what the claim does not use. Conditions: none. -/
import Derived.Test.YtkookaogdkdegacGreatDoorMStF
/-! CdSt -/
section
namespace Go.HL
open Go Go.Proofs Go.ChangeShapes Go.WideShapes Go.ChangeAt Go.RowKit
def StpI (a : StpS) : Prop := a.kd.length ≤ 9223372036854775807 ∧ Zwk a.s ∧ Zwk a.d ∧ Zwk a.n
theorem open_stp {H : Type} {enc : TypeId × Value → H} {W : World} {base : Nat} {spare : Nat → Bool} {held : Bool} (n : Nat) (cs : List Value) (x : DataW H × List MemPlace) (h : DataW.trod enc Tryz.prog W base spare held n 54 cs = some x) : ∃ s : StpS, cs = stpL s ∧ StpI s := by
 have h0 := Zsu 4 54 [9, 3, 3, 3] n cs x (by kernel_rfl) h
 obtain ⟨s, r, rfl, hs, h1⟩ := fitT h0
 obtain ⟨a, r, rfl, ha, h2⟩ := Zr3 h1
 obtain ⟨d, r, rfl, hd, h3⟩ := Zr3 h2
 obtain ⟨m, r, rfl, hm, h4⟩ := Zr3 h3
 obtain rfl := fit0 h4
 exact ⟨⟨s, a, d, m⟩, rfl, hs, ha, hd, hm⟩
end Go.HL
end
