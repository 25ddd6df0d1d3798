/- What a frame handed in reads as. Conditions: none. -/
import Derived.Test.YtkookaogdkdegabDoorCdTx
import Derived.Test.YtkookaogdkdegabDoorLayB
import Derived.Test.YtkookaogdkdegabDoorCdLv
namespace Go.HL
set_option maxRecDepth 100000
open Go Go.Proofs Go.ChangeShapes Go.WideShapes Go.ChangeAt Go.RowKit
theorem fr_struct : ∃ fs, Tryd.prog.underlying 45 = some (.struct fs) := ⟨_, Tryd.underlying45⟩
theorem open_fra {H : Type} {enc : TypeId × Value → H} {W : World} {base : Nat} {spare : Nat → Bool} {held : Bool} {r : Reach} {b0 : Nat} {v : Value} {d : DataW H} {ps : List MemPlace} (hval : Value.okWide Tryd.prog W r b0 45 v) (hd : DataW.Trod enc Tryd.prog W base spare held 45 v d ps) : ∃ f : Fr, v = .agg ⟨fc f⟩ ∧ FrI f := by
  obtain ⟨fs, ht⟩ := fr_struct
  obtain ⟨cs, rfl, hn⟩ := okWide_struct ht hval
  obtain ⟨fuel, hf⟩ := hd
  obtain ⟨f, e, hi⟩ := open_fr _ _ _ hf
  refine ⟨f, ?_, hi⟩
  obtain ⟨cs⟩ := cs
  have e2 : cs = fc f := by simpa [Value.cells] using e
  rw [e2]
end Go.HL
