/- What a text handed in reads as. Conditions: none. -/
import Derived.Test.YtkookaogdkdegabDoorCdFr
import Derived.ChangeMaps5
namespace Go.HL
open Go Go.Proofs Go.ChangeShapes Go.WideShapes Go.ChangeAt Go.RowKit
theorem open_tx {H : Type} {enc : TypeId × Value → H} {P : Program} {W : World} {base : Nat} {spare : Nat → Bool} {held : Bool} {r : Reach} {b0 : Nat} {t : TypeId} {v : Value} {d : DataW H} {ps : List MemPlace} (ht : P.underlying t = some .string) (hval : Value.okWide P W r b0 t v) (hd : DataW.Trod enc P W base spare held t v d ps) :
    ∃ s : List UInt8, v = bs s ∧ s.length ≤ 9223372036854775807 := by
  obtain ⟨s, rfl, -, -, h⟩ := Go.ChangeMaps.open_string ht hval hd
  obtain ⟨⟨s⟩⟩ := s
  exact ⟨s, rfl, by simpa [ByteArray.size, maxLen] using h⟩
end Go.HL
