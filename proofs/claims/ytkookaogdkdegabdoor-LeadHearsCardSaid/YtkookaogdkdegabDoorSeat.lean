/- The seat's table and the rules together. Conditions: none. -/
import Derived.Test.YtkookaogdkdegabDoorSeatT
import Derived.Test.YtkookaogdkdegabDoorHLMap
import Derived.Test.YtkookaogdkdegabDoorHLTop
namespace Go.HL
open Go
abbrev Er (T : Nat) (E : Nat → Addr) (cs : List Nat) (L : Heap) : Prop := Errs errTab T E cs L
def ic (x : Int) : List Value := [iv x]
/-- a state; a frame -/
structure St where
  ph : Int
  pr : Int
  att : Int
  deriving DecidableEq
def sc (s : St) : List Value := [iv s.ph, iv s.pr, iv s.att]
structure Fr where
  fr : Int
  to : Int
  dl : Int
  kd : Int
  att : Int
  yes : Bool
  s : St
  deriving DecidableEq
def fc (f : Fr) : List Value := [iv f.fr, iv f.to, iv f.dl, iv f.kd, iv f.att, .bool f.yes, iv f.s.ph, iv f.s.pr, iv f.s.att]
def zeroS : St := ⟨0, 0, 0⟩
def zeroF : Fr := ⟨0, 0, 0, 0, 0, false, zeroS⟩
end Go.HL
