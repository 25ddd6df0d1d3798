/- An error's value: none, one of the nine, or a fault around one; its number and place. Conditions: none. -/
import Derived.Test.YtkookaogdkdegabDoorErC
namespace Go.HL
open Go Go.Proofs
set_option linter.unusedVariables false
def FV (T : Nat) (E : Nat → Addr) (v : Value) (code at_ : Int) (c : List Blk) : Prop := (∃ e, okE e ∧ v = eV T E e ∧ code = cdN e ∧ (e = none ∨ at_ = -1) ∧ c = []) ∨ ∃ (pb k : Nat), List.elem k all9 = true ∧ v = .iface 144 (pt pb 0) ∧ code = k ∧ c = faC pb at_ T E (some k)
theorem FV.nil {T : Nat} {E : Nat → Addr} {at_ : Int} : FV T E .nilIface 0 at_ [] := .inl ⟨none, trivial, rfl, rfl, .inl rfl, rfl⟩
theorem FV.bare {T : Nat} {E : Nat → Addr} {k : Nat} (h : List.elem k all9 = true) : FV T E (eV T E (some k)) k (-1) [] := .inl ⟨some k, h, rfl, rfl, .inr rfl, rfl⟩
theorem FV.at {T : Nat} {E : Nat → Addr} {k : Nat} (h : List.elem k all9 = true) (pb : Nat) (x : Int) : FV T E (.iface 144 (pt pb 0)) k x (faC pb x T E (some k)) := .inr ⟨pb, k, h, rfl, rfl, rfl⟩
theorem FV.zero {T : Nat} {E : Nat → Addr} {v : Value} {at_ : Int} {c : List Blk} (h : FV T E v 0 at_ c) : v = .nilIface ∧ c = [] := by
  rcases h with ⟨e, he, rfl, hc, -, rfl⟩ | ⟨pb, k, hk, -, hc, -⟩
  · cases e with
    | none => exact ⟨rfl, rfl⟩
    | some k =>
      have : k = 0 := by simp only [cdN] at hc; omega
      subst this
      exact absurd (show List.elem 0 all9 = true from he) (by decide)
  · have : k = 0 := by omega
    subst this
    exact absurd hk (by decide)
end Go.HL
