/- The heap logic: a guard of a drawn region that is split. No program in sight. Conditions: none. -/
import Derived.Test.YtkookaogdkdegabDoorHLMap
namespace Go.HL
open Go
set_option linter.unusedVariables false
/-- all of a slice at once: one block, every place -/
theorem Rd.all {α : Type} {enc : α → List Value} {sz : Nat} {L : Heap} {a : Option Addr} {xs : List α} (h : Rd enc sz L a xs) (h0 : 0 < xs.length) : ∃ b i c E fr, a = some ⟨b, i, none⟩ ∧ Has L b (.cells ⟨c⟩ E fr) ∧ ∀ k (hk : k < xs.length), Gets c (i + ((k : Int)).toNat * sz) (enc xs[k]) := by
  rcases h with h | ⟨b, i, c, E, fr, rfl, hb, hg⟩
  · rw [h] at h0; simp at h0
  · exact ⟨b, i, c, E, fr, rfl, hb, fun k hk => by simpa using hg k _ (List.getElem?_eq_getElem hk)⟩
/-- no literal truth value -/
structure Fresh (b : Bool) : Prop where
  any : True
theorem fresh_t : Fresh true := ⟨trivial⟩
theorem fresh_f : Fresh false := ⟨trivial⟩
theorem fresh_any (b : Bool) : Fresh b := ⟨trivial⟩
section d
variable {P : Program} {n : Nat} {ops : List Oper} {Q : Exit → Env → Heap → Prop} {Ss : List (Nat × Blk)} {rem rem' : List (Nat × Oper)} {ρ : Env} {L : Heap} {i : Nat}
theorem d_sp {t j : Nat} {q : Oper} {b wt : Bool} (k : Nat) (h1 : b = true → HD P n ops Q Ss rem ((t, .bool true) :: ρ) L) (h0 : b = false → HD P n ops Q Ss rem ((t, .bool false) :: ρ) L) (h00 : okv ρ = true := by exact rfl) (hp : pickS k rem = some ((i, q), rem') := by exact rfl) (hq : q.guard = some (j, wt) := by exact rfl) (hj : gdst ops j = some t := by exact rfl) (ht : lk ρ t = some (.bool b) := by exact rfl)
    (hb : Fresh b := by (fail_if_success (with_reducible exact fresh_t)); (fail_if_success (with_reducible exact fresh_f)); exact fresh_any _) : HD P n ops Q Ss rem ρ L := hd_split ht h1 h0
end d
end Go.HL
