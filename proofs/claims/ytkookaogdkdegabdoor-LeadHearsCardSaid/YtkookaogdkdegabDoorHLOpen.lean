/- The heap logic: what the cells of a plain struct read as. No program in sight. Conditions: none. -/
import Derived.Test.YtkookaogdkdegabDoorHLTop
namespace Go.HL
open Go Go.ChangeShapes Go.WideShapes Go.ChangeAt Go.RowKit
set_option linter.unusedVariables false
set_option linter.unusedSimpArgs false

/-- the plain parts of a type: 0 to 7 an integer's kind, 8 bool, 9 text -/
def kFs (P : Program) (g : Nat → Option (List Nat)) : List Field → Nat → Option (List Nat)
  | [], _ => some []
  | f :: r, off => match g f.type with
    | some l => if f.offset = off ∧ P.cellsOf f.type = l.length then (match kFs P g r (off + l.length) with
      | some m => some (l ++ m)
      | none => none) else none
    | none => none
def kT (P : Program) : Nat → Nat → Option (List Nat)
  | 0, _ => none
  | d + 1, t => match P.underlying t with
    | some .bool => some [8]
    | some (.int k) => some [kindNo k]
    | some .string => some [9]
    | some (.struct fs) => (match kFs P (kT P d) fs.toList 0 with
      | some l => if P.cellsOf t = l.length then some l else none
      | none => none)
    | _ => none
def fitV : Nat → Value → Prop
  | 8, .bool _ => True
  | 9, .string s => s.size ≤ 9223372036854775807
  | k, .int k' n => kindNo k' = k ∧ loE k' ≤ n ∧ n ≤ hiE k'
  | _, _ => False
def FitK : List Nat → List Value → Prop
  | [], [] => True
  | k :: l, v :: cs => fitV k v ∧ FitK l cs
  | _, _ => False
theorem FitK.append : ∀ {a b : List Nat} {cs : List Value}, FitK a (cs.take a.length) → FitK b (cs.drop a.length) → FitK (a ++ b) cs
  | [], b, cs, _, h => by simpa using h
  | k :: a, b, [], h, _ => by simp [FitK] at h
  | k :: a, b, v :: cs, h, h2 => ⟨h.1, FitK.append h.2 (by simpa using h2)⟩
theorem lit_wf {k : IntKind} {n : Int} (h : (Lit.int k n).wf = true) : loE k ≤ n ∧ n ≤ hiE k := by
  cases k <;> simpa [Lit.wf, IntKind.min, IntKind.max, IntKind.signed, IntKind.bits, loE, hiE] using h
theorem open_kt {H : Type} {enc : TypeId × Value → H} {P : Program} {W : World} {base : Nat} {spare : Nat → Bool} {held : Bool} : ∀ (d t : Nat) (l : List Nat) (n : Nat) (cs : List Value) (x : DataW H × List MemPlace), kT P d t = some l → DataW.trod enc P W base spare held n t cs = some x → FitK l cs
  | 0, t, l, n, cs, x, h, _ => by simp [kT] at h
  | d + 1, t, l, n, cs, x, h, hx => by
    unfold kT at h
    split at h
    · rename_i hu
      cases h
      obtain ⟨b, rfl, -⟩ := DataW.trod_bool hu hx
      simp [FitK, fitV]
    · rename_i k hu
      cases h
      obtain ⟨z, rfl, -, hw⟩ := DataW.trod_int hu hx
      have := lit_wf hw
      refine ⟨?_, trivial⟩
      cases k <;> simp [fitV, kindNo, loE, hiE] at this ⊢ <;> exact this
    · rename_i hu
      cases h
      obtain ⟨s, rfl, -, hs⟩ := DataW.trod_string hu hx
      exact ⟨Nat.le_trans hs (by decide), trivial⟩
    · rename_i fs hu
      split at h
      · rename_i l' hl
        split at h
        · rename_i hc
          cases h
          obtain ⟨xs, m, -, -, hlen, hxl, hf⟩ := DataW.trod_struct hu hx
          rw [hc] at hlen
          have key : ∀ (fl : List Field) (j off : Nat) (l2 : List Nat), (∀ i f, fl[i]? = some f → fs[j + i]? = some f) → kFs P (kT P d) fl off = some l2 → off + l2.length = cs.length → FitK l2 (cs.drop off) := by
            intro fl
            induction fl with
            | nil =>
              intro j off l2 _ h2 ho
              simp [kFs] at h2
              subst h2
              simp at ho
              rw [List.drop_of_length_le (by omega)]
              trivial
            | cons f fl ih =>
              intro j off l2 hi h2 ho
              simp only [kFs] at h2
              split at h2
              · rename_i lf hlf
                split at h2
                · rename_i hco
                  split at h2
                  · rename_i lr hlr
                    cases h2
                    obtain ⟨e1, e2⟩ := hco
                    have h0 := hi 0 f rfl
                    have hxs : ∃ y, xs[j]? = some y := by
                      have : j < fs.size := (Array.getElem?_eq_some_iff.1 (by simpa using h0)).1
                      exact ⟨_, List.getElem?_eq_getElem (by omega)⟩
                    obtain ⟨y, hy⟩ := hxs
                    have h3 := hf j f (by simpa using h0)
                    rw [hy, e2] at h3
                    subst e1
                    have h4 := open_kt d f.type lf m _ _ hlf h3
                    refine FitK.append (by simpa using h4) ?_
                    rw [List.drop_drop]
                    exact ih (j + 1) _ lr (fun i g hg => by have := hi (i + 1) g (by simpa using hg); rwa [show j + 1 + i = j + (i + 1) by omega]) hlr (by simp at ho; omega)
                  · cases h2
                · cases h2
              · cases h2
          have := key fs.toList 0 0 l (fun i f hif => by simpa using hif) hl (by omega)
          simpa using this
        · cases h
      · cases h
    · cases h
theorem kindNo_lt (k : IntKind) : kindNo k < 8 := by cases k <;> decide
theorem fitI {k : Nat} {l : List Nat} {cs : List Value} (h : FitK (k :: l) cs) (hk : Nat.blt k 8 = true) : ∃ n r, cs = .int (kindOf k) n :: r ∧ (loE (kindOf k) ≤ n ∧ n ≤ hiE (kindOf k)) ∧ FitK l r := by
  have hk := Nat.le_of_ble_eq_true hk
  match cs with
  | [] => simp [FitK] at h
  | v :: r =>
    obtain ⟨h1, h2⟩ := h
    unfold fitV at h1
    split at h1
    · omega
    · omega
    · rename_i k' n
      obtain ⟨rfl, h3⟩ := h1
      exact ⟨n, r, by rw [kindOf_no], by rw [kindOf_no]; exact h3, h2⟩
    · exact h1.elim
theorem fitI64 {l : List Nat} {cs : List Value} (h : FitK (3 :: l) cs) : ∃ n r, cs = iv n :: r ∧ (-9223372036854775808 ≤ n ∧ n ≤ 9223372036854775807) ∧ FitK l r := fitI h rfl
theorem fitB {l : List Nat} {cs : List Value} (h : FitK (8 :: l) cs) : ∃ b r, cs = .bool b :: r ∧ FitK l r := by
  match cs with
  | [] => simp [FitK] at h
  | v :: r =>
    obtain ⟨h1, h2⟩ := h
    cases v <;> simp [fitV] at h1
    · exact ⟨_, r, rfl, h2⟩
    · rename_i k n; have := kindNo_lt k; omega
theorem fitT {l : List Nat} {cs : List Value} (h : FitK (9 :: l) cs) : ∃ s r, cs = bs s :: r ∧ s.length ≤ 9223372036854775807 ∧ FitK l r := by
  match cs with
  | [] => simp [FitK] at h
  | v :: r =>
    obtain ⟨h1, h2⟩ := h
    cases v <;> simp [fitV] at h1
    · rename_i k n; have := kindNo_lt k; omega
    rename_i s
    obtain ⟨⟨s⟩⟩ := s
    exact ⟨s, r, rfl, by simpa [ByteArray.size] using h1, h2⟩
theorem fit0 {cs : List Value} (h : FitK [] cs) : cs = [] := by
  match cs with
  | [] => rfl
  | v :: r => simp [FitK] at h
end Go.HL
