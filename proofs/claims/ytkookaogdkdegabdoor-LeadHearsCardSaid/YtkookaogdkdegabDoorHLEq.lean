/- The heap logic: two structs of plain parts, are they the same? No program in sight. Conditions: none. -/
import Derived.Test.YtkookaogdkdegabDoorHLDr
import Derived.Laws.StructEq
import Derived.ChangeKeysEq
namespace Go.HL
open Go
set_option linter.unusedVariables false
set_option linter.unusedSimpArgs false

/-- the parts are the same -/
def eqF : List Nat → List Value → List Value → Option Bool
  | [], [], [] => some true
  | 1 :: t, .bool a :: xs, .bool b :: ys => match eqF t xs ys with
    | some r => some ((a == b) && r)
    | none => none
  | 2 :: t, .int k a :: xs, .int k' b :: ys => bif kEq k k' then (match eqF t xs ys with
    | some r => some (decide (a = b) && r)
    | none => none) else none
  | 3 :: t, .string ⟨⟨a⟩⟩ :: xs, .string ⟨⟨b⟩⟩ :: ys => match eqF t xs ys with
    | some r => some (decide (a = b) && r)
    | none => none
  | _, _, _ => none
theorem eqF_len : ∀ {t : List Nat} {xs ys : List Value} {r : Bool}, eqF t xs ys = some r → xs.length = t.length ∧ ys.length = t.length := by
  intro t
  induction t with
  | nil =>
    intro xs ys r h
    unfold eqF at h
    split at h <;> simp_all
  | cons a t ih =>
    intro xs ys r h
    unfold eqF at h
    split at h
    · rename_i e; cases e
    · rename_i e
      cases e
      split at h
      · rename_i hr; have := ih hr; simp_all
      · cases h
    · rename_i e
      cases e
      obtain ⟨_, h⟩ := bif_some h
      split at h
      · rename_i hr; have := ih hr; simp_all
      · cases h
    · rename_i e
      cases e
      split at h
      · rename_i hr; have := ih hr; simp_all
      · cases h
    · cases h
theorem eqF_append : ∀ {t t2 : List Nat} {xs ys : List Value} {r : Bool}, eqF (t ++ t2) xs ys = some r → ∃ r1 r2, eqF t (xs.take t.length) (ys.take t.length) = some r1 ∧ eqF t2 (xs.drop t.length) (ys.drop t.length) = some r2 ∧ r = (r1 && r2) := by
  intro t
  induction t with
  | nil => intro t2 xs ys r h; exact ⟨true, r, by simp [eqF], by simpa using h, by simp⟩
  | cons a t ih =>
    intro t2 xs ys r h
    rw [List.cons_append] at h
    unfold eqF at h
    split at h
    · rename_i e; cases e
    · rename_i e
      cases e
      split at h
      · rename_i hr
        cases h
        obtain ⟨r1, r2, h1, h2, rfl⟩ := ih hr
        exact ⟨_, r2, by simp [eqF, h1]; rfl, by simpa using h2, by simp [Bool.and_assoc]⟩
      · cases h
    · rename_i e
      cases e
      obtain ⟨hk, h⟩ := bif_some h
      split at h
      · rename_i hr
        cases h
        obtain ⟨r1, r2, h1, h2, rfl⟩ := ih hr
        exact ⟨_, r2, by simp [eqF, h1, hk]; rfl, by simpa using h2, by simp [Bool.and_assoc]⟩
      · cases h
    · rename_i e
      cases e
      split at h
      · rename_i hr
        cases h
        obtain ⟨r1, r2, h1, h2, rfl⟩ := ih hr
        exact ⟨_, r2, by simp [eqF, h1]; rfl, by simpa using h2, by simp [Bool.and_assoc]⟩
      · cases h
    · cases h
section eq
variable {P : Program}
/-- a value of a type, by its cells -/
def ofC (P : Program) (t : Nat) (xs : List Value) (v : Value) : Prop := (isA P t = true ∧ v = .agg ⟨xs⟩) ∨ (isA P t = false ∧ xs = [v])
theorem flat_info {d t : Nat} {l : List Nat} (h : flatT P d t = some l) : ∃ i dsc, P.underlying t = some dsc ∧ P.info? t = some i ∧ (isA P t = true → i.size = l.length) ∧ (isA P t = false → l.length = 1) := by
  cases d with
  | zero => simp [flatT] at h
  | succ d =>
    unfold flatT at h
    unfold isA
    split at h
    · rename_i i hu hi; split at h <;> cases h; exact ⟨i, _, hu, hi, by simp [hu], fun _ => rfl⟩
    · rename_i i hu hi; split at h <;> cases h; exact ⟨i, _, hu, hi, by simp [hu], fun _ => rfl⟩
    · rename_i i hu hi; split at h <;> cases h; exact ⟨i, _, hu, hi, by simp [hu], fun _ => rfl⟩
    · rename_i fs i hu hi
      split at h
      · cases h
      · split at h
        · split at h
          · rename_i hs; cases h; exact ⟨i, _, hu, hi, fun _ => hs, by simp [hu]⟩
          · cases h
        · cases h
    · rename_i n e i hu hi
      split at h
      · split at h
        · rename_i hs; cases h; exact ⟨i, _, hu, hi, fun _ => by simp [hs.1], by simp [hu]⟩
        · cases h
      · cases h
    · cases h
theorem isAgg_run {t : Nat} {dsc : TypeDesc} (h : P.underlying t = some dsc) (w : World) : (isAgg t).run P w = .ok (isA P t) w := by
  unfold isA
  cases dsc <;> simp [isAgg, run_underlying h, h]
theorem part_run {d t off : Nat} {l : List Nat} {XS : List Value} (h : flatT P d t = some l) (hl : off + l.length ≤ XS.length) (w : World) : ∃ v, (part t ⟨XS⟩ off).run P w = .ok v w ∧ ofC P t ((XS.drop off).take l.length) v := by
  obtain ⟨i, dsc, hu, hi, h1, h2⟩ := flat_info h
  have ha := isAgg_run hu w
  cases hA : isA P t with
  | true =>
    rw [hA] at ha
    refine ⟨.agg ⟨(XS.drop off).take l.length⟩, ?_, .inl ⟨hA, rfl⟩⟩
    have hs : (sizeOf t).run P w = .ok l.length w := by simp [sizeOf, typeInfo, hi, h1 hA]
    simp [part, ha, hs, List.take_drop, List.extract_eq_take_drop]
  | false =>
    rw [hA] at ha
    have h3 := h2 hA
    have hlt : off < XS.length := by omega
    refine ⟨XS[off], ?_, .inr ⟨hA, ?_⟩⟩
    · simp [part, ha, hlt]
    · rw [h3, List.drop_eq_getElem_cons hlt]
      rfl
def EqRun (P : Program) (dd d : Nat) : Prop := ∀ (t : Nat) (l : List Nat) (xs ys : List Value) (x y : Value) (r : Bool) (w : World), flatT P d t = some l → ofC P t xs x → ofC P t ys y → eqF l xs ys = some r → (Op.equalIn dd t x y).run P w = .ok r w
theorem eqFields_run {dd d : Nat} (IH : EqRun P dd d) : ∀ (fs : List Field) (off : Nat) (l : List Nat) (XS YS : List Value) (r : Bool) (w : World), flatFs (flatT P d) fs off = some l → eqF l (XS.drop off) (YS.drop off) = some r → (Op.eqFields dd ⟨XS⟩ ⟨YS⟩ fs).run P w = .ok r w
  | [], off, l, XS, YS, r, w, hf, h => by
    simp [flatFs] at hf
    subst hf
    unfold eqF at h
    split at h
    · cases h; simp [Op.eqFields]
    all_goals simp_all
  | f :: fs, off, l, XS, YS, r, w, hf, h => by
    simp only [flatFs] at hf
    split at hf
    · rename_i l1 hl1
      split at hf
      · rename_i hc
        obtain ⟨hn, ho, hz⟩ := hc
        split at hf
        · rename_i m hm
          cases hf
          obtain ⟨r1, r2, e1, e2, rfl⟩ := eqF_append h
          have hlen := eqF_len h
          simp only [List.length_append, List.length_drop] at hlen
          obtain ⟨x, p1, f1⟩ := part_run (XS := XS) (off := off) hl1 (by omega) w
          obtain ⟨y, p2, f2⟩ := part_run (XS := YS) (off := off) hl1 (by omega) w
          have hr := IH f.type l1 _ _ x y r1 w hl1 f1 f2 e1
          have ih := eqFields_run IH fs (off + l1.length) m XS YS r2 w hm (by simpa [List.drop_drop] using e2)
          subst ho
          cases r1 <;> simp [Op.eqFields, hn, p1, p2, hr, ih]
        · cases hf
      · cases hf
    · cases hf
theorem eqItems_run {dd d e : Nat} (IH : EqRun P dd d) {l : List Nat} (hl : flatT P d e = some l) (hz : 0 < l.length) : ∀ (k i0 : Nat) (XS YS : List Value) (r : Bool) (w : World), eqF (List.replicate k l).flatten (XS.drop (i0 * l.length)) (YS.drop (i0 * l.length)) = some r → (Op.eqItems dd e l.length ⟨XS⟩ ⟨YS⟩ ((List.range k).map (· + i0))).run P w = .ok r w
  | 0, i0, XS, YS, r, w, h => by
    simp [eqF] at h
    unfold eqF at h
    split at h
    · cases h; simp [Op.eqItems]
    all_goals simp_all
  | k + 1, i0, XS, YS, r, w, h => by
    rw [List.replicate_succ, List.flatten_cons] at h
    obtain ⟨r1, r2, e1, e2, rfl⟩ := eqF_append h
    have hlen := eqF_len h
    simp only [List.length_append, List.length_drop] at hlen
    obtain ⟨x, p1, f1⟩ := part_run (XS := XS) (off := i0 * l.length) hl (by omega) w
    obtain ⟨y, p2, f2⟩ := part_run (XS := YS) (off := i0 * l.length) hl (by omega) w
    have hr := IH e l _ _ x y r1 w hl f1 f2 e1
    have ih := eqItems_run IH hl hz k (i0 + 1) XS YS r2 w (by simpa [List.drop_drop, Nat.add_mul] using e2)
    rw [List.range_succ_eq_map, List.map_cons, List.map_map]
    have e9 : ((fun x => x + i0) ∘ Nat.succ) = (· + (i0 + 1)) := by funext q; simp; omega
    rw [e9]
    cases r1 <;> simp [Op.eqItems, p1, p2, hr, ih]
theorem eq_leaf1 {t : Nat} {x y : Value} {r : Bool} {w : World} (dd : Nat) (hu : P.underlying t = some .bool) (he : eqF [1] [x] [y] = some r) : (Op.equalIn (dd + 1) t x y).run P w = .ok r w := by
  cases x <;> cases y <;> simp [eqF] at he
  subst he
  exact run_equalIn_bool w dd t _ _ hu
theorem eq_leaf2 {t : Nat} {k : IntKind} {x y : Value} {r : Bool} {w : World} (dd : Nat) (hu : P.underlying t = some (.int k)) (he : eqF [2] [x] [y] = some r) : (Op.equalIn (dd + 1) t x y).run P w = .ok r w := by
  cases x <;> cases y <;> simp [eqF] at he
  rename_i k1 a k2 b
  obtain ⟨hk, he⟩ := bif_some he
  cases he
  cases kEq_eq hk
  exact run_equalIn_int w dd t k1 k a b hu
theorem eq_leaf3 {t : Nat} {x y : Value} {r : Bool} {w : World} (dd : Nat) (hu : P.underlying t = some .string) (he : eqF [3] [x] [y] = some r) : (Op.equalIn (dd + 1) t x y).run P w = .ok r w := by
  cases x <;> cases y <;> try (simp [eqF] at he; done)
  rename_i a b
  obtain ⟨⟨a⟩⟩ := a
  obtain ⟨⟨b⟩⟩ := b
  simp [eqF] at he
  subst he
  rw [run_equalIn_string w dd t _ _ hu, ba_list, ba_list]
  by_cases e : a = b <;> simp [e]
theorem eqRun : ∀ (d q : Nat), EqRun P (q + d) d
  | 0, q => by intro t l xs ys x y r w h; simp [flatT] at h
  | d + 1, q => by
    intro t l xs ys x y r w h hx hy he
    have h0 := h
    unfold flatT at h
    split at h
    · rename_i i hu hi
      split at h
      · cases h
        have hA : isA P t = false := by simp [isA, hu]
        rcases hx with ⟨hx, _⟩ | ⟨_, rfl⟩
        · rw [hA] at hx; cases hx
        · rcases hy with ⟨hy, _⟩ | ⟨_, rfl⟩
          · rw [hA] at hy; cases hy
          · rw [show q + (d + 1) = q + d + 1 by omega]
            exact eq_leaf1 (q + d) hu he
      · cases h
    · rename_i i hu hi
      split at h
      · cases h
        have hA : isA P t = false := by simp [isA, hu]
        rcases hx with ⟨hx, _⟩ | ⟨_, rfl⟩
        · rw [hA] at hx; cases hx
        · rcases hy with ⟨hy, _⟩ | ⟨_, rfl⟩
          · rw [hA] at hy; cases hy
          · rw [show q + (d + 1) = q + d + 1 by omega]
            exact eq_leaf2 (q + d) hu he
      · cases h
    · rename_i i hu hi
      split at h
      · cases h
        have hA : isA P t = false := by simp [isA, hu]
        rcases hx with ⟨hx, _⟩ | ⟨_, rfl⟩
        · rw [hA] at hx; cases hx
        · rcases hy with ⟨hy, _⟩ | ⟨_, rfl⟩
          · rw [hA] at hy; cases hy
          · rw [show q + (d + 1) = q + d + 1 by omega]
            exact eq_leaf3 (q + d) hu he
      · cases h
    · rename_i fs i hu hi
      split at h
      · cases h
      · rename_i hs
        split at h
        · rename_i l' hl
          split at h
          · cases h
            have hA : isA P t = true := by simp [isA, hu]
            rcases hx with ⟨_, rfl⟩ | ⟨hx, _⟩
            · rcases hy with ⟨_, rfl⟩ | ⟨hy, _⟩
              · have hf : P.fieldsOf t = fs := by simp [Program.fieldsOf, hu]
                have := run_equalIn_struct (P := P) w (q + d) t ⟨xs⟩ ⟨ys⟩ (by rw [hf]; exact hu) (by simpa using hs)
                rw [show q + (d + 1) = q + d + 1 by omega, this, hf]
                exact eqFields_run (eqRun d q) fs.toList 0 l xs ys r w hl (by simpa using he)
              · rw [hA] at hy; cases hy
            · rw [hA] at hx; cases hx
          · cases h
        · cases h
    · rename_i n e i hu hi
      split at h
      · rename_i l' hl
        split at h
        · rename_i hc
          cases h
          have hA : isA P t = true := by simp [isA, hu]
          rcases hx with ⟨_, rfl⟩ | ⟨hx, _⟩
          · rcases hy with ⟨_, rfl⟩ | ⟨hy, _⟩
            · obtain ⟨ie, hie, hse⟩ := Option.map_eq_some_iff.1 hc.2.1
              have hce : P.cellsOf e = l'.length := by simp [Program.cellsOf, hie, hse]
              have := run_equalIn_array (P := P) w (q + d) ⟨xs⟩ ⟨ys⟩ hu hie
              rw [show q + (d + 1) = q + d + 1 by omega, this, hce]
              have h9 := eqItems_run (eqRun d q) hl hc.2.2 n 0 xs ys r w (by simpa using he)
              simpa using h9
            · rw [hA] at hy; cases hy
          · rw [hA] at hx; cases hx
        · cases h
      · cases h
    · cases h
/-- of two structs or arrays of plain parts -/
theorem q_eqA {S : Tab P} {ρ : Env} {L : Heap} {d : Option Tmp} {ty : TypeId} {pos : String} {af : Array Edge} {g : Option (Nat × Bool)} {t t' : Nat} {l : List Nat} {x y : Operand} {xs ys : List Value} {r : Bool}
    (hx : ev ρ x = some (.agg ⟨xs⟩)) (hy : ev ρ y = some (.agg ⟨ys⟩)) (ht : lkN S.eq t = some l) (he : eqF l xs ys = some r) : QOp P ⟨d, .binOp .eql t x y t', ty, pos, af, g⟩ ρ L (.bool r) := by
  have h := List.all_eq_true.1 S.eq_ok _ (lkN_mem ht)
  simp only [Bool.and_eq_true, decide_eq_true_eq, Bool.not_eq_true'] at h
  refine q_equal hx hy (fun w => run_eqGuard_agg w .eql t x y ⟨xs⟩ ⟨ys⟩ h.2) (fun w => ?_) rfl
  exact eqRun 8 9992 t l xs ys _ _ r w h.1.1 (.inl ⟨h.1.2, rfl⟩) (.inl ⟨h.1.2, rfl⟩) he
theorem q_neA {S : Tab P} {ρ : Env} {L : Heap} {d : Option Tmp} {ty : TypeId} {pos : String} {af : Array Edge} {g : Option (Nat × Bool)} {t t' : Nat} {l : List Nat} {x y : Operand} {xs ys : List Value} {r : Bool}
    (hx : ev ρ x = some (.agg ⟨xs⟩)) (hy : ev ρ y = some (.agg ⟨ys⟩)) (ht : lkN S.eq t = some l) (he : eqF l xs ys = some r) : QOp P ⟨d, .binOp .neq t x y t', ty, pos, af, g⟩ ρ L (.bool (!r)) := by
  have h := List.all_eq_true.1 S.eq_ok _ (lkN_mem ht)
  simp only [Bool.and_eq_true, decide_eq_true_eq, Bool.not_eq_true'] at h
  refine q_nequal hx hy (fun w => run_eqGuard_agg w .neq t x y ⟨xs⟩ ⟨ys⟩ h.2) (fun w => ?_) rfl
  exact eqRun 8 9992 t l xs ys _ _ r w h.1.1 (.inl ⟨h.1.2, rfl⟩) (.inl ⟨h.1.2, rfl⟩) he
end eq
end Go.HL
