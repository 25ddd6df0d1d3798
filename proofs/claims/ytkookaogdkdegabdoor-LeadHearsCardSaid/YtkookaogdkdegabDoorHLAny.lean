/- The heap logic: a region that draws its order and writes. No program in sight. Conditions: none. -/
import Derived.Test.YtkookaogdkdegabDoorHLEval
import Derived.Orders
namespace Go.HL
open Go
set_option linter.unusedVariables false
set_option linter.unusedSimpArgs false

def QN (R : Act → World → Prop) : Exit → Act → World → Prop
  | .normal, a, w => R a w
  | _, _, _ => False
/-- all that a frame holds -/
def full (n : Nat) (a : Act) : Env := (List.range n).map fun t => (t, a.tmps.getD t undef)
theorem lk_map (f : Nat → Value) : ∀ (l : List Nat) (t : Nat), lk (l.map fun t => (t, f t)) t = if t ∈ l then some (f t) else none
  | [], t => by simp [lk]
  | x :: r, t => by
    simp only [List.map_cons]
    by_cases e : x = t
    · subst e; rw [lk_cons_eq]; simp
    · rw [lk_cons_ne _ _ e, lk_map f r t]
      have : t ≠ x := fun h => e h.symm
      simp [this]
theorem agr_full {n : Nat} {a : Act} (hs : a.tmps.size = n) (hd : a.defers = []) : Agr n a (full n a) := by
  refine ⟨hs, hd, fun t v h => ?_⟩
  unfold full at h
  rw [lk_map] at h
  split at h
  · rename_i hm
    have hlt := List.mem_range.1 hm
    cases h
    rw [Array.getElem?_eq_getElem (by omega)]
    simp [Array.getD, hs, hlt]
  · cases h
theorem full_get {n : Nat} {a : Act} (hs : a.tmps.size = n) {t : Nat} {v : Value} (h : a.tmps[t]? = some v) : lk (full n a) t = some v := by
  obtain ⟨hlt, he⟩ := Array.getElem?_eq_some_iff.1 h
  unfold full
  rw [lk_map, if_pos (List.mem_range.2 (by omega))]
  simp [Array.getD, hlt, he]

def ELe (ρ ρ' : Env) : Prop := ∀ t v, lk ρ t = some v → lk ρ' t = some v
theorem Agr.le {n : Nat} {a : Act} {ρ ρ' : Env} (h : Agr n a ρ') (hl : ELe ρ ρ') : Agr n a ρ := ⟨h.size, h.defers, fun t v hv => h.get t v (hl t v hv)⟩

section any
variable (P : Program) (n : Nat) (ops : List Oper) (Q : Exit → Env → Heap → Prop)
def keepE (i0 i : Nat) : Bool := match ops[i]? with
  | some o => o.after.toList.all fun e => !(Region.binds .any e && Nat.beq e.on i0)
  | none => true
/-- what is kept for the operations that may come late -/
def ssOk (i : Nat) (L : Heap) : List (Nat × Blk) → Prop
  | [] => True
  | (i0, p) :: r => (keepE ops i0 i = false ∨ Has L p.1 p.2) ∧ ssOk i L r
def ssF (i : Nat) (Ss : List (Nat × Blk)) : List (Nat × Blk) := Ss.filter fun s => keepE ops s.1 i
def Fin (ρ : Env) (L : Heap) : Prop := ∀ k w a, Sat k w L → Agr n a ρ → post k n Q .normal a w
def HStep (i : Nat) (K : Env → Heap → Prop) (ρ : Env) (L : Heap) : Prop :=
  ∀ k w a, Sat k w L → Agr n a ρ → wpOp P ops.toArray (QN (post k n Q .normal)) i (fun a' w' => ∃ ρ' L', Agr n a' ρ' ∧ Sat k w' L' ∧ K ρ' L') a w
def HAny : Nat → List (Nat × Blk) → Array Bool → Env → Heap → Prop
  | 0, _, l, ρ, L => Region.ready .any ops.toArray l = [] ∧ Fin n Q ρ L
  | f + 1, Ss, l, ρ, L => (Region.ready .any ops.toArray l = [] → Fin n Q ρ L) ∧
    ∀ i ∈ Region.ready .any ops.toArray l, HStep P n ops Q i (fun ρ' L' => ssOk ops i L' Ss ∧ HAny f (ssF ops i Ss) (l.setIfInBounds i true) ρ' L') ρ L
end any

section any
variable {P : Program} {n : Nat} {ops : List Oper} {Q : Exit → Env → Heap → Prop}
theorem HStep.mono {i : Nat} {K K' : Env → Heap → Prop} {ρ ρ' : Env} {L : Heap} (hl : ELe ρ ρ') (hk : ∀ ρ L, K ρ L → K' ρ L) (h : HStep P n ops Q i K ρ L) : HStep P n ops Q i K' ρ' L :=
  fun k w a hs ha => wpOp_mono (fun a' w' ⟨ρ1, L1, h1, h2, h3⟩ => ⟨ρ1, L1, h1, h2, hk _ _ h3⟩) (h k w a hs (ha.le hl))
theorem HAny.sound : ∀ (f : Nat) (Ss : List (Nat × Blk)) (l : Array Bool) (ρ : Env) (L : Heap), HAny P n ops Q f Ss l ρ L → ∀ k w a, Sat k w L → Agr n a ρ → wpAny P .any ops.toArray (QN (post k n Q .normal)) f l a w
  | 0, _, _, _, _, h, k, w, a, hs, ha => ⟨h.1, h.2 k w a hs ha⟩
  | f + 1, Ss, l, ρ, L, h, k, w, a, hs, ha => ⟨fun h0 => h.1 h0 k w a hs ha, fun i hi => wpOp_mono (fun a' w' ⟨ρ', L', h1, h2, h3⟩ => HAny.sound f _ _ ρ' L' h3.2 k w' a' h2 h1) (h.2 i hi k w a hs ha)⟩
theorem Fin.le {ρ ρ' : Env} {L : Heap} (hl : ELe ρ ρ') (h : Fin n Q ρ L) : Fin n Q ρ' L := fun k w a hs ha => h k w a hs (ha.le hl)
theorem HAny.le : ∀ {f : Nat} {Ss : List (Nat × Blk)} {l : Array Bool} {ρ ρ' : Env} {L : Heap}, ELe ρ ρ' → HAny P n ops Q f Ss l ρ L → HAny P n ops Q f Ss l ρ' L
  | 0, _, _, _, _, _, hl, h => ⟨h.1, h.2.le hl⟩
  | f + 1, _, _, _, _, _, hl, h => ⟨fun h0 => (h.1 h0).le hl, fun i hi => (h.2 i hi).mono hl fun _ _ h => h⟩
/-- an operation that reads: its value wherever its blocks are -/
def QAt (P : Program) (ops : List Oper) (o : Oper) (ρ : Env) (F : List Blk) (v : Value) : Prop :=
  (guardE ops ρ o.guard = some true ∧ ∀ L, (∀ p ∈ F, Has L p.1 p.2) → QOp P o ρ L v) ∨ (guardE ops ρ o.guard = some false ∧ v = undef)
theorem ssOk_all {i : Nat} {L : Heap} : ∀ {Ss : List (Nat × Blk)}, ssOk ops i L Ss ↔ ∀ s ∈ Ss, keepE ops s.1 i = true → Has L s.2.1 s.2.2
  | [] => by simp [ssOk]
  | s :: r => by
    obtain ⟨i0, p⟩ := s
    simp only [ssOk, ssOk_all (Ss := r), List.mem_cons, forall_eq_or_imp]
    constructor
    · rintro ⟨h1, h2⟩
      refine ⟨fun hk => ?_, h2⟩
      rcases h1 with h1 | h1
      · rw [h1] at hk; cases hk
      · exact h1
    · rintro ⟨h1, h2⟩
      refine ⟨?_, h2⟩
      cases hk : keepE ops i0 i with
      | false => exact .inl rfl
      | true => exact .inr (h1 hk)
theorem guardE_le {ρ ρ' : Env} {g : Option (Nat × Bool)} {b : Bool} (hl : ∀ j wt t v, g = some (j, wt) → gdst ops j = some t → lk ρ t = some v → lk ρ' t = some v) (h : guardE ops ρ g = some b) : guardE ops ρ' g = some b := by
  unfold guardE at *
  split at h
  · exact h
  · rename_i j wt
    split at h
    · rename_i t hj
      split at h
      · rename_i c ht
        rw [hl j wt t _ rfl hj ht]
        exact h
      · rename_i v hv ht
        rw [hl j wt t _ rfl hj ht]
        obtain ⟨h1, h2⟩ := bif_some h
        split
        · rename_i heq
          cases heq
          exact absurd rfl (hv _)
        · rename_i heq
          cases heq
          rw [h1]
          exact h2
        · rename_i heq
          cases heq
      · cases h
    · cases h
theorem wanted_of_guardE {a : Act} {ρ : Env} (ha : Agr n a ρ) {o : Oper} {b : Bool} (h : guardE ops ρ o.guard = some b) : Region.wanted o (yielded ops.toArray a.tmps) = b := by
  unfold guardE at h
  split at h
  · rename_i hg
    cases h
    simp [Region.wanted, hg]
  · rename_i j wt hg
    split at h
    · rename_i t hj
      split at h
      · rename_i c ht
        rw [wanted_guard ha hg hj ht]
        cases c <;> cases wt <;> simp at h <;> subst h <;> rfl
      · rename_i v hv ht
        obtain ⟨h1, h2⟩ := bif_some h
        cases h2
        have := isUndef_eq h1
        subst this
        unfold gdst at hj
        simp [Region.wanted, hg, yielded, hj, ha.get _ _ ht, undef]
      · cases h
    · cases h
theorem QOp.le {o : Oper} {ρ ρ' : Env} {L : Heap} {v : Value} (hl : ∀ x ∈ o.op.operands, ∀ u, ev ρ x = some u → ev ρ' x = some u) (h : QOp P o ρ L v) : QOp P o ρ' L v :=
  fun k a he w hs => h k a (fun x hx u hu => he x hx u (hl x hx u hu)) w hs
/-- another operation goes first -/
theorem wpOp_swap {R : Act → World → Prop} {j : Nat} {oi oj : Oper} {d : Nat} {v : Value} (hj : ops.toArray[j]? = some oj) (hd : oi.dst = some d) (hap : oi.apart ops.toArray oj = true)
    (hsj : ∀ cs b, oj.op ≠ .select cs b) {K : Act → World → Prop} {a : Act} {w : World} (h : wpOp P ops.toArray (QN R) j K (a.put (some d) v) w) :
    wpOp P ops.toArray (QN R) j (fun a' w' => (∀ t ∈ oi.looksAt ops.toArray, a'.tmps[t]? = a.tmps[t]?) ∧ K (a'.put (some d) v) w') a w := by
  obtain ⟨h1, h2, h3⟩ := Oper.apart_spec hap
  rw [hd] at h1 h2
  have keep : ∀ (a0 : Act) (u : Value), (∀ t ∈ oi.looksAt ops.toArray, a0.tmps[t]? = a.tmps[t]?) → ∀ t ∈ oi.looksAt ops.toArray, (a0.put oj.dst u).tmps[t]? = a.tmps[t]? := by
    intro a0 u h0 t ht
    rw [← h0 t ht]
    cases hq : oj.dst with
    | none => rfl
    | some e =>
      have hne : e ≠ t := fun he => h3 e hq (he ▸ ht)
      simp [Act.put, Array.getElem?_setIfInBounds_ne hne]
  unfold wpOp at *
  simp only [hj] at *
  rw [wanted_put oj a (some d) v h1] at h
  split
  · rename_i hw
    simp only [hw, if_true] at h
    rcases h with h | ⟨_, ha, hb, hlets⟩
    case inr => exact hlets.elim
    refine .inl ?_
    unfold Oper.wp at *
    rw [execOp_put oj hsj a (some d) v h1] at h
    generalize (execOp a.eval oj).run P w = r at *
    cases r with
    | ok nx w' =>
      cases nx <;> simp only [Oper.upon] at h ⊢
      case value u => exact ⟨keep a u (fun _ _ => rfl), by rw [← Act.put_comm a v u h2]; exact h⟩
      case skip => exact ⟨keep a _ (fun _ _ => rfl), by rw [← Act.put_comm a v undef h2]; exact h⟩
      case defer dd =>
        refine ⟨keep { a with defers := dd :: a.defers } _ (fun _ _ => rfl), ?_⟩
        rw [← Act.put_comm _ v undef h2, ← Act.put_defers]
        exact h
      case enter f args =>
        refine Calls.mono h fun e w'' he => ?_
        cases e with
        | returned u => exact ⟨keep a u (fun _ _ => rfl), by rw [← Act.put_comm a v u h2]; exact he⟩
        | panicked c => exact he
        | outgrown => exact he
      case row row args => exact Rows.mono h fun u w'' he => ⟨keep a u (fun _ _ => rfl), by rw [← Act.put_comm a v u h2]; exact he⟩
    | halt x w' =>
      cases x <;> simp only [Oper.upon] at h ⊢
      case panic u => exact h
  · rename_i hw
    simp only [hw] at h
    exact ⟨keep a _ (fun _ _ => rfl), by rw [← Act.put_comm a v undef h2]; exact h⟩
theorem gdst_arr {j : Nat} : (ops.toArray[j]?).bind (·.dst) = gdst ops j := by simp [gdst]
theorem QAt.full {o : Oper} {ρ : Env} {F : List Blk} {v : Value} {a a' : Act} (h : QAt P ops o ρ F v) (ha : Agr n a ρ) (hs : a'.tmps.size = n) (he : ∀ t ∈ o.looksAt ops.toArray, a'.tmps[t]? = a.tmps[t]?) : QAt P ops o (full n a') F v := by
  have key : ∀ t ∈ o.looksAt ops.toArray, ∀ u, lk ρ t = some u → lk (HL.full n a') t = some u := fun t ht u hu => full_get hs (by rw [he t ht]; exact ha.get t u hu)
  have hg : ∀ b, guardE ops ρ o.guard = some b → guardE ops (HL.full n a') o.guard = some b := fun b hb => guardE_le (fun j wt t u hgu hj hu => key t (by
    unfold Oper.looksAt
    rw [hgu]
    simp only [gdst_arr, hj]
    simp) u hu) hb
  have ho : ∀ x ∈ o.op.operands, ∀ u, ev ρ x = some u → ev (HL.full n a') x = some u := fun x hx u hu => by
    cases x with
    | tmp t => exact key t (List.mem_append_left _ (List.mem_filterMap.2 ⟨.tmp t, by simpa using hx, rfl⟩)) u hu
    | const c => exact hu
    | global c => exact hu
    | func c => exact hu
  rcases h with ⟨h1, h2⟩ | ⟨h1, h2⟩
  · exact .inl ⟨hg _ h1, fun L hL => (h2 L hL).le ho⟩
  · exact .inr ⟨hg _ h1, h2⟩
theorem HAny.ss : ∀ {f : Nat} {Ss Ss' : List (Nat × Blk)} {l : Array Bool} {ρ : Env} {L : Heap}, (∀ s ∈ Ss', s ∈ Ss) → HAny P n ops Q f Ss l ρ L → HAny P n ops Q f Ss' l ρ L
  | 0, _, _, _, _, _, _, h => h
  | f + 1, Ss, Ss', l, ρ, L, hs, h => ⟨h.1, fun i hi => (h.2 i hi).mono (fun _ _ h => h) fun ρ' L' ⟨h1, h2⟩ => ⟨ssOk_all.2 fun s hm hk => ssOk_all.1 h1 s (hs s hm) hk, HAny.ss (fun s hm => by
      simp only [ssF, List.mem_filter] at hm ⊢
      exact ⟨hs s hm.1, hm.2⟩) h2⟩⟩
/-- what reads may be taken first -/
theorem hany_first {i d : Nat} {oi : Oper} {F : List Blk} {v : Value} (hi : ops.toArray[i]? = some oi) (hd : oi.dst = some d) (hdn : d < n) (hsel : ∀ (j : Nat) (o : Oper) cs b, ops.toArray[j]? = some o → o.op ≠ .select cs b) :
    ∀ (f : Nat) (Ss : List (Nat × Blk)) (l : Array Bool) (ρ : Env) (L : Heap),
      (∀ j oj, ops.toArray[j]? = some oj → j ≠ i → l.getD j true = false → (∀ e ∈ oj.after, Region.binds .any e = true → e.on ≠ i) → oi.apart ops.toArray oj = true) →
      i ∈ Region.ready .any ops.toArray l → QAt P ops oi ρ F v → (∀ p ∈ F, Has L p.1 p.2) → (∀ s ∈ Ss, Has L s.2.1 s.2.2) →
      HAny P n ops Q f (F.map (fun p => (i, p)) ++ Ss) (l.setIfInBounds i true) ((d, v) :: ρ) L → HAny P n ops Q (f + 1) Ss l ρ L := by
  have self : ∀ (Ss : List (Nat × Blk)) (l : Array Bool) (ρ : Env) (L : Heap) (K : Env → Heap → Prop), QAt P ops oi ρ F v → (∀ p ∈ F, Has L p.1 p.2) → K ((d, v) :: ρ) L → HStep P n ops Q i K ρ L := by
    intro Ss l ρ L K hq hF hK k w a hs ha
    unfold wpOp
    simp only [hi]
    rcases hq with ⟨hg, hq⟩ | ⟨hg, rfl⟩
    · rw [if_pos (wanted_of_guardE ha hg)]
      refine .inl (quiet_wp hs (hq L hF k a (fun x _ u hu => ha.ev hu) w hs) fun w' hs' => ?_)
      rw [hd]
      exact ⟨_, L, ha.put hdn v, hs', hK⟩
    · rw [if_neg (by rw [wanted_of_guardE ha hg]; simp)]
      rw [hd]
      exact ⟨_, L, ha.put hdn undef, hs, hK⟩
  intro f
  induction f with
  | zero =>
    intro Ss l ρ L hfree hr hq hF hS H
    refine ⟨fun h => (by rw [h] at hr; cases hr), fun j hj => ?_⟩
    by_cases hji : j = i
    · subst hji
      exact self Ss l ρ L _ hq hF ⟨ssOk_all.2 fun s hs _ => hS s hs, HAny.ss (fun s hm => List.mem_append_right _ (List.mem_filter.1 hm).1) H⟩
    · have := ready_mono hj hji
      rw [H.1] at this
      cases this
  | succ f ih =>
    intro Ss l ρ L hfree hr hq hF hS H
    refine ⟨fun h => (by rw [h] at hr; cases hr), fun j hj => ?_⟩
    by_cases hji : j = i
    · subst hji
      exact self Ss l ρ L _ hq hF ⟨ssOk_all.2 fun s hs _ => hS s hs, HAny.ss (fun s hm => List.mem_append_right _ (List.mem_filter.1 hm).1) H⟩
    · have h1 := H.2 j (ready_mono hj hji)
      obtain ⟨hjun, oj, hoj, hall⟩ := mem_ready.1 hj
      have hnot : ∀ e ∈ oj.after, Region.binds .any e = true → e.on ≠ i := fun e he hb heq => by
        have h1 := hall e he hb
        have h0 := (mem_ready.1 hr).1
        rw [heq] at h1
        rcases Nat.lt_or_ge i l.size with h' | h'
        · simp [h'] at h0 h1; rw [h0] at h1; cases h1
        · simp [Array.getElem?_eq_none h'] at h1
      have hkeep : keepE ops i j = true := by
        unfold keepE
        rw [show ops[j]? = some oj by simpa using hoj]
        simp only [List.all_eq_true, Bool.not_eq_true', Bool.and_eq_false_iff]
        intro e he
        by_cases hb : Region.binds .any e = true
        · refine .inr ?_
          have := hnot e (Array.mem_toList_iff.1 he) hb
          cases hbq : Nat.beq e.on i with
          | false => rfl
          | true => exact absurd (Nat.eq_of_beq_eq_true hbq) this
        · exact .inl (by simpa using hb)
      intro k w a hs ha
      have h2 := wpOp_swap (d := d) (v := v) hoj hd (hfree j oj hoj hji hjun hnot) (fun cs b => hsel j oj cs b hoj) (h1 k w (a.put (some d) v) hs (ha.put hdn v))
      refine wpOp_mono (fun a' w' h3 => ?_) h2
      obtain ⟨hsame, ρ', L', ha', hs', hss, hH⟩ := h3
      have hsz : a'.tmps.size = n := by
        have := ha'.size
        simpa [Act.put] using this
      have hfree' : ∀ q oq, ops.toArray[q]? = some oq → q ≠ i → (l.setIfInBounds j true).getD q true = false → (∀ e ∈ oq.after, Region.binds .any e = true → e.on ≠ i) → oi.apart ops.toArray oq = true := fun q oq hq hqi hun hno => by
        refine hfree q oq hq hqi ?_ hno
        by_cases hjk : j = q
        · subst hjk; exact hjun
        · rw [getD_set_ne true hjk] at hun; exact hun
      have hss' := ssOk_all.1 hss
      refine ⟨full n a', L', agr_full hsz (by have := ha'.defers; simpa [Act.put] using this), hs', ssOk_all.2 fun s hm hk => hss' s (List.mem_append_right _ hm) hk, ?_⟩
      refine ih (ssF ops j Ss) (l.setIfInBounds j true) (full n a') L' hfree' (ready_mono hr (Ne.symm hji)) (hq.full ha hsz hsame) (fun p hp => hss' (i, p) (List.mem_append_left _ (List.mem_map_of_mem hp)) hkeep)
        (fun s hm => hss' s (List.mem_append_right _ (List.mem_filter.1 hm).1) (List.mem_filter.1 hm).2) ?_
      rw [Array.setIfInBounds_comm _ _ hji]
      refine HAny.ss (fun s hm => ?_) (HAny.le (fun t u hu => ?_) hH)
      · simp only [ssF, List.mem_filter, List.mem_append, List.mem_map] at hm ⊢
        rcases hm with ⟨p, hp, rfl⟩ | hm
        · exact ⟨.inl ⟨p, hp, rfl⟩, hkeep⟩
        · exact ⟨.inr hm.1, hm.2⟩
      · have hg := ha'.get t u hu
        by_cases e : d = t
        · subst e
          rw [lk_cons_eq]
          have hlt : d < a'.tmps.size := by omega
          simp [Act.put, Array.getElem?_setIfInBounds, hlt] at hg
          exact congrArg some hg
        · rw [lk_cons_ne _ _ e]
          simp [Act.put, Array.getElem?_setIfInBounds, e] at hg
          exact full_get hsz hg
end any
end Go.HL
