/- The heap logic: a region that draws its order, operation by operation. No program in sight. Conditions: none. -/
import Derived.Test.YtkookaogdkdegabDoorHLAny
namespace Go.HL
open Go
set_option linter.unusedVariables false
set_option linter.unusedSimpArgs false

structure Unl (ops : List Oper) (l : Array Bool) (rem : List (Nat × Oper)) : Prop where
  size : l.size = ops.length
  nodup : (rem.map (·.1)).Nodup
  iff : ∀ j o, (j, o) ∈ rem ↔ (ops[j]? = some o ∧ l.getD j true = false)
def HD (P : Program) (n : Nat) (ops : List Oper) (Q : Exit → Env → Heap → Prop) (Ss : List (Nat × Blk)) (rem : List (Nat × Oper)) (ρ : Env) (L : Heap) : Prop :=
  (∀ s ∈ Ss, Has L s.2.1 s.2.2) → ∀ l, Unl ops l rem → HAny P n ops Q rem.length Ss l ρ L
def pickAt : Nat → List (Nat × Oper) → Option ((Nat × Oper) × List (Nat × Oper))
  | _, [] => none
  | 0, x :: r => some (x, r)
  | k + 1, x :: r => match pickAt k r with
    | some (y, r') => some (y, x :: r')
    | none => none
theorem pickAt_spec : ∀ {k : Nat} {l : List (Nat × Oper)} {x : Nat × Oper} {r : List (Nat × Oper)}, pickAt k l = some (x, r) → ∃ a b, l = a ++ x :: b ∧ r = a ++ b
  | k, [], _, _, h => by cases k <;> simp [pickAt] at h
  | 0, x :: r, _, _, h => by simp [pickAt] at h; obtain ⟨rfl, rfl⟩ := h; exact ⟨[], _, rfl, rfl⟩
  | k + 1, y :: l, x, r, h => by
    simp only [pickAt] at h
    split at h
    · rename_i z r' hz
      simp at h
      obtain ⟨rfl, rfl⟩ := h
      obtain ⟨a, b, rfl, rfl⟩ := pickAt_spec hz
      exact ⟨y :: a, b, rfl, rfl⟩
    · cases h
def isAct (o : Oper) : Bool := match o.op with
  | .alloc _ | .box _ _ | .store _ _ _ | .buildSlice _ _ _ | .makeSlice _ _ _ | .makeMap _ _ | .mapUpdate _ _ _ _ | .insert _ _ _ _ | .makeChan _ _ => true
  | .call ⟨.builtin .append, _, _⟩ => true
  | .call ⟨.builtin .copy, _, _⟩ => true
  | .call ⟨.builtin .clear, _, _⟩ => true
  | _ => false
def isLoud (o : Oper) : Bool := match o.op with
  | .call ⟨.value _, _, _⟩ => true
  | .call ⟨.invoke _ _, _, _⟩ => true
  | _ => isAct o
/-- the first that is loud, or is not -/
def pickK (b : Bool) : List (Nat × Oper) → Option ((Nat × Oper) × List (Nat × Oper))
  | [] => none
  | x :: r => bif (match isLoud x.2, b with | true, true => true | false, false => true | _, _ => false) then some (x, r) else match pickK b r with
    | some (y, r') => some (y, x :: r')
    | none => none
theorem pickK_spec {b : Bool} : ∀ {l : List (Nat × Oper)} {x : Nat × Oper} {r : List (Nat × Oper)}, pickK b l = some (x, r) → ∃ a b, l = a ++ x :: b ∧ r = a ++ b
  | [], _, _, h => by simp [pickK] at h
  | y :: l, x, r, h => by
    simp only [pickK] at h
    cases hc : (match isLoud y.2, b with | true, true => true | false, false => true | _, _ => false) with
    | true =>
      rw [hc] at h
      simp at h
      obtain ⟨rfl, rfl⟩ := h
      exact ⟨[], _, rfl, rfl⟩
    | false =>
      rw [hc] at h
      simp only [cond_false] at h
      split at h
      · rename_i z r' hz
        simp at h
        obtain ⟨rfl, rfl⟩ := h
        obtain ⟨a, b, rfl, rfl⟩ := pickK_spec hz
        exact ⟨y :: a, b, rfl, rfl⟩
      · cases h
/-- 100: the first quiet one; 101: the first loud one; else by its place -/
def pickS (k : Nat) (l : List (Nat × Oper)) : Option ((Nat × Oper) × List (Nat × Oper)) :=
  bif Nat.beq k 100 then pickK false l else bif Nat.beq k 101 then pickK true l else pickAt k l
theorem pickS_spec {k : Nat} {l : List (Nat × Oper)} {x : Nat × Oper} {r : List (Nat × Oper)} (h : pickS k l = some (x, r)) : ∃ a b, l = a ++ x :: b ∧ r = a ++ b := by
  unfold pickS at h
  cases h1 : Nat.beq k 100 with
  | true => rw [h1] at h; exact pickK_spec h
  | false =>
    rw [h1] at h
    cases h2 : Nat.beq k 101 with
    | true => rw [h2] at h; exact pickK_spec h
    | false => rw [h2] at h; exact pickAt_spec h
def readyR (m : Nat) (rem : List (Nat × Oper)) (o : Oper) : Bool := o.after.toList.all fun e => !(Region.binds .any e) || (Nat.blt e.on m && rem.all fun q => !Nat.beq q.1 e.on)
def waitsOn (o : Oper) (i : Nat) : Bool := o.after.toList.any fun e => Region.binds .any e && Nat.beq e.on i
def chkQ (ops : List Oper) (rem : List (Nat × Oper)) (i : Nat) (o : Oper) : Bool :=
  readyR ops.length ((i, o) :: rem) o && (rem.all fun q => waitsOn q.2 i || o.apart ops.toArray q.2) && Region.noSelect ops.toArray
def chkA (ops : List Oper) (rem : List (Nat × Oper)) (i : Nat) (o : Oper) : Bool :=
  readyR ops.length ((i, o) :: rem) o && rem.all fun q => !readyR ops.length ((i, o) :: rem) q.2
section hd
variable {P : Program} {n : Nat} {ops : List Oper} {Q : Exit → Env → Heap → Prop} {Ss : List (Nat × Blk)} {rem rem' : List (Nat × Oper)} {ρ : Env} {L : Heap}
theorem beq_no {a b : Nat} (h : Nat.beq a b = false) : a ≠ b := fun e => by subst e; simp at h
theorem Unl.ready {l : Array Bool} {i : Nat} {o : Oper} (hu : Unl ops l rem) (hm : (i, o) ∈ rem) (hr : readyR ops.length rem o = true) : i ∈ Region.ready .any ops.toArray l := by
  obtain ⟨h1, h2⟩ := (hu.iff i o).1 hm
  refine mem_ready.2 ⟨h2, o, by simpa using h1, fun e he hb => ?_⟩
  have := List.all_eq_true.1 hr e (Array.mem_toList_iff.2 he)
  rw [hb] at this
  simp only [Bool.not_true, Bool.false_or, Bool.and_eq_true] at this
  have hlt : e.on < ops.length := Nat.le_of_ble_eq_true this.1
  have hnot : ∀ q ∈ rem, q.1 ≠ e.on := fun q hq => by
    have h3 := List.all_eq_true.1 this.2 q hq
    exact beq_no (by simpa using h3)
  have hlt' : e.on < l.size := by rw [hu.size]; exact hlt
  cases hv : l.getD e.on true with
  | false => exact absurd rfl (hnot (e.on, ops[e.on]) ((hu.iff _ _).2 ⟨List.getElem?_eq_getElem hlt, hv⟩))
  | true => simpa [Array.getD, hlt'] using hv
theorem Unl.readyR_of {l : Array Bool} {i : Nat} (hu : Unl ops l rem) (hi : i ∈ Region.ready .any ops.toArray l) : ∃ o, (i, o) ∈ rem ∧ readyR ops.length rem o = true := by
  obtain ⟨h1, o, h2, h3⟩ := mem_ready.1 hi
  refine ⟨o, (hu.iff i o).2 ⟨by simpa using h2, h1⟩, List.all_eq_true.2 fun e he => ?_⟩
  cases hb : Region.binds .any e with
  | false => rfl
  | true =>
    have h4 := h3 e (Array.mem_toList_iff.1 he) hb
    have hlt : e.on < l.size := by
      rcases Nat.lt_or_ge e.on l.size with h | h
      · exact h
      · simp [Array.getElem?_eq_none h] at h4
    simp only [Bool.not_true, Bool.false_or, Bool.and_eq_true]
    refine ⟨Nat.ble_eq_true_of_le (by have := hu.size; omega), List.all_eq_true.2 fun q hq => ?_⟩
    have := ((hu.iff q.1 q.2).1 hq).2
    cases hbq : Nat.beq q.1 e.on with
    | false => rfl
    | true =>
      have e1 := Nat.eq_of_beq_eq_true hbq
      rw [e1] at this
      simp [Array.getD, hlt] at h4 this
      rw [h4] at this
      cases this
theorem Unl.drop {l : Array Bool} {i : Nat} {o : Oper} {a b : List (Nat × Oper)} (hu : Unl ops l (a ++ (i, o) :: b)) : Unl ops (l.setIfInBounds i true) (a ++ b) := by
  have hnd := hu.nodup
  simp only [List.map_append, List.map_cons] at hnd
  have hd := List.nodup_append.1 hnd
  have hd2 := List.nodup_cons.1 hd.2.1
  refine ⟨by simp [hu.size], ?_, fun j q => ?_⟩
  · simp only [List.map_append]
    refine List.nodup_append.2 ⟨hd.1, hd2.2, fun x hx y hy => hd.2.2 x hx y (List.mem_cons_of_mem _ hy)⟩
  · by_cases e : i = j
    · subst e
      constructor
      · intro hm
        exfalso
        rcases List.mem_append.1 hm with hm | hm
        · exact hd.2.2 i (List.mem_map_of_mem hm) i (by simp) rfl
        · exact hd2.1 (List.mem_map_of_mem hm)
      · rintro ⟨h1, h2⟩
        have hlt : i < l.size := by rw [hu.size]; exact (List.getElem?_eq_some_iff.1 h1).1
        simp [Array.getD, hlt] at h2
    · rw [getD_set_ne true e, ← hu.iff j q]
      simp only [List.mem_append, List.mem_cons, Prod.mk.injEq]
      constructor
      · rintro (h | h)
        · exact .inl h
        · exact .inr (.inr h)
      · rintro (h | ⟨h, _⟩ | h)
        · exact .inl h
        · exact absurd h.symm e
        · exact .inr h
theorem readyR_perm {m : Nat} {a b : List (Nat × Oper)} {x : Nat × Oper} {o : Oper} : readyR m (x :: (a ++ b)) o = readyR m (a ++ x :: b) o := by
  unfold readyR
  congr 1
  funext e
  congr 2
  simp only [List.all_cons, List.all_append]
  cases (a.all fun q => !Nat.beq q.1 e.on) <;> cases (!Nat.beq x.1 e.on) <;> rfl
theorem waitsOn_of {o : Oper} {i : Nat} (h : ∀ e ∈ o.after, Region.binds .any e = true → e.on ≠ i) : waitsOn o i = false := by
  unfold waitsOn
  rw [List.any_eq_false]
  intro e he
  simp only [Bool.and_eq_true, not_and]
  intro hb hq
  exact h e (Array.mem_toList_iff.1 he) hb (Nat.eq_of_beq_eq_true hq)
theorem hd_nil (h : Q .normal ρ L) : HD P n ops Q Ss [] ρ L := fun hS l hu => by
  refine ⟨?_, fun k w a hs ha => ⟨ρ, L, ha, hs, h⟩⟩
  cases hr : Region.ready .any ops.toArray l with
  | nil => rfl
  | cons i r =>
    obtain ⟨o, hm, _⟩ := hu.readyR_of (i := i) (by rw [hr]; exact .head _)
    cases hm
theorem hd_q {k i d : Nat} {o : Oper} {F : List Blk} {v : Value} (hp : pickS k rem = some ((i, o), rem')) (hc : chkQ ops rem' i o = true) (hd : o.dst = some d) (hn : Nat.blt d n = true) (hq : QAt P ops o ρ F v) (hF : ∀ p ∈ F, Has L p.1 p.2)
    (hr : HD P n ops Q (F.map (fun p => (i, p)) ++ Ss) rem' ((d, v) :: ρ) L) : HD P n ops Q Ss rem ρ L := fun hS l hu => by
  obtain ⟨a, b, rfl, rfl⟩ := pickS_spec hp
  simp only [chkQ, Bool.and_eq_true] at hc
  obtain ⟨⟨c1, c2⟩, c3⟩ := hc
  rw [readyR_perm] at c1
  have hm : (i, o) ∈ a ++ (i, o) :: b := by simp
  obtain ⟨h1, h2⟩ := (hu.iff i o).1 hm
  have hlen : (a ++ (i, o) :: b).length = (a ++ b).length + 1 := by simp; omega
  rw [hlen]
  refine hany_first (by simpa using h1) hd (Nat.le_of_ble_eq_true hn) (Region.noSelect_spec c3) _ _ _ _ _ (fun j oj hj hji hun hno => ?_) (hu.ready hm c1) hq hF hS (hr (fun s hs => ?_) _ hu.drop)
  · have hmj : (j, oj) ∈ a ++ b := by
      have := (hu.iff j oj).2 ⟨by simpa using hj, hun⟩
      simp only [List.mem_append, List.mem_cons, Prod.mk.injEq] at this ⊢
      rcases this with h | ⟨h, _⟩ | h
      · exact .inl h
      · exact absurd h hji
      · exact .inr h
    have := List.all_eq_true.1 c2 _ hmj
    rw [waitsOn_of hno] at this
    simpa using this
  · rcases List.mem_append.1 hs with hs | hs
    · obtain ⟨p, hp, rfl⟩ := List.mem_map.1 hs
      exact hF p hp
    · exact hS s hs
/-- behind an action -/
def actQ (P : Program) (n : Nat) (ops : List Oper) (Q : Exit → Env → Heap → Prop) (i : Nat) (Ss : List (Nat × Blk)) (rem : List (Nat × Oper)) : Exit → Env → Heap → Prop
  | .normal, ρ, L => ssOk ops i L Ss ∧ HD P n ops Q (ssF ops i Ss) rem ρ L
  | _, _, _ => False
theorem oper_wp_only {o : Oper} {a : Act} {w : World} {K : Act → World → Prop} {Q' : Exit → Act → World → Prop} {R : Act → World → Prop} (hq : ∀ e a w, Q' e a w → e = .normal) (h : o.wp P a w K Q') : o.wp P a w K (QN R) := by
  unfold Oper.wp at *
  generalize (execOp a.eval o).run P w = r at *
  cases r with
  | ok nx w' =>
    cases nx <;> simp only [Oper.upon] at h ⊢
    all_goals first
      | exact h
      | skip
    refine Calls.mono h fun e w'' he => ?_
    cases e with
    | returned u => exact he
    | panicked c => cases hq _ _ _ he
    | outgrown =>
      obtain ⟨a, w, hx⟩ := he
      cases hq _ _ _ hx
  | halt x w' =>
    cases x <;> simp only [Oper.upon] at h ⊢
    case panic u => cases hq _ _ _ h
theorem hd_act {k i : Nat} {o : Oper} (hp : pickS k rem = some ((i, o), rem')) (hc : chkA ops rem' i o = true) (h : HO P n ops (actQ P n ops Q i Ss rem') [o] ρ L) : HD P n ops Q Ss rem ρ L := fun hS l hu => by
  obtain ⟨a, b, rfl, rfl⟩ := pickS_spec hp
  simp only [chkA, Bool.and_eq_true] at hc
  obtain ⟨c1, c2⟩ := hc
  rw [readyR_perm] at c1
  have hm : (i, o) ∈ a ++ (i, o) :: b := by simp
  obtain ⟨h1, h2⟩ := (hu.iff i o).1 hm
  have hlen : (a ++ (i, o) :: b).length = (a ++ b).length + 1 := by simp; omega
  rw [hlen]
  have hrd := hu.ready hm c1
  refine ⟨fun h0 => (by rw [h0] at hrd; cases hrd), fun j hj => ?_⟩
  obtain ⟨oj, hmj, hrj⟩ := hu.readyR_of hj
  have hji : j = i := by
    simp only [List.mem_append, List.mem_cons, Prod.mk.injEq] at hmj
    have key : (j, oj) ∈ a ++ b → False := fun hx => by
      have := List.all_eq_true.1 c2 _ hx
      rw [readyR_perm, hrj] at this
      cases this
    rcases hmj with h | ⟨h, _⟩ | h
    · exact (key (List.mem_append.2 (.inl h))).elim
    · exact h
    · exact (key (List.mem_append.2 (.inr h))).elim
  subst hji
  intro kk w ac hs ha
  have h3 := h kk w ac hs ha
  unfold wpList at h3
  have hnorm : ∀ e a1 w1, post kk n (actQ P n ops Q j Ss (a ++ b)) e a1 w1 → e = .normal := fun e a1 w1 hx => by
    obtain ⟨_, _, _, _, hx⟩ := hx
    cases e <;> first | rfl | exact hx.elim
  have fin : ∀ a1 w1, wpList P ops.toArray (post kk n (actQ P n ops Q j Ss (a ++ b))) [] a1 w1 → ∃ ρ' L', Agr n a1 ρ' ∧ Sat kk w1 L' ∧ ssOk ops j L' Ss ∧ HAny P n ops Q (a ++ b).length (ssF ops j Ss) (l.setIfInBounds j true) ρ' L' := fun a1 w1 hx => by
    obtain ⟨ρ', L', e1, e2, e3, e4⟩ := hx
    refine ⟨ρ', L', e1, e2, e3, e4 (fun s hs => ?_) _ hu.drop⟩
    have := List.mem_filter.1 hs
    exact ssOk_all.1 e3 s this.1 this.2
  unfold wpOp
  rw [show ops.toArray[j]? = some o by simpa using h1]
  simp only
  split
  · rename_i hw
    rw [if_pos hw] at h3
    rcases h3 with h3 | ⟨_, a1, w1, h3⟩
    · exact .inl (Oper.wp_mono fin (oper_wp_only hnorm h3))
    · cases hnorm _ _ _ h3
  · rename_i hw
    rw [if_neg hw] at h3
    exact fin _ _ h3
theorem hd_next {i : Nat} {Ss' : List (Nat × Blk)} (h1 : ssOk ops i L Ss) (hf : ssF ops i Ss = Ss') (h2 : HD P n ops Q Ss' rem ρ L) : actQ P n ops Q i Ss rem .normal ρ L := ⟨h1, hf ▸ h2⟩
theorem hd_split {t : Nat} {b : Bool} (ht : lk ρ t = some (.bool b)) (h1 : b = true → HD P n ops Q Ss rem ((t, .bool true) :: ρ) L) (h0 : b = false → HD P n ops Q Ss rem ((t, .bool false) :: ρ) L) : HD P n ops Q Ss rem ρ L := fun hS l hu => by
  have key : ∀ c, b = c → ELe ((t, .bool c) :: ρ) ρ := fun c hc x v hx => by
    subst hc
    by_cases e : t = x
    · subst e
      rw [lk_cons_eq] at hx
      rw [ht, hx]
    · rw [lk_cons_ne _ _ e] at hx
      exact hx
  cases hb : b with
  | true => exact (h1 hb hS l hu).le (key _ hb)
  | false => exact (h0 hb hS l hu).le (key _ hb)
def nums : List Nat := [0, 1, 2, 3, 4, 5, 6, 7, 8, 9, 10, 11, 12, 13, 14, 15, 16, 17, 18, 19, 20, 21, 22, 23, 24, 25, 26, 27, 28, 29, 30, 31, 32, 33, 34, 35, 36, 37, 38, 39, 40, 41, 42, 43, 44, 45, 46, 47, 48, 49, 50, 51, 52, 53, 54, 55, 56, 57, 58, 59]
def numE : List Nat → List Oper → (List (Nat × Oper) → Option (List (Nat × Oper))) → Option (List (Nat × Oper))
  | _, [], K => K []
  | k :: ks, o :: r, K => numE ks r fun l => K ((k, o) :: l)
  | [], _ :: _, _ => none
def numN : List Nat → List Oper → Option (List (Nat × Oper))
  | _, [] => some []
  | k :: ks, o :: r => (numN ks r).map ((k, o) :: ·)
  | [], _ :: _ => none
theorem numE_eq : ∀ (ks : List Nat) (l : List Oper) (K : List (Nat × Oper) → Option (List (Nat × Oper))), numE ks l K = (numN ks l).bind K
  | ks, [], K => by cases ks <;> simp [numE, numN]
  | [], _ :: _, K => by simp [numE, numN]
  | k :: ks, o :: r, K => by
    simp only [numE, numN, numE_eq ks r]
    cases numN ks r <;> rfl
theorem numN_spec : ∀ (ks : List Nat) (l : List Oper) (b : Nat) (rem : List (Nat × Oper)), (∀ i k, ks[i]? = some k → k = b + i) → numN ks l = some rem → (rem.map (·.1)).Nodup ∧ ∀ j o, (j, o) ∈ rem ↔ (b ≤ j ∧ l[j - b]? = some o)
  | ks, [], b, rem, _, h => by cases ks <;> (simp [numN] at h; subst h; simp)
  | [], _ :: _, _, _, _, h => by simp [numN] at h
  | k :: ks, o :: r, b, rem, hk, h => by
    simp only [numN, Option.map_eq_some_iff] at h
    obtain ⟨l', hl, rfl⟩ := h
    have hk0 : k = b := by simpa using hk 0 k rfl
    obtain ⟨h1, h2⟩ := numN_spec ks r (b + 1) l' (fun i q hq => by have := hk (i + 1) q (by simpa using hq); omega) hl
    subst hk0
    refine ⟨?_, fun j q => ?_⟩
    · rw [List.map_cons, List.nodup_cons]
      refine ⟨fun hm => ?_, h1⟩
      obtain ⟨p, hp, e⟩ := List.mem_map.1 hm
      have := (h2 p.1 p.2).1 hp
      simp only at e
      omega
    · simp only [List.mem_cons, Prod.mk.injEq, h2]
      constructor
      · rintro (⟨rfl, rfl⟩ | ⟨e1, e2⟩)
        · simp
        · refine ⟨by omega, ?_⟩
          rw [show j - k = (j - (k + 1)) + 1 by omega]
          simpa using e2
      · rintro ⟨e1, e2⟩
        by_cases e : j = k
        · subst e
          simp at e2
          exact .inl ⟨rfl, e2.symm⟩
        · refine .inr ⟨by omega, ?_⟩
          rw [show j - k = (j - (k + 1)) + 1 by omega] at e2
          simpa using e2
theorem numN_len : ∀ (ks : List Nat) (l : List Oper) (rem : List (Nat × Oper)), numN ks l = some rem → rem.length = l.length
  | ks, [], rem, h => by cases ks <;> (simp [numN] at h; subst h; rfl)
  | [], _ :: _, _, h => by simp [numN] at h
  | k :: ks, o :: r, rem, h => by
    simp only [numN, Option.map_eq_some_iff] at h
    obtain ⟨l', hl, rfl⟩ := h
    simp [numN_len ks r l' hl]
/-- a region that draws its order -/
theorem hw_draw {id : Nat} (S : Tab P) (h0 : numE nums ops some = some rem) (h : HD P n ops Q [] rem ρ L) : HW P n (.region id ops.toArray true) Q ρ L := by
  intro k w a hs ha
  rw [numE_eq] at h0
  have h0' : numN nums ops = some rem := by
    cases hx : numN nums ops with
    | none => rw [hx] at h0; cases h0
    | some r => rw [hx] at h0; exact h0
  obtain ⟨h1, h2⟩ := numN_spec nums ops 0 rem (fun i q hq => by
    have hlt : i < 60 := (List.getElem?_eq_some_iff.1 hq).1
    have : ∀ i, i < 60 → nums[i]? = some i := by decide
    rw [this i hlt] at hq
    cases hq
    omega) h0'
  have hlen := numN_len _ _ _ h0'
  have hu : Unl ops (Array.replicate ops.length false) rem := ⟨by simp, h1, fun j o => by
    rw [h2 j o]
    simp only [Nat.zero_le, true_and, Nat.sub_zero]
    constructor
    · intro hj
      have hlt := (List.getElem?_eq_some_iff.1 hj).1
      exact ⟨hj, by simp [Array.getD, hlt]⟩
    · exact fun h => h.1⟩
  have hx := HAny.sound _ _ _ _ _ (h (fun s hs => by cases hs) _ hu) k w.drew a hs.drew ha
  rw [hlen] at hx
  refine Code.wp_mono (fun e a' w' he => ?_) (wp_region_any (Q := QN (post k n Q .normal)) S.mixed (by simpa using hx))
  cases e <;> first | exact he | exact he.elim
end hd
end Go.HL
