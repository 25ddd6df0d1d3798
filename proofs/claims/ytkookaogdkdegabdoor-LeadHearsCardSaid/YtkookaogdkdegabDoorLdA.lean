/- Chapter 7: a lead's memory; what it sends. Conditions: none. -/
import Derived.Test.YtkookaogdkdegabDoorSeat
namespace Go.HL
open Go Go.Proofs
set_option linter.unusedVariables false
set_option linter.unusedSimpArgs false
abbrev FrVec (v : Value) (xs : List Fr) (c : List Blk) : Prop := Vec 45 9 fc v xs c
theorem fc_len (f : Fr) : (fc f).length = 9 := rfl
theorem fc_one (f : Fr) : (fc f).all Value.oneCell' = true := rfl
theorem sc_len (s : St) : (sc s).length = 3 := rfl
theorem sc_one (s : St) : (sc s).all Value.oneCell' = true := rfl
theorem ic_len (x : Int) : (ic x).length = 1 := rfl
theorem ic_one (x : Int) : (ic x).all Value.oneCell' = true := rfl
structure Ld where
  id : Int
  deal : Int
  att : Int
  w : List Int
  state : List UInt8
  wait : Int
  heard : Nat
  told : List St
  phase : Int
  seen : Int
def sAsking : List UInt8 := [97, 115, 107, 105, 110, 103]
def sPrep : List UInt8 := [112, 114, 101, 112, 97, 114, 105, 110, 103]
def sDone : List UInt8 := [100, 111, 110, 101]
def sRefused : List UInt8 := [114, 101, 102, 117, 115, 101, 100]
def ldA (wv : Value) (m : Ld) : List Value := [iv m.id, iv m.deal, iv m.att, wv, bs m.state, iv m.wait, iv m.heard]
def ldL (wv : Value) (m : Ld) : List Value := ldA wv m ++ (m.told.map sc).flatten ++ [iv m.phase, iv m.seen]
def ldC (lp : Nat) (wv : Value) (wc : List Blk) (m : Ld) : List Blk := (lp, .cells ⟨ldL wv m⟩ 172) :: wc
structure LdOk (wv : Value) (wc : List Blk) (m : Ld) : Prop where
  vec : Vec 3 1 ic wv m.w wc
  told : m.told.length = 7
  len : m.w.length ≤ 7
theorem ld_pre {wv : Value} {m : Ld} {k : Nat} {v : Value} (h : (ldA wv m)[k]? = some v) : (ldL wv m)[0 + k]? = some v := by
  have hlt : k < (ldA wv m).length := (List.getElem?_eq_some_iff.1 h).1
  rw [Nat.zero_add, ldL, List.append_assoc, List.getElem?_append_left hlt, h]
theorem ld_len {wv : Value} {m : Ld} (h : m.told.length = 7) : (ldL wv m).length = 30 := by
  simp [ldL, ldA, flat_length sc_len, h]
theorem ld_27 {wv : Value} {m : Ld} (h : m.told.length = 7) : (ldA wv m ++ (m.told.map sc).flatten).length = 28 := by
  simp [ldA, flat_length sc_len, h]
theorem ld_phase {wv : Value} {m : Ld} (h : m.told.length = 7) : (ldL wv m)[0 + 28]? = some (iv m.phase) := by
  rw [ldL, List.getElem?_append_right (by rw [ld_27 h]; omega), ld_27 h]; rfl
theorem ld_seen {wv : Value} {m : Ld} (h : m.told.length = 7) : (ldL wv m)[0 + 29]? = some (iv m.seen) := by
  rw [ldL, List.getElem?_append_right (by rw [ld_27 h]; omega), ld_27 h]; rfl
theorem ld_told {wv : Value} {m : Ld} {i : Nat} {s : St} (h : m.told[i]? = some s) : Gets (ldL wv m) (0 + 7 + (i : Int).toNat * 3) (sc s) := by
  have := gets_row (enc := sc) (sz := 3) sc_len m.told [iv m.phase, iv m.seen] (ldA wv m) i s h
  simpa [ldL, ldA] using this
theorem ld_pput {wv : Value} {m m' : Ld} {k : Nat} {v : Value} (h : ldA wv m' = (ldA wv m).set k v) (hk : k < 7) (e1 : m'.told = m.told) (e2 : m'.phase = m.phase) (e3 : m'.seen = m.seen) : Puts (ldL wv m) (0 + k) [v] (ldL wv m') := by
  have hlt : k < (ldA wv m).length := hk
  have e : ldL wv m' = (ldL wv m).set (0 + k) v := by
    rw [Nat.zero_add, ldL, ldL, h, e1, e2, e3, List.append_assoc, List.append_assoc, List.set_append_left _ _ hlt]
  rw [e]
  exact puts_set (by rw [ldL, List.append_assoc, List.length_append]; omega)
theorem ld_put28 {wv : Value} {m : Ld} (h : m.told.length = 7) (p : Int) : Puts (ldL wv m) (0 + 28) [iv p] (ldL wv { m with phase := p }) := by
  have e : ldL wv { m with phase := p } = (ldL wv m).set (0 + 28) (iv p) := by
    show ldA wv m ++ (m.told.map sc).flatten ++ [iv p, iv m.seen] = (ldA wv m ++ (m.told.map sc).flatten ++ [iv m.phase, iv m.seen]).set (0 + 28) (iv p)
    rw [List.set_append_right _ _ (by rw [ld_27 h]; omega), ld_27 h]; rfl
  rw [e]
  exact puts_set (by rw [ld_len h]; omega)
theorem ld_put29 {wv : Value} {m : Ld} (h : m.told.length = 7) (p : Int) : Puts (ldL wv m) (0 + 29) [iv p] (ldL wv { m with seen := p }) := by
  have e : ldL wv { m with seen := p } = (ldL wv m).set (0 + 29) (iv p) := by
    show ldA wv m ++ (m.told.map sc).flatten ++ [iv m.phase, iv p] = (ldA wv m ++ (m.told.map sc).flatten ++ [iv m.phase, iv m.seen]).set (0 + 29) (iv p)
    rw [List.set_append_right _ _ (by rw [ld_27 h]; omega), ld_27 h]; rfl
  rw [e]
  exact puts_set (by rw [ld_len h]; omega)
theorem ld_putT {wv : Value} {m : Ld} {i : Nat} (s : St) (h : i < m.told.length) : Puts (ldL wv m) (0 + 7 + (i : Int).toNat * 3) (sc s) (ldL wv { m with told := m.told.set i s }) := by
  have := puts_row (enc := sc) (sz := 3) sc_len m.told [iv m.phase, iv m.seen] (ldA wv m) i (0 + 7 + (i : Int).toNat * 3) s h (by simp [ldA])
  exact this
/-- the frame to a site -/
def allF (m : Ld) (kind phase : Int) (i : Nat) : List Fr := if kind ≠ 3 ∨ (i : Int) ≠ m.id then [⟨m.id, i, m.deal, kind, m.att, false, ⟨phase, 0, 0⟩⟩] else []
def allM (m : Ld) (kind phase : Int) : List Fr := (List.range m.w.length).flatMap (allF m kind phase)
def startM (m : Ld) : List Fr := if m.att = 0 then allM m 1 0 else allM m 3 0
def prepM (m : Ld) (phase : Int) : Ld := { m with state := sPrep, wait := 6, heard := 0, phase := phase }
def doneM (m : Ld) : Ld := { m with state := sDone, wait := 0 }
def noM (m : Ld) : Ld × List Fr := if m.wait = 2 then (doneM m, allM (doneM m) 7 3) else ({ m with state := sRefused, wait := 0 }, [])
theorem range_flat (f : Nat → List Fr) (i : Nat) : (List.range (i + 1)).flatMap f = (List.range i).flatMap f ++ f i := by
  rw [List.range_succ, List.flatMap_append]; simp
theorem flat_len_le (f : Nat → List Fr) (hf : ∀ i, (f i).length ≤ 1) : ∀ i, ((List.range i).flatMap f).length ≤ i
  | 0 => by simp
  | i + 1 => by rw [range_flat, List.length_append]; have := flat_len_le f hf i; have := hf i; omega
theorem allF_le (m : Ld) (kind phase : Int) (i : Nat) : (allF m kind phase i).length ≤ 1 := by unfold allF; split <;> simp
attribute [local irreducible] HW HO HQ HD HC QOp Has Upd Puts Gets seqQ blkQ loopQ fnQ actQ nextP unQ MapF
attribute [local irreducible] ldL
theorem all_calls (lp : Nat) (wv : Value) (wc : List Blk) (m : Ld) (kind phase : Int) (L : Heap) (hm : LdOk wv wc m) : HC Tryd.prog 111 [pt lp 0, iv kind, iv phase] (ldC lp wv wc m :: L)
    (fun v L' => ∃ c, FrVec v (allM m kind phase) c ∧ L' = c :: ldC lp wv wc m :: L) := by
  obtain ⟨a, cap, rfl, hcap, hR⟩ := hm.vec.rd ic_len
  have hlen := hm.len
  generalize hwv : Value.slice a m.w.length cap = wv
  have g0 : (ldL wv m)[0 + 0]? = some (iv m.id) := ld_pre rfl
  have g1 : (ldL wv m)[0 + 1]? = some (iv m.deal) := ld_pre rfl
  have g2 : (ldL wv m)[0 + 2]? = some (iv m.att) := ld_pre rfl
  have g3 : (ldL wv m)[0 + 3]? = some (.slice a m.w.length cap) := by rw [hwv]; exact ld_pre rfl
  refine hc_enter (fun _ _ => Tryd.call111 _ _) Tryd.func111 rfl Tryd.ntmps111 (Nat.le_of_ble_eq_true rfl) ?_; simp only [args0, Nat.reduceAdd]
  repeat' (first | (show HW _ _ _ _ _ _; first | apply hw_seq | apply hw_region | apply hw_block | apply hw_exit | refine g_t ?_ | refine g_f ?_ | (refine g_b (fun h => ?_) (fun h => ?_) <;> ((try simp only [Bool.not_eq_eq_eq_not, Bool.not_true, Bool.not_false, decide_eq_true_eq, decide_eq_false_iff_not, Decidable.not_not, ne_eq, Bool.and_eq_true, beq_iff_eq, and_true, true_and, eq_self, decide_true, Bool.and_true, Bool.true_and, reduceCtorEq, not_true_eq_false, not_false_eq_true] at h); (try (exfalso; first | omega | with_reducible exact h (by assumption) | with_reducible exact absurd h (by assumption))))) | apply hw_skip | apply hw_ret | refine g_k S ?_ | refine g_w S ?_) | (show HO _ _ _ _ _ _ _; first | apply ho_nil | refine g_q (qe S) ?_ | refine g_q (ql S) ?_ | refine g_q (qb S) ?_ | refine g_q (qbA S) ?_ | refine g_n ?_ | refine g_on ?_ | (refine g_s (fun h => ?_) (fun h => ?_) <;> ((try simp only [Bool.not_eq_eq_eq_not, Bool.not_true, Bool.not_false, decide_eq_true_eq, decide_eq_false_iff_not, Decidable.not_not, ne_eq, Bool.and_eq_true, beq_iff_eq, and_true, true_and, eq_self, decide_true, Bool.and_true, Bool.true_and, reduceCtorEq, not_true_eq_false, not_false_eq_true] at h); (try (exfalso; first | omega | with_reducible exact h (by assumption) | with_reducible exact absurd h (by assumption))))) | refine wS S (fun b => ?_) | refine wSa S (fun b => ?_) | refine wSn S (fun b => ?_)) | (show HQ _ _ _ _ _ _ _; first | apply hq_nil | refine k_q (qe S) ?_ | refine k_q (ql S) ?_ | refine k_q (qb S) ?_ | refine k_q (qbA S) ?_ | refine k_n ?_ | (refine k_s (fun h => ?_) (fun h => ?_) <;> ((try simp only [Bool.not_eq_eq_eq_not, Bool.not_true, Bool.not_false, decide_eq_true_eq, decide_eq_false_iff_not, Decidable.not_not, ne_eq, Bool.and_eq_true, beq_iff_eq, and_true, true_and, eq_self, decide_true, Bool.and_true, Bool.true_and, reduceCtorEq, not_true_eq_false, not_false_eq_true] at h); (try (exfalso; first | omega | with_reducible exact h (by assumption) | with_reducible exact absurd h (by assumption)))))) | (show HD _ _ _ _ _ _ _ _; first | apply hd_nil | refine d_q 100 (by exact rfl) (fun _ => qe S) ?_ | refine d_q 100 (by exact rfl) (fun _ => qb S) ?_ | refine d_q 100 (by exact rfl) (fun _ => qbA S) ?_ | refine dl S 100 ?_ | refine d_n 100 ?_ | (refine d_sp 100 (fun h => ?_) (fun h => ?_) <;> ((try simp only [Bool.not_eq_eq_eq_not, Bool.not_true, Bool.not_false, decide_eq_true_eq, decide_eq_false_iff_not, Decidable.not_not, ne_eq, Bool.and_eq_true, beq_iff_eq, and_true, true_and, eq_self, decide_true, Bool.and_true, Bool.true_and, reduceCtorEq, not_true_eq_false, not_false_eq_true] at h); (try (exfalso; first | omega | with_reducible exact h (by assumption) | with_reducible exact absurd h (by assumption))))) | refine da 101 ?_) | refine dx ?_ | apply dx0 | refine dxd ?_ | refine dxk ?_ | apply seqQ_normal | apply seqQ_ret | apply seqQ_exit | apply blkQ_here | refine g_bx ?_ | apply blkQ_ret | apply blkQ_normal | apply loopQ_ret | apply loopQ_exit | apply unQ_ret | apply unQ_exit | apply unQ_succ)
  refine hw_nilc ?_
  refine hw_loop (σ := Nat × Value × List Blk) (fun q => [(0, pt lp 0), (1, iv kind), (2, iv phase), (7, q.2.1), (13, iv m.w.length), (14, iv q.1)]) (fun q => q.2.2 :: ldC lp wv wc m :: L) (fun q => q.1 ≤ m.w.length ∧ FrVec q.2.1 ((List.range q.1).flatMap (allF m kind phase)) q.2.2) (fun q => m.w.length - q.1) (0, nilS, []) (by repeat (first | exact trivial | refine ⟨rfl, ?_⟩)) (List.Sublist.refl _) ⟨by simp, vec_nil⟩ ?_
  rintro ⟨i, v, c⟩ ⟨hi, hv⟩
  simp only at hi hv ⊢
  have hle := flat_len_le (allF m kind phase) (allF_le m kind phase) i
  have step : ∀ x, allF m kind phase i = x → (List.range (i + 1)).flatMap (allF m kind phase) = (List.range i).flatMap (allF m kind phase) ++ x := fun x hx => by rw [range_flat, hx]
  by_cases hlt : i < m.w.length
  · by_cases hid : kind = 3 ∧ (i : Int) = m.id
    · have e : allF m kind phase i = [] := if_neg (by omega)
      repeat' (first | (show HW _ _ _ _ _ _; first | apply hw_seq | apply hw_region | apply hw_block | apply hw_exit | refine g_t ?_ | refine g_f ?_ | (refine g_b (fun h => ?_) (fun h => ?_) <;> ((try simp only [Bool.not_eq_eq_eq_not, Bool.not_true, Bool.not_false, decide_eq_true_eq, decide_eq_false_iff_not, Decidable.not_not, ne_eq, Bool.and_eq_true, beq_iff_eq, and_true, true_and, eq_self, decide_true, Bool.and_true, Bool.true_and, reduceCtorEq, not_true_eq_false, not_false_eq_true] at h); (try (exfalso; first | omega | with_reducible exact h (by assumption) | with_reducible exact absurd h (by assumption))))) | apply hw_skip | apply hw_ret | refine g_d S ?_) | (show HO _ _ _ _ _ _ _; first | apply ho_nil | refine g_q (qe S) ?_ | refine g_q (ql S) ?_ | refine g_q (qb S) ?_ | refine g_q (qbA S) ?_ | refine g_n ?_ | refine g_on ?_ | (refine g_s (fun h => ?_) (fun h => ?_) <;> ((try simp only [Bool.not_eq_eq_eq_not, Bool.not_true, Bool.not_false, decide_eq_true_eq, decide_eq_false_iff_not, Decidable.not_not, ne_eq, Bool.and_eq_true, beq_iff_eq, and_true, true_and, eq_self, decide_true, Bool.and_true, Bool.true_and, reduceCtorEq, not_true_eq_false, not_false_eq_true] at h); (try (exfalso; first | omega | with_reducible exact h (by assumption) | with_reducible exact absurd h (by assumption))))) | refine wS S (fun b => ?_) | refine wSa S (fun b => ?_) | refine wSn S (fun b => ?_)) | (show HD _ _ _ _ _ _ _ _; first | apply hd_nil | refine d_q 100 (by exact rfl) (fun _ => qe S) ?_ | refine d_q 100 (by exact rfl) (fun _ => qb S) ?_ | refine d_q 100 (by exact rfl) (fun _ => qbA S) ?_ | refine dl S 100 ?_ | refine d_n 100 ?_ | (refine d_sp 100 (fun h => ?_) (fun h => ?_) <;> ((try simp only [Bool.not_eq_eq_eq_not, Bool.not_true, Bool.not_false, decide_eq_true_eq, decide_eq_false_iff_not, Decidable.not_not, ne_eq, Bool.and_eq_true, beq_iff_eq, and_true, true_and, eq_self, decide_true, Bool.and_true, Bool.true_and, reduceCtorEq, not_true_eq_false, not_false_eq_true] at h); (try (exfalso; first | omega | with_reducible exact h (by assumption) | with_reducible exact absurd h (by assumption))))) | refine da 101 ?_) | refine dx ?_ | apply dx0 | refine dxd ?_ | refine dxk ?_ | apply seqQ_normal | apply seqQ_ret | apply seqQ_exit | apply blkQ_here | refine g_bx ?_ | apply blkQ_ret | apply blkQ_normal | apply loopQ_ret | apply loopQ_exit | apply unQ_ret | apply unQ_exit | apply unQ_succ)
      refine loopQ_normal (i + 1, v, c) (by repeat (first | exact trivial | refine ⟨rfl, ?_⟩)) (List.Sublist.refl _) ⟨by simp only; omega, ?_⟩ (by simp only; omega)
      simp only
      rw [step _ e, List.append_nil]
      exact hv
    · have e : allF m kind phase i = [⟨m.id, i, m.deal, kind, m.att, false, ⟨phase, 0, 0⟩⟩] := if_pos (by omega)
      repeat' (first | (show HW _ _ _ _ _ _; first | apply hw_seq | apply hw_region | apply hw_block | apply hw_exit | refine g_t ?_ | refine g_f ?_ | (refine g_b (fun h => ?_) (fun h => ?_) <;> ((try simp only [Bool.not_eq_eq_eq_not, Bool.not_true, Bool.not_false, decide_eq_true_eq, decide_eq_false_iff_not, Decidable.not_not, ne_eq, Bool.and_eq_true, beq_iff_eq, and_true, true_and, eq_self, decide_true, Bool.and_true, Bool.true_and, reduceCtorEq, not_true_eq_false, not_false_eq_true] at h); (try (exfalso; first | omega | with_reducible exact h (by assumption) | with_reducible exact absurd h (by assumption))))) | apply hw_skip | apply hw_ret | refine g_d S ?_) | (show HO _ _ _ _ _ _ _; first | apply ho_nil | refine g_q (qe S) ?_ | refine g_q (ql S) ?_ | refine g_q (qb S) ?_ | refine g_q (qbA S) ?_ | refine g_n ?_ | refine g_on ?_ | (refine g_s (fun h => ?_) (fun h => ?_) <;> ((try simp only [Bool.not_eq_eq_eq_not, Bool.not_true, Bool.not_false, decide_eq_true_eq, decide_eq_false_iff_not, Decidable.not_not, ne_eq, Bool.and_eq_true, beq_iff_eq, and_true, true_and, eq_self, decide_true, Bool.and_true, Bool.true_and, reduceCtorEq, not_true_eq_false, not_false_eq_true] at h); (try (exfalso; first | omega | with_reducible exact h (by assumption) | with_reducible exact absurd h (by assumption))))) | refine wS S (fun b => ?_) | refine wSa S (fun b => ?_) | refine wSn S (fun b => ?_)) | (show HD _ _ _ _ _ _ _ _; first | apply hd_nil | refine d_q 100 (by exact rfl) (fun _ => qe S) ?_ | refine d_q 100 (by exact rfl) (fun _ => qb S) ?_ | refine d_q 100 (by exact rfl) (fun _ => qbA S) ?_ | refine dl S 100 ?_ | refine d_n 100 ?_ | (refine d_sp 100 (fun h => ?_) (fun h => ?_) <;> ((try simp only [Bool.not_eq_eq_eq_not, Bool.not_true, Bool.not_false, decide_eq_true_eq, decide_eq_false_iff_not, Decidable.not_not, ne_eq, Bool.and_eq_true, beq_iff_eq, and_true, true_and, eq_self, decide_true, Bool.and_true, Bool.true_and, reduceCtorEq, not_true_eq_false, not_false_eq_true] at h); (try (exfalso; first | omega | with_reducible exact h (by assumption) | with_reducible exact absurd h (by assumption))))) | refine da 101 ?_) | refine dx ?_ | apply dx0 | refine dxd ?_ | refine dxk ?_ | apply seqQ_normal | apply seqQ_ret | apply seqQ_exit | apply blkQ_here | refine g_bx ?_ | apply blkQ_ret | apply blkQ_normal | apply loopQ_ret | apply loopQ_exit | apply unQ_ret | apply unQ_exit | apply unQ_succ)
      all_goals refine fo 1 ?_
      all_goals refine wp1 S ⟨m.id, i, m.deal, kind, m.att, false, ⟨phase, 0, 0⟩⟩ hv fc_len fc_one ?_
      all_goals intro v' c' hv'
      all_goals repeat' (first | (show HW _ _ _ _ _ _; first | apply hw_seq | apply hw_region | apply hw_block | apply hw_exit | refine g_t ?_ | refine g_f ?_ | (refine g_b (fun h => ?_) (fun h => ?_) <;> ((try simp only [Bool.not_eq_eq_eq_not, Bool.not_true, Bool.not_false, decide_eq_true_eq, decide_eq_false_iff_not, Decidable.not_not, ne_eq, Bool.and_eq_true, beq_iff_eq, and_true, true_and, eq_self, decide_true, Bool.and_true, Bool.true_and, reduceCtorEq, not_true_eq_false, not_false_eq_true] at h); (try (exfalso; first | omega | with_reducible exact h (by assumption) | with_reducible exact absurd h (by assumption))))) | apply hw_skip | apply hw_ret | refine g_d S ?_) | (show HO _ _ _ _ _ _ _; first | apply ho_nil | refine g_q (qe S) ?_ | refine g_q (ql S) ?_ | refine g_q (qb S) ?_ | refine g_q (qbA S) ?_ | refine g_n ?_ | refine g_on ?_ | (refine g_s (fun h => ?_) (fun h => ?_) <;> ((try simp only [Bool.not_eq_eq_eq_not, Bool.not_true, Bool.not_false, decide_eq_true_eq, decide_eq_false_iff_not, Decidable.not_not, ne_eq, Bool.and_eq_true, beq_iff_eq, and_true, true_and, eq_self, decide_true, Bool.and_true, Bool.true_and, reduceCtorEq, not_true_eq_false, not_false_eq_true] at h); (try (exfalso; first | omega | with_reducible exact h (by assumption) | with_reducible exact absurd h (by assumption))))) | refine wS S (fun b => ?_) | refine wSa S (fun b => ?_) | refine wSn S (fun b => ?_)) | (show HD _ _ _ _ _ _ _ _; first | apply hd_nil | refine d_q 100 (by exact rfl) (fun _ => qe S) ?_ | refine d_q 100 (by exact rfl) (fun _ => qb S) ?_ | refine d_q 100 (by exact rfl) (fun _ => qbA S) ?_ | refine dl S 100 ?_ | refine d_n 100 ?_ | (refine d_sp 100 (fun h => ?_) (fun h => ?_) <;> ((try simp only [Bool.not_eq_eq_eq_not, Bool.not_true, Bool.not_false, decide_eq_true_eq, decide_eq_false_iff_not, Decidable.not_not, ne_eq, Bool.and_eq_true, beq_iff_eq, and_true, true_and, eq_self, decide_true, Bool.and_true, Bool.true_and, reduceCtorEq, not_true_eq_false, not_false_eq_true] at h); (try (exfalso; first | omega | with_reducible exact h (by assumption) | with_reducible exact absurd h (by assumption))))) | refine da 101 ?_) | refine dx ?_ | apply dx0 | refine dxd ?_ | refine dxk ?_ | apply seqQ_normal | apply seqQ_ret | apply seqQ_exit | apply blkQ_here | refine g_bx ?_ | apply blkQ_ret | apply blkQ_normal | apply loopQ_ret | apply loopQ_exit | apply unQ_ret | apply unQ_exit | apply unQ_succ)
      all_goals refine loopQ_normal (i + 1, v', c') (by repeat (first | exact trivial | refine ⟨rfl, ?_⟩)) (.cons_cons _ (.cons _ (.refl _))) ⟨by simp only; omega, ?_⟩ (by simp only; omega)
      all_goals simp only
      all_goals rw [step _ e]
      all_goals exact hv'
  · repeat' (first | (show HW _ _ _ _ _ _; first | apply hw_seq | apply hw_region | apply hw_block | apply hw_exit | refine g_t ?_ | refine g_f ?_ | (refine g_b (fun h => ?_) (fun h => ?_) <;> ((try simp only [Bool.not_eq_eq_eq_not, Bool.not_true, Bool.not_false, decide_eq_true_eq, decide_eq_false_iff_not, Decidable.not_not, ne_eq, Bool.and_eq_true, beq_iff_eq, and_true, true_and, eq_self, decide_true, Bool.and_true, Bool.true_and, reduceCtorEq, not_true_eq_false, not_false_eq_true] at h); (try (exfalso; first | omega | with_reducible exact h (by assumption) | with_reducible exact absurd h (by assumption))))) | apply hw_skip | apply hw_ret | refine g_d S ?_) | (show HO _ _ _ _ _ _ _; first | apply ho_nil | refine g_q (qe S) ?_ | refine g_q (ql S) ?_ | refine g_q (qb S) ?_ | refine g_q (qbA S) ?_ | refine g_n ?_ | refine g_on ?_ | (refine g_s (fun h => ?_) (fun h => ?_) <;> ((try simp only [Bool.not_eq_eq_eq_not, Bool.not_true, Bool.not_false, decide_eq_true_eq, decide_eq_false_iff_not, Decidable.not_not, ne_eq, Bool.and_eq_true, beq_iff_eq, and_true, true_and, eq_self, decide_true, Bool.and_true, Bool.true_and, reduceCtorEq, not_true_eq_false, not_false_eq_true] at h); (try (exfalso; first | omega | with_reducible exact h (by assumption) | with_reducible exact absurd h (by assumption))))) | refine wS S (fun b => ?_) | refine wSa S (fun b => ?_) | refine wSn S (fun b => ?_)) | (show HD _ _ _ _ _ _ _ _; first | apply hd_nil | refine d_q 100 (by exact rfl) (fun _ => qe S) ?_ | refine d_q 100 (by exact rfl) (fun _ => qb S) ?_ | refine d_q 100 (by exact rfl) (fun _ => qbA S) ?_ | refine dl S 100 ?_ | refine d_n 100 ?_ | (refine d_sp 100 (fun h => ?_) (fun h => ?_) <;> ((try simp only [Bool.not_eq_eq_eq_not, Bool.not_true, Bool.not_false, decide_eq_true_eq, decide_eq_false_iff_not, Decidable.not_not, ne_eq, Bool.and_eq_true, beq_iff_eq, and_true, true_and, eq_self, decide_true, Bool.and_true, Bool.true_and, reduceCtorEq, not_true_eq_false, not_false_eq_true] at h); (try (exfalso; first | omega | with_reducible exact h (by assumption) | with_reducible exact absurd h (by assumption))))) | refine da 101 ?_) | refine dx ?_ | apply dx0 | refine dxd ?_ | refine dxk ?_ | apply seqQ_normal | apply seqQ_ret | apply seqQ_exit | apply blkQ_here | refine g_bx ?_ | apply blkQ_ret | apply blkQ_normal | apply loopQ_ret | apply loopQ_exit | apply unQ_ret | apply unQ_exit | apply unQ_succ)
    have hi2 : i = m.w.length := by omega
    subst hi2
    exact sp1 (LS.refl _) ⟨c, hv, rfl⟩
theorem start_calls (lp : Nat) (wv : Value) (wc : List Blk) (m : Ld) (L : Heap) (hm : LdOk wv wc m) : HC Tryd.prog 69 [pt lp 0] (ldC lp wv wc m :: L)
    (fun v L' => ∃ c, FrVec v (startM m) c ∧ L' = c :: ldC lp wv wc m :: L) := by
  have g2 : (ldL wv m)[0 + 2]? = some (iv m.att) := ld_pre rfl
  unfold startM
  refine hc_enter (fun _ _ => Tryd.call69 _ _) Tryd.func69 rfl Tryd.ntmps69 (Nat.le_of_ble_eq_true rfl) ?_; simp only [args0, Nat.reduceAdd]
  repeat' (first | (show HW _ _ _ _ _ _; first | apply hw_seq | apply hw_region | refine g_t ?_ | refine g_f ?_ | (refine g_b (fun h => ?_) (fun h => ?_) <;> ((try simp only [Bool.not_eq_eq_eq_not, Bool.not_true, Bool.not_false, decide_eq_true_eq, decide_eq_false_iff_not, Decidable.not_not, ne_eq, Bool.and_eq_true, beq_iff_eq, and_true, true_and, eq_self, decide_true, Bool.and_true, Bool.true_and, reduceCtorEq, not_true_eq_false, not_false_eq_true] at h); (try (exfalso; first | omega | with_reducible exact h (by assumption) | with_reducible exact absurd h (by assumption))))) | apply hw_skip | apply hw_ret) | (show HO _ _ _ _ _ _ _; first | apply ho_nil | refine g_q (qe S) ?_ | refine g_q (ql S) ?_) | apply seqQ_normal | apply seqQ_ret)
  · refine gc (all_calls lp wv wc m 1 0 L hm) ?_
    rintro v L' ⟨c, hv, rfl⟩
    repeat' (first | (show HW _ _ _ _ _ _; first | apply hw_seq | apply hw_region | refine g_t ?_ | refine g_f ?_ | (refine g_b (fun h => ?_) (fun h => ?_) <;> ((try simp only [Bool.not_eq_eq_eq_not, Bool.not_true, Bool.not_false, decide_eq_true_eq, decide_eq_false_iff_not, Decidable.not_not, ne_eq, Bool.and_eq_true, beq_iff_eq, and_true, true_and, eq_self, decide_true, Bool.and_true, Bool.true_and, reduceCtorEq, not_true_eq_false, not_false_eq_true] at h); (try (exfalso; first | omega | with_reducible exact h (by assumption) | with_reducible exact absurd h (by assumption))))) | apply hw_skip | apply hw_ret) | (show HO _ _ _ _ _ _ _; first | apply ho_nil | refine g_q (qe S) ?_ | refine g_q (ql S) ?_) | apply seqQ_normal | apply seqQ_ret)
    exact sp1 (LS.refl _) ⟨c, by rw [if_pos h]; exact hv, rfl⟩
  · refine gc (all_calls lp wv wc m 3 0 L hm) ?_
    rintro v L' ⟨c, hv, rfl⟩
    repeat' (first | (show HW _ _ _ _ _ _; first | apply hw_seq | apply hw_region | refine g_t ?_ | refine g_f ?_ | (refine g_b (fun h => ?_) (fun h => ?_) <;> ((try simp only [Bool.not_eq_eq_eq_not, Bool.not_true, Bool.not_false, decide_eq_true_eq, decide_eq_false_iff_not, Decidable.not_not, ne_eq, Bool.and_eq_true, beq_iff_eq, and_true, true_and, eq_self, decide_true, Bool.and_true, Bool.true_and, reduceCtorEq, not_true_eq_false, not_false_eq_true] at h); (try (exfalso; first | omega | with_reducible exact h (by assumption) | with_reducible exact absurd h (by assumption))))) | apply hw_skip | apply hw_ret) | (show HO _ _ _ _ _ _ _; first | apply ho_nil | refine g_q (qe S) ?_ | refine g_q (ql S) ?_) | apply seqQ_normal | apply seqQ_ret)
    exact sp1 (LS.refl _) ⟨c, by rw [if_neg h]; exact hv, rfl⟩
theorem LdOk.of {wv : Value} {wc : List Blk} {m m' : Ld} (h : LdOk wv wc m) (e1 : m'.w = m.w) (e2 : m'.told.length = m.told.length) : LdOk wv wc m' := ⟨e1 ▸ h.vec, e2 ▸ h.told, e1 ▸ h.len⟩
theorem prepare_calls (lp : Nat) (wv : Value) (wc : List Blk) (m : Ld) (phase : Int) (L : Heap) (hm : LdOk wv wc m) : HC Tryd.prog 115 [pt lp 0, iv phase] (ldC lp wv wc m :: L)
    (fun v L' => ∃ c, FrVec v (allM (prepM m phase) 5 phase) c ∧ L' = c :: ldC lp wv wc (prepM m phase) :: L) := by
  have p1 : Puts (ldL wv m) (0 + 4) [bs sPrep] (ldL wv { m with state := sPrep }) := ld_pput rfl (by decide) rfl rfl rfl
  have p2 : Puts (ldL wv { m with state := sPrep }) (0 + 5) [iv 6] (ldL wv { m with state := sPrep, wait := 6 }) := ld_pput rfl (by decide) rfl rfl rfl
  have p3 : Puts (ldL wv { m with state := sPrep, wait := 6 }) (0 + 6) [iv 0] (ldL wv { m with state := sPrep, wait := 6, heard := 0 }) := ld_pput rfl (by decide) rfl rfl rfl
  have p4 : Puts (ldL wv { m with state := sPrep, wait := 6, heard := 0 }) (0 + 28) [iv phase] (ldL wv (prepM m phase)) := ld_put28 (m := { m with state := sPrep, wait := 6, heard := 0 }) hm.told phase
  have k := all_calls lp wv wc (prepM m phase) 5 phase L (hm.of rfl rfl)
  refine hc_enter (fun _ _ => Tryd.call115 _ _) Tryd.func115 rfl Tryd.ntmps115 (Nat.le_of_ble_eq_true rfl) ?_; simp only [args0, Nat.reduceAdd]
  repeat' (first | (show HW _ _ _ _ _ _; first | apply hw_seq | apply hw_region | apply hw_ret) | (show HO _ _ _ _ _ _ _; first | apply ho_nil | refine g_q (qe S) ?_ | refine ws S ?_) | apply seqQ_normal | apply seqQ_ret)
  refine gc k ?_
  rintro v L' ⟨c, hv, rfl⟩
  repeat' (first | (show HW _ _ _ _ _ _; first | apply hw_seq | apply hw_region | apply hw_ret) | (show HO _ _ _ _ _ _ _; first | apply ho_nil | refine g_q (qe S) ?_ | refine ws S ?_) | apply seqQ_normal | apply seqQ_ret)
  exact sp1 (LS.refl _) ⟨c, hv, rfl⟩
theorem decide_calls (lp : Nat) (wv : Value) (wc : List Blk) (m : Ld) (phase : Int) (L : Heap) (hm : LdOk wv wc m) : HC Tryd.prog 116 [pt lp 0, iv phase] (ldC lp wv wc m :: L)
    (fun v L' => ∃ c, FrVec v (allM (doneM m) 7 phase) c ∧ L' = c :: ldC lp wv wc (doneM m) :: L) := by
  have p1 : Puts (ldL wv m) (0 + 4) [bs sDone] (ldL wv { m with state := sDone }) := ld_pput rfl (by decide) rfl rfl rfl
  have p2 : Puts (ldL wv { m with state := sDone }) (0 + 5) [iv 0] (ldL wv (doneM m)) := ld_pput rfl (by decide) rfl rfl rfl
  have k := all_calls lp wv wc (doneM m) 7 phase L (hm.of rfl rfl)
  refine hc_enter (fun _ _ => Tryd.call116 _ _) Tryd.func116 rfl Tryd.ntmps116 (Nat.le_of_ble_eq_true rfl) ?_; simp only [args0, Nat.reduceAdd]
  repeat' (first | (show HW _ _ _ _ _ _; first | apply hw_seq | apply hw_region | apply hw_ret) | (show HO _ _ _ _ _ _ _; first | apply ho_nil | refine g_q (qe S) ?_ | refine ws S ?_) | apply seqQ_normal | apply seqQ_ret)
  refine gc k ?_
  rintro v L' ⟨c, hv, rfl⟩
  repeat' (first | (show HW _ _ _ _ _ _; first | apply hw_seq | apply hw_region | apply hw_ret) | (show HO _ _ _ _ _ _ _; first | apply ho_nil | refine g_q (qe S) ?_ | refine ws S ?_) | apply seqQ_normal | apply seqQ_ret)
  exact sp1 (LS.refl _) ⟨c, hv, rfl⟩
theorem no_calls (lp : Nat) (wv : Value) (wc : List Blk) (m : Ld) (L : Heap) (hm : LdOk wv wc m) : HC Tryd.prog 114 [pt lp 0] (ldC lp wv wc m :: L)
    (fun v L' => ∃ c, FrVec v (noM m).2 c ∧ L' = c :: ldC lp wv wc (noM m).1 :: L) := by
  have g5 : (ldL wv m)[0 + 5]? = some (iv m.wait) := ld_pre rfl
  have p1 : Puts (ldL wv m) (0 + 4) [bs sRefused] (ldL wv { m with state := sRefused }) := ld_pput rfl (by decide) rfl rfl rfl
  have p2 : Puts (ldL wv { m with state := sRefused }) (0 + 5) [iv 0] (ldL wv { m with state := sRefused, wait := 0 }) := ld_pput rfl (by decide) rfl rfl rfl
  have k := decide_calls lp wv wc m 3 L hm
  unfold noM
  refine hc_enter (fun _ _ => Tryd.call114 _ _) Tryd.func114 rfl Tryd.ntmps114 (Nat.le_of_ble_eq_true rfl) ?_; simp only [args0, Nat.reduceAdd]
  repeat' (first | (show HW _ _ _ _ _ _; first | apply hw_seq | apply hw_region | refine g_t ?_ | refine g_f ?_ | (refine g_b (fun h => ?_) (fun h => ?_) <;> ((try simp only [Bool.not_eq_eq_eq_not, Bool.not_true, Bool.not_false, decide_eq_true_eq, decide_eq_false_iff_not, Decidable.not_not, ne_eq, Bool.and_eq_true, beq_iff_eq, and_true, true_and, eq_self, decide_true, Bool.and_true, Bool.true_and, reduceCtorEq, not_true_eq_false, not_false_eq_true] at h); (try (exfalso; first | omega | with_reducible exact h (by assumption) | with_reducible exact absurd h (by assumption))))) | apply hw_skip | apply hw_ret) | (show HO _ _ _ _ _ _ _; first | apply ho_nil | refine g_q (qe S) ?_ | refine g_q (ql S) ?_ | refine ws S ?_) | apply seqQ_normal | apply seqQ_ret)
  · refine gc k ?_
    rintro v L' ⟨c, hv, rfl⟩
    repeat' (first | (show HW _ _ _ _ _ _; first | apply hw_seq | apply hw_region | refine g_t ?_ | refine g_f ?_ | (refine g_b (fun h => ?_) (fun h => ?_) <;> ((try simp only [Bool.not_eq_eq_eq_not, Bool.not_true, Bool.not_false, decide_eq_true_eq, decide_eq_false_iff_not, Decidable.not_not, ne_eq, Bool.and_eq_true, beq_iff_eq, and_true, true_and, eq_self, decide_true, Bool.and_true, Bool.true_and, reduceCtorEq, not_true_eq_false, not_false_eq_true] at h); (try (exfalso; first | omega | with_reducible exact h (by assumption) | with_reducible exact absurd h (by assumption))))) | apply hw_skip | apply hw_ret) | (show HO _ _ _ _ _ _ _; first | apply ho_nil | refine g_q (qe S) ?_ | refine g_q (ql S) ?_ | refine ws S ?_) | apply seqQ_normal | apply seqQ_ret)
    exact sp1 (LS.refl _) ⟨c, by rw [if_pos h]; exact hv, by rw [if_pos h]⟩
  · refine sp1 (L' := [] :: ldC lp wv wc { m with state := sRefused, wait := 0 } :: L) (LS.refl _) ⟨[], by rw [if_neg h]; exact vec_nil, by rw [if_neg h]⟩
theorem lstate_calls (lp : Nat) (wv : Value) (wc : List Blk) (m : Ld) (L : Heap) : HC Tryd.prog 73 [pt lp 0] (ldC lp wv wc m :: L) (fun v L' => v = bs m.state ∧ L' = ldC lp wv wc m :: L) := by
  have g4 : (ldL wv m)[0 + 4]? = some (bs m.state) := ld_pre rfl
  refine hc_enter (fun _ _ => Tryd.call73 _ _) Tryd.func73 rfl Tryd.ntmps73 (Nat.le_of_ble_eq_true rfl) ?_; simp only [args0, Nat.reduceAdd]
  repeat' (first | (show HW _ _ _ _ _ _; first | apply hw_seq | apply hw_region | apply hw_ret) | (show HO _ _ _ _ _ _ _; first | apply ho_nil | refine g_q (qe S) ?_ | refine g_q (ql S) ?_) | apply seqQ_normal | apply seqQ_ret)
  exact sp1 (LS.refl _) ⟨rfl, rfl⟩
theorem lseen_calls (lp : Nat) (wv : Value) (wc : List Blk) (m : Ld) (L : Heap) (h : m.told.length = 7) : HC Tryd.prog 74 [pt lp 0] (ldC lp wv wc m :: L) (fun v L' => v = iv m.seen ∧ L' = ldC lp wv wc m :: L) := by
  have g4 := ld_seen (wv := wv) h
  refine hc_enter (fun _ _ => Tryd.call74 _ _) Tryd.func74 rfl Tryd.ntmps74 (Nat.le_of_ble_eq_true rfl) ?_; simp only [args0, Nat.reduceAdd]
  repeat' (first | (show HW _ _ _ _ _ _; first | apply hw_seq | apply hw_region | apply hw_ret) | (show HO _ _ _ _ _ _ _; first | apply ho_nil | refine g_q (qe S) ?_ | refine g_q (ql S) ?_) | apply seqQ_normal | apply seqQ_ret)
  exact sp1 (LS.refl _) ⟨rfl, rfl⟩
end Go.HL
