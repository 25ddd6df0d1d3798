/- Chapter 1: weights: the length of a number in bits, the greatest of a slice, a check. Conditions: none. -/
import Derived.Test.YtkookaogdkdegabDoorSeat
namespace Go.HL
open Go Go.Proofs
set_option linter.unusedVariables false
set_option linter.unusedSimpArgs false

def blen (n : Nat) : Nat := if n = 0 then 0 else Nat.log2 n + 1
theorem blen_le {n k : Nat} : blen n ≤ k ↔ n < 2 ^ k := by
  unfold blen
  split
  · rename_i h
    subst h
    simp [Nat.two_pow_pos]
  · rename_i h
    rw [← Nat.log2_lt h]
    omega
theorem blen_div {n k : Nat} (h : 2 ^ k ≤ n) : blen n = blen (n / 2 ^ k) + k := by
  have key : ∀ j, blen n ≤ j ↔ blen (n / 2 ^ k) + k ≤ j := fun j => by
    constructor
    · intro h1
      have h2 := blen_le.1 h1
      have h3 : k < j := by
        rcases Nat.lt_or_ge k j with h3 | h3
        · exact h3
        · have := Nat.pow_le_pow_right (n := 2) (by decide) h3
          omega
      have h4 : blen (n / 2 ^ k) ≤ j - k := blen_le.2 (by
        rw [Nat.div_lt_iff_lt_mul (Nat.two_pow_pos k), ← Nat.pow_add, Nat.sub_add_cancel (by omega)]
        exact h2)
      omega
    · intro h1
      have h4 : blen (n / 2 ^ k) ≤ j - k := by omega
      have h5 := blen_le.1 h4
      rw [Nat.div_lt_iff_lt_mul (Nat.two_pow_pos k), ← Nat.pow_add, Nat.sub_add_cancel (by omega)] at h5
      exact blen_le.2 h5
  have h1 := (key (blen n)).1 (Nat.le_refl _)
  have h2 := (key (blen (n / 2 ^ k) + k)).2 (Nat.le_refl _)
  omega
theorem tab_ok {l : List UInt8} (h : ((List.range 256).all fun i => Nat.beq (l.getD i 0).toNat (blen i)) = true) {i : Nat} (hi : i < 256) : (l.getD i 0).toNat = blen i :=
  Nat.eq_of_beq_eq_true (List.all_eq_true.1 h i (List.mem_range.2 hi))
theorem ho_len8 {P : Program} (S : Tab P) {n : Nat} {ops : List Oper} {Q : Exit → Env → Heap → Prop} {rest : List Oper} {ρ : Env} {L : Heap} {ty : TypeId} {pos : String} {af : Array Edge} {d t : Nat} {l : List UInt8} {k : IntKind} {j : Int} {ti : TyI} {y : Operand} {c : Value}
    (hc : c = bs l) (hy : ev ρ y = some (.int k j)) (ht : lkN S.ty t = some ti) (hk : Nat.beq ti.kind 3 = true) (hn : Nat.blt d n = true) (hl : Nat.beq l.length 256 = true) (htab : ((List.range 256).all fun i => Nat.beq (l.getD i 0).toNat (blen i)) = true) (hj : 0 ≤ j ∧ j < 256)
    (h : ∀ m : Nat, m = blen j.toNat → m ≤ 8 → HO P n ops Q rest ((d, .int .u8 (m : Int)) :: ρ) L) : HO P n ops Q (⟨some d, .index t (.const c) y, ty, pos, af, none⟩ :: rest) ρ L := by
  have h1 := h _ rfl (blen_le.2 (by omega))
  rw [← tab_ok htab (i := j.toNat) (by omega)] at h1
  exact ho_go rfl hn (q_ixT S hc hy ht hk hl hj) h1
attribute [local irreducible] HW HO HQ HD HC QOp Has Upd Puts Gets seqQ blkQ loopQ fnQ actQ nextP unQ MapF
set_option maxRecDepth 100000 in
theorem len64_calls (n : Nat) (hn : n < 18446744073709551616) (L : Heap) : HC Tryd.prog 132 [.int .u64 n] L (fun v L' => v = iv (blen n) ∧ L' = L) := by
  refine hc_enter (fun _ _ => Tryd.call132 _ _) Tryd.func132 rfl Tryd.ntmps132 (Nat.le_of_ble_eq_true rfl) ?_; simp only [args0, Nat.reduceAdd]
  repeat' (first | (show HW _ _ _ _ _ _; first | apply hw_seq | apply hw_region | refine g_t ?_ | refine g_f ?_ | (refine g_b (fun h => ?_) (fun h => ?_) <;> ((try simp only [Bool.not_eq_eq_eq_not, Bool.not_true, Bool.not_false, decide_eq_true_eq, decide_eq_false_iff_not, Decidable.not_not, ne_eq, Bool.and_eq_true, beq_iff_eq, and_true, true_and, eq_self, decide_true, Bool.and_true, Bool.true_and, reduceCtorEq, not_true_eq_false, not_false_eq_true] at h); (try (exfalso; first | omega | with_reducible exact h (by assumption) | with_reducible exact absurd h (by assumption))))) | apply hw_skip | apply hw_ret) | (show HO _ _ _ _ _ _ _; first | apply ho_nil | refine g_q (qe S) ?_ | refine g_q (qt S) ?_ | refine g_q (qc8 S) ?_ | refine g_q (qc32 S) ?_) | apply seqQ_normal | apply seqQ_ret)
  all_goals try simp only [Int.reduceToNat, Int.reducePow] at *
  all_goals (apply ho_len8 S; (case hc => exact rfl); (case hy => exact rfl); (case ht => exact rfl); (case hk => exact rfl); (case hn => exact rfl); (case hl => exact rfl); (case htab => decide +kernel); (case hj => omega); (case' h => intro m hm hm8))
  all_goals repeat' (first | (show HW _ _ _ _ _ _; first | apply hw_seq | apply hw_region | refine g_t ?_ | refine g_f ?_ | (refine g_b (fun h => ?_) (fun h => ?_) <;> ((try simp only [Bool.not_eq_eq_eq_not, Bool.not_true, Bool.not_false, decide_eq_true_eq, decide_eq_false_iff_not, Decidable.not_not, ne_eq, Bool.and_eq_true, beq_iff_eq, and_true, true_and, eq_self, decide_true, Bool.and_true, Bool.true_and, reduceCtorEq, not_true_eq_false, not_false_eq_true] at h); (try (exfalso; first | omega | with_reducible exact h (by assumption) | with_reducible exact absurd h (by assumption))))) | apply hw_skip | apply hw_ret) | (show HO _ _ _ _ _ _ _; first | apply ho_nil | refine g_q (qe S) ?_ | refine g_q (qt S) ?_ | refine g_q (qc8 S) ?_ | refine g_q (qc32 S) ?_) | apply seqQ_normal | apply seqQ_ret)
  all_goals (refine fn_ret1 rfl rfl ?_ ⟨?_, rfl⟩; (next => (repeat (first | exact List.Sublist.refl _ | apply List.Sublist.cons))))
  all_goals refine congrArg iv ?_
  all_goals (have e1 : ∀ x, 4294967296 ≤ x → blen x = blen (x / 4294967296) + 32 := fun x hx => blen_div (k := 32) hx)
  all_goals (have e2 : ∀ x, 65536 ≤ x → blen x = blen (x / 65536) + 16 := fun x hx => blen_div (k := 16) hx)
  all_goals (have e3 : ∀ x, 256 ≤ x → blen x = blen (x / 256) + 8 := fun x hx => blen_div (k := 8) hx)
  all_goals first
    | (have g0 := e1 (n) (by omega); have g1 := e2 (n / 4294967296) (by omega); have g2 := e3 (n / 4294967296 / 65536) (by omega); have g9 : ((n : Int) / 4294967296 / 65536 / 256).toNat = n / 4294967296 / 65536 / 256 := (by omega); rw [g9] at hm; omega)
    | (have g0 := e1 (n) (by omega); have g1 := e2 (n / 4294967296) (by omega); have g9 : ((n : Int) / 4294967296 / 65536).toNat = n / 4294967296 / 65536 := (by omega); rw [g9] at hm; omega)
    | (have g0 := e1 (n) (by omega); have g1 := e3 (n / 4294967296) (by omega); have g9 : ((n : Int) / 4294967296 / 256).toNat = n / 4294967296 / 256 := (by omega); rw [g9] at hm; omega)
    | (have g0 := e1 (n) (by omega); have g9 : ((n : Int) / 4294967296).toNat = n / 4294967296 := (by omega); rw [g9] at hm; omega)
    | (have g0 := e2 (n) (by omega); have g1 := e3 (n / 65536) (by omega); have g9 : ((n : Int) / 65536 / 256).toNat = n / 65536 / 256 := (by omega); rw [g9] at hm; omega)
    | (have g0 := e2 (n) (by omega); have g9 : ((n : Int) / 65536).toNat = n / 65536 := (by omega); rw [g9] at hm; omega)
    | (have g0 := e3 (n) (by omega); have g9 : ((n : Int) / 256).toNat = n / 256 := (by omega); rw [g9] at hm; omega)
    | (have g9 : ((n : Int)).toNat = n := (by omega); rw [g9] at hm; omega)
theorem len_calls (n : Nat) (hn : n < 18446744073709551616) (L : Heap) : HC Tryd.prog 97 [.int .u64 n] L (fun v L' => v = iv (blen n) ∧ L' = L) := by
  refine hc_enter (fun _ _ => Tryd.call97 _ _) Tryd.func97 rfl Tryd.ntmps97 (Nat.le_of_ble_eq_true rfl) ?_; simp only [args0, Nat.reduceAdd]
  repeat' (first | (show HW _ _ _ _ _ _; first | apply hw_seq | apply hw_region | refine g_t ?_ | refine g_f ?_ | (refine g_b (fun h => ?_) (fun h => ?_) <;> ((try simp only [Bool.not_eq_eq_eq_not, Bool.not_true, Bool.not_false, decide_eq_true_eq, decide_eq_false_iff_not, Decidable.not_not, ne_eq, Bool.and_eq_true, beq_iff_eq, and_true, true_and, eq_self, decide_true, Bool.and_true, Bool.true_and, reduceCtorEq, not_true_eq_false, not_false_eq_true] at h); (try (exfalso; first | omega | with_reducible exact h (by assumption) | with_reducible exact absurd h (by assumption))))) | apply hw_skip | apply hw_ret) | (show HO _ _ _ _ _ _ _; first | apply ho_nil | refine g_q (qe S) ?_ | refine g_q (qt S) ?_ | refine g_q (qc8 S) ?_ | refine g_q (qc32 S) ?_ | refine g_q (qC (len64_calls _ hn _)) ?_) | apply seqQ_normal | apply seqQ_ret)
  all_goals (refine fn_ret1 rfl rfl ?_ ⟨?_, rfl⟩; (next => (repeat (first | exact List.Sublist.refl _ | apply List.Sublist.cons))))
  all_goals rfl
def mx : List Int → Int
  | [] => 0
  | x :: r => r.foldl max x
theorem mx_snoc {l : List Int} {y : Int} (h : l ≠ []) : mx (l ++ [y]) = max (mx l) y := by
  cases l with
  | nil => exact absurd rfl h
  | cons x r => simp [mx]
theorem max_calls (a : Option Addr) (cap : Nat) (xs : List Int) (L : Heap) (hR : Rd ic 1 L a xs) (h1 : 1 ≤ xs.length) (hl : xs.length ≤ 1000000) :
    HC Tryd.prog 100 [.slice a xs.length cap] L (fun v L' => v = iv (mx xs) ∧ L' = L) := by
  refine hc_enter (fun _ _ => Tryd.call100 _ _) Tryd.func100 rfl Tryd.ntmps100 (Nat.le_of_ble_eq_true rfl) ?_; simp only [args0, Nat.reduceAdd]
  obtain ⟨b, i, l, E, fr, rfl, hb, hg⟩ := hR.at1 (j := 0) (by omega) (by omega)
  repeat' (first | (show HW _ _ _ _ _ _; first | apply hw_seq | apply hw_region | apply hw_block | apply hw_exit | refine g_t ?_ | refine g_f ?_ | (refine g_b (fun h => ?_) (fun h => ?_) <;> ((try simp only [Bool.not_eq_eq_eq_not, Bool.not_true, Bool.not_false, decide_eq_true_eq, decide_eq_false_iff_not, Decidable.not_not, ne_eq, Bool.and_eq_true, beq_iff_eq, and_true, true_and, eq_self, decide_true, Bool.and_true, Bool.true_and, reduceCtorEq, not_true_eq_false, not_false_eq_true] at h); (try (exfalso; first | omega | with_reducible exact h (by assumption) | with_reducible exact absurd h (by assumption))))) | apply hw_skip | apply hw_ret) | (show HO _ _ _ _ _ _ _; first | apply ho_nil | refine g_q (qe S) ?_ | refine g_q (ql S) ?_) | apply seqQ_normal | apply seqQ_ret | apply seqQ_exit | apply blkQ_here | refine g_bx ?_ | apply blkQ_ret | apply blkQ_normal | apply loopQ_ret | apply loopQ_exit | apply unQ_ret | apply unQ_exit | apply unQ_succ)
  refine hw_loop (σ := Int × Int) (fun s => [(0, .slice (some ⟨b, i, none⟩) xs.length cap), (3, iv s.2), (4, iv s.1)]) (fun _ => L) (fun s => 1 ≤ s.1 ∧ s.1 ≤ xs.length ∧ mx (xs.take s.1.toNat) = s.2) (fun s => (xs.length - s.1).toNat) (1, xs[Int.toNat 0]) (by repeat (first | exact trivial | refine ⟨rfl, ?_⟩)) (List.Sublist.refl _) ⟨by simp, by simp; omega, ?_⟩ ?_
  · cases xs with
    | nil => simp at h1
    | cons x r => rfl
  clear hb hg
  rintro ⟨j, m⟩ ⟨h0, h2, hm⟩
  simp only at h0 h2 hm
  by_cases hlt : j < xs.length
  · obtain ⟨b', i', l', E', fr', e, hb', hg'⟩ := hR.at1 (j := j) (by omega) hlt
    cases e
    repeat' (first | (show HW _ _ _ _ _ _; first | apply hw_seq | apply hw_region | apply hw_block | apply hw_exit | refine g_t ?_ | refine g_f ?_ | (refine g_b (fun h => ?_) (fun h => ?_) <;> ((try simp only [Bool.not_eq_eq_eq_not, Bool.not_true, Bool.not_false, decide_eq_true_eq, decide_eq_false_iff_not, Decidable.not_not, ne_eq, Bool.and_eq_true, beq_iff_eq, and_true, true_and, eq_self, decide_true, Bool.and_true, Bool.true_and, reduceCtorEq, not_true_eq_false, not_false_eq_true] at h); (try (exfalso; first | omega | with_reducible exact h (by assumption) | with_reducible exact absurd h (by assumption))))) | apply hw_skip | apply hw_ret) | (show HO _ _ _ _ _ _ _; first | apply ho_nil | refine g_q (qe S) ?_ | refine g_q (ql S) ?_) | apply seqQ_normal | apply seqQ_ret | apply seqQ_exit | apply blkQ_here | refine g_bx ?_ | apply blkQ_ret | apply blkQ_normal | apply loopQ_ret | apply loopQ_exit | apply unQ_ret | apply unQ_exit | apply unQ_succ)
    refine loopQ_normal (j + 1, _) (by repeat (first | exact trivial | refine ⟨rfl, ?_⟩)) (List.Sublist.refl _) ⟨by show 1 ≤ j + 1; omega, by show j + 1 ≤ (xs.length : Int); omega, ?_⟩ (by show (xs.length - (j + 1)).toNat < (xs.length - j).toNat; omega)
    show mx (xs.take (j + 1).toNat) = _
    rw [take_succ (by omega) hlt, mx_snoc (by intro e; have h5 : (xs.take j.toNat).length = 0 := (by rw [e]; rfl); rw [List.length_take] at h5; omega), hm]
  · repeat' (first | (show HW _ _ _ _ _ _; first | apply hw_seq | apply hw_region | apply hw_block | apply hw_exit | refine g_t ?_ | refine g_f ?_ | (refine g_b (fun h => ?_) (fun h => ?_) <;> ((try simp only [Bool.not_eq_eq_eq_not, Bool.not_true, Bool.not_false, decide_eq_true_eq, decide_eq_false_iff_not, Decidable.not_not, ne_eq, Bool.and_eq_true, beq_iff_eq, and_true, true_and, eq_self, decide_true, Bool.and_true, Bool.true_and, reduceCtorEq, not_true_eq_false, not_false_eq_true] at h); (try (exfalso; first | omega | with_reducible exact h (by assumption) | with_reducible exact absurd h (by assumption))))) | apply hw_skip | apply hw_ret) | (show HO _ _ _ _ _ _ _; first | apply ho_nil | refine g_q (qe S) ?_ | refine g_q (ql S) ?_) | apply seqQ_normal | apply seqQ_ret | apply seqQ_exit | apply blkQ_here | refine g_bx ?_ | apply blkQ_ret | apply blkQ_normal | apply loopQ_ret | apply loopQ_exit | apply unQ_ret | apply unQ_exit | apply unQ_succ)
    (refine fn_ret1 rfl rfl ?_ ⟨?_, rfl⟩; (next => (repeat (first | exact List.Sublist.refl _ | apply List.Sublist.cons))))
    rw [take_all hlt] at hm
    rw [hm]
theorem bad_calls (x : Int) (L : Heap) : HC Tryd.prog 99 [iv x] L (fun v L' => v = .bool (decide (x < 0 ∨ 1000 < x)) ∧ L' = L) := by
  refine hc_enter (fun _ _ => Tryd.call99 _ _) Tryd.func99 rfl Tryd.ntmps99 (Nat.le_of_ble_eq_true rfl) ?_; simp only [args0, Nat.reduceAdd]
  repeat' (first | (show HW _ _ _ _ _ _; first | apply hw_seq | apply hw_region | apply hw_ret) | (show HO _ _ _ _ _ _ _; first | apply ho_nil | refine g_q (qe S) ?_ | refine g_n ?_ | refine g_on ?_ | (refine g_s (fun h => ?_) (fun h => ?_) <;> ((try simp only [Bool.not_eq_eq_eq_not, Bool.not_true, Bool.not_false, decide_eq_true_eq, decide_eq_false_iff_not, Decidable.not_not, ne_eq, Bool.and_eq_true, beq_iff_eq, and_true, true_and, eq_self, decide_true, Bool.and_true, Bool.true_and, reduceCtorEq, not_true_eq_false, not_false_eq_true] at h); (try (exfalso; first | omega | with_reducible exact h (by assumption) | with_reducible exact absurd h (by assumption)))))) | apply seqQ_normal | apply seqQ_ret)
  all_goals (refine fn_ret1 rfl rfl ?_ ⟨?_, rfl⟩; (next => (repeat (first | exact List.Sublist.refl _ | apply List.Sublist.cons))))
  all_goals (refine congrArg Value.bool ?_; first | (refine Eq.symm (decide_eq_true ?_); omega) | (refine Eq.symm (decide_eq_false ?_); omega) | (refine decide_eq_decide.2 ?_; omega))
theorem findIdx_takeA {α : Type} {xs : List α} {f : α → Bool} {j : Int} (h0 : 0 ≤ j) (hlt : j < xs.length) (hn : (xs.take j.toNat).any f = false) (h : f (xs[j.toNat]'(by omega)) = true) : xs.any f = true ∧ (xs.findIdx f : Int) = j := by
  have hj : j.toNat < xs.length := by omega
  refine ⟨List.any_eq_true.2 ⟨_, List.getElem_mem hj, h⟩, ?_⟩
  have : xs.findIdx f = j.toNat := by
    rw [List.findIdx_eq hj]
    refine ⟨h, fun k hk => ?_⟩
    rw [List.any_eq_false] at hn
    have hk' : k < (xs.take j.toNat).length := by simp; omega
    have := hn _ (List.getElem_mem hk')
    rw [List.getElem_take] at this
    simpa using this
  omega
theorem indexI_calls (a : Option Addr) (cap : Nat) (xs : List Int) (F : Nat) (cs : List Value) (f : Int → Bool) (L : Heap) (hR : Rd ic 1 L a xs) (hl : xs.length ≤ 1000000)
    (hf : ∀ s, HC Tryd.prog F (iv s :: cs) L (fun v L' => v = .bool (f s) ∧ L' = L)) :
    HC Tryd.prog 133 [.slice a xs.length cap, .func (.func F) #[] ⟨cs⟩] L (fun v L' => v = iv (if xs.any f then (xs.findIdx f : Int) else -1) ∧ L' = L) := by
  refine hc_enter (fun _ _ => Tryd.call133 _ _) Tryd.func133 rfl Tryd.ntmps133 (Nat.le_of_ble_eq_true rfl) ?_; simp only [args0, Nat.reduceAdd]
  repeat' (first | (show HW _ _ _ _ _ _; first | apply hw_seq | apply hw_region | apply hw_block | apply hw_exit | refine g_t ?_ | refine g_f ?_ | (refine g_b (fun h => ?_) (fun h => ?_) <;> ((try simp only [Bool.not_eq_eq_eq_not, Bool.not_true, Bool.not_false, decide_eq_true_eq, decide_eq_false_iff_not, Decidable.not_not, ne_eq, Bool.and_eq_true, beq_iff_eq, and_true, true_and, eq_self, decide_true, Bool.and_true, Bool.true_and, reduceCtorEq, not_true_eq_false, not_false_eq_true] at h); (try (exfalso; first | omega | with_reducible exact h (by assumption) | with_reducible exact absurd h (by assumption))))) | apply hw_skip | apply hw_ret) | (show HO _ _ _ _ _ _ _; first | apply ho_nil | refine g_q (qe S) ?_ | refine g_q (ql S) ?_) | apply seqQ_normal | apply seqQ_ret | apply seqQ_exit | apply blkQ_here | refine g_bx ?_ | apply blkQ_ret | apply blkQ_normal | apply loopQ_ret | apply loopQ_exit | apply unQ_ret | apply unQ_exit | apply unQ_succ)
  refine hw_loop (σ := Int) (fun j => [(0, .slice a xs.length cap), (1, .func (.func F) #[] ⟨cs⟩), (6, .slice a xs.length cap), (7, iv xs.length), (8, iv j)]) (fun _ => L) (fun j => 0 ≤ j ∧ j ≤ xs.length ∧ (xs.take j.toNat).any f = false) (fun j => (xs.length - j).toNat) 0 (by repeat (first | exact trivial | refine ⟨rfl, ?_⟩)) (List.Sublist.refl _) ⟨by omega, by omega, by simp⟩ ?_
  rintro j ⟨h0, h1, h2⟩
  by_cases hlt : j < xs.length
  · obtain ⟨b, i, l, E, fr, rfl, hb, hg⟩ := hR.at1 h0 hlt
    repeat' (first | (show HW _ _ _ _ _ _; first | apply hw_seq | apply hw_region | apply hw_block | apply hw_exit | refine g_t ?_ | refine g_f ?_ | (refine g_b (fun h => ?_) (fun h => ?_) <;> ((try simp only [Bool.not_eq_eq_eq_not, Bool.not_true, Bool.not_false, decide_eq_true_eq, decide_eq_false_iff_not, Decidable.not_not, ne_eq, Bool.and_eq_true, beq_iff_eq, and_true, true_and, eq_self, decide_true, Bool.and_true, Bool.true_and, reduceCtorEq, not_true_eq_false, not_false_eq_true] at h); (try (exfalso; first | omega | with_reducible exact h (by assumption) | with_reducible exact absurd h (by assumption))))) | apply hw_skip | apply hw_ret) | (show HO _ _ _ _ _ _ _; first | apply ho_nil | refine g_q (qe S) ?_ | refine g_q (ql S) ?_ | refine g_q (qC (hf _)) ?_) | apply seqQ_normal | apply seqQ_ret | apply seqQ_exit | apply blkQ_here | refine g_bx ?_ | apply blkQ_ret | apply blkQ_normal | apply loopQ_ret | apply loopQ_exit | apply unQ_ret | apply unQ_exit | apply unQ_succ)
    · (refine fn_ret1 rfl rfl ?_ ⟨?_, rfl⟩; (next => (repeat (first | exact List.Sublist.refl _ | apply List.Sublist.cons))))
      obtain ⟨e1, e2⟩ := findIdx_takeA h0 hlt h2 (by assumption)
      rw [if_pos e1, e2]
    · exact loopQ_normal (j + 1) (by repeat (first | exact trivial | refine ⟨rfl, ?_⟩)) (List.Sublist.refl _) ⟨by omega, by omega, by rw [take_succ h0 hlt, List.any_append, h2]; simp [*]⟩ (by omega)
  · repeat' (first | (show HW _ _ _ _ _ _; first | apply hw_seq | apply hw_region | apply hw_block | apply hw_exit | refine g_t ?_ | refine g_f ?_ | (refine g_b (fun h => ?_) (fun h => ?_) <;> ((try simp only [Bool.not_eq_eq_eq_not, Bool.not_true, Bool.not_false, decide_eq_true_eq, decide_eq_false_iff_not, Decidable.not_not, ne_eq, Bool.and_eq_true, beq_iff_eq, and_true, true_and, eq_self, decide_true, Bool.and_true, Bool.true_and, reduceCtorEq, not_true_eq_false, not_false_eq_true] at h); (try (exfalso; first | omega | with_reducible exact h (by assumption) | with_reducible exact absurd h (by assumption))))) | apply hw_skip | apply hw_ret) | (show HO _ _ _ _ _ _ _; first | apply ho_nil | refine g_q (qe S) ?_ | refine g_q (ql S) ?_) | apply seqQ_normal | apply seqQ_ret | apply seqQ_exit | apply blkQ_here | refine g_bx ?_ | apply blkQ_ret | apply blkQ_normal | apply loopQ_ret | apply loopQ_exit | apply unQ_ret | apply unQ_exit | apply unQ_succ)
    (refine fn_ret1 rfl rfl ?_ ⟨?_, rfl⟩; (next => (repeat (first | exact List.Sublist.refl _ | apply List.Sublist.cons))))
    rw [take_all hlt] at h2
    rw [if_neg (by simp [h2])]
theorem containsI_calls (a : Option Addr) (cap : Nat) (xs : List Int) (F : Nat) (cs : List Value) (f : Int → Bool) (L : Heap) (hR : Rd ic 1 L a xs) (hl : xs.length ≤ 1000000)
    (hf : ∀ s, HC Tryd.prog F (iv s :: cs) L (fun v L' => v = .bool (f s) ∧ L' = L)) :
    HC Tryd.prog 98 [.slice a xs.length cap, .func (.func F) #[] ⟨cs⟩] L (fun v L' => v = .bool (xs.any f) ∧ L' = L) := by
  refine hc_enter (fun _ _ => Tryd.call98 _ _) Tryd.func98 rfl Tryd.ntmps98 (Nat.le_of_ble_eq_true rfl) ?_; simp only [args0, Nat.reduceAdd]
  repeat' (first | (show HW _ _ _ _ _ _; first | apply hw_seq | apply hw_region | apply hw_ret) | (show HO _ _ _ _ _ _ _; first | apply ho_nil | refine g_q (qe S) ?_ | refine g_q (qC (indexI_calls _ _ _ _ _ f _ hR hl hf)) ?_) | apply seqQ_normal | apply seqQ_ret)
  (refine fn_ret1 rfl rfl ?_ ⟨?_, rfl⟩; (next => (repeat (first | exact List.Sublist.refl _ | apply List.Sublist.cons))))
  refine congrArg Value.bool ?_
  cases hx : xs.any f <;> simp
  done
def badW (x : Int) : Bool := decide (x < 0 ∨ 1000 < x)
/-- which error a list of weights has: by its variable's number -/
def checkW (ws : List Int) : Option Nat := if ws.length < 1 ∨ 7 < ws.length then some 3 else if ws.any badW then some 2 else if mx ws = 0 then some 4 else none
theorem check_calls (T : Nat) (E : Nat → Addr) (a : Option Addr) (cap : Nat) (xs : List Int) (L : Heap) (hG : Er T E [2, 3, 4] L) (hR : Rd ic 1 L a xs) (hl : xs.length ≤ 1000000) :
    HC Tryd.prog 38 [.slice a xs.length cap] L (fun v L' => v = eV T E (checkW xs) ∧ L' = L) := by
  refine hc_enter (fun _ _ => Tryd.call38 _ _) Tryd.func38 rfl Tryd.ntmps38 (Nat.le_of_ble_eq_true rfl) ?_; simp only [args0, Nat.reduceAdd]
  repeat' (first | (show HW _ _ _ _ _ _; first | apply hw_seq | apply hw_region | apply hw_block | apply hw_exit | refine g_t ?_ | refine g_f ?_ | (refine g_b (fun h => ?_) (fun h => ?_) <;> ((try simp only [Bool.not_eq_eq_eq_not, Bool.not_true, Bool.not_false, decide_eq_true_eq, decide_eq_false_iff_not, Decidable.not_not, ne_eq, Bool.and_eq_true, beq_iff_eq, and_true, true_and, eq_self, decide_true, Bool.and_true, Bool.true_and, reduceCtorEq, not_true_eq_false, not_false_eq_true] at h); (try (exfalso; first | omega | with_reducible exact h (by assumption) | with_reducible exact absurd h (by assumption))))) | apply hw_skip | apply hw_ret) | (show HO _ _ _ _ _ _ _; first | apply ho_nil | refine g_q (qe S) ?_ | refine g_q (qg S) ?_ | refine g_q (qC (containsI_calls _ _ _ _ _ badW _ hR hl (fun s => bad_calls s _))) ?_ | refine g_q (qC (max_calls _ _ _ _ hR (by omega) hl)) ?_ | refine g_n ?_ | refine g_on ?_ | (refine g_s (fun h => ?_) (fun h => ?_) <;> ((try simp only [Bool.not_eq_eq_eq_not, Bool.not_true, Bool.not_false, decide_eq_true_eq, decide_eq_false_iff_not, Decidable.not_not, ne_eq, Bool.and_eq_true, beq_iff_eq, and_true, true_and, eq_self, decide_true, Bool.and_true, Bool.true_and, reduceCtorEq, not_true_eq_false, not_false_eq_true] at h); (try (exfalso; first | omega | with_reducible exact h (by assumption) | with_reducible exact absurd h (by assumption)))))) | apply seqQ_normal | apply seqQ_ret | apply seqQ_exit | apply blkQ_here | refine g_bx ?_ | apply blkQ_ret | apply blkQ_normal)
  all_goals (refine fn_ret1 rfl rfl ?_ ⟨?_, rfl⟩; (next => (repeat (first | exact List.Sublist.refl _ | apply List.Sublist.cons))))
  all_goals (unfold checkW)
  all_goals first
    | (rw [if_pos (by omega)]; rfl)
    | (rw [if_neg (by omega), if_pos (by assumption)]; rfl)
    | (rw [if_neg (by omega), if_neg (by simp [*]), if_pos (by assumption)]; rfl)
    | (rw [if_neg (by omega), if_neg (by simp [*]), if_neg (by assumption)]; rfl)
end Go.HL
