/- Texts laid into one, without what the claim does not use. Conditions: none. -/
import Derived.Test.YtkookaogdkdegacGreatDoorMPgE
/-! PwD -/
section
namespace Go.HL
open Go Go.Proofs
set_option linter.unusedVariables false
set_option linter.unusedSimpArgs false
/-- a world's memory as9 one part -/
def wdC (G : WdG) (M : Wm) : List Blk := (wdH G M).flatten
theorem wdC_fl (G : WdG) (M : Wm) (L : Heap) : (wdC G M :: L).flatten = (wdH G M ++ L).flatten := by
  unfold wdC
  rw [List.flatten_cons, List.flatten_append]
/-- a world behind a call, as9 one part -/
def WdQ (G : WdG) (M' : Wm) (L L' : Heap) : Prop := ∃ G', G'.wp = G.wp ∧ WdOk G' M' ∧ L' = wdC G' M' :: L
theorem HC.shutC {F : Nat} {args : List Value} {G : WdG} {M M' : Wm} {L : Heap} {V : Value → List Blk → Prop} (h : HC Tryz.prog F args (wdH G M ++ L) (fun v L' => ∃ c, V v c ∧ WdP G M' (c :: L) L')) : HC Tryz.prog F args (wdC G M :: L) (fun v L' => ∃ c, V v c ∧ WdQ G M' (c :: L) L') := by
  refine HC.post (HC.fl h (wdC_fl G M L).symm) ?_
  rintro v L' ⟨c, hv, G', e1, e2, e3, rfl⟩
  exact ⟨wdC G' M' :: (c :: L), LS.of_eq (wdC_fl G' M' _), c, hv, G', e1, e3, rfl⟩
theorem HC.shutR {F : Nat} {args : List Value} {G : WdG} {M : Wm} {L : Heap} {V : Value → List Blk → Prop} (h : HC Tryz.prog F args (wdH G M ++ L) (fun v L' => ∃ c, V v c ∧ L' = c :: (wdH G M ++ L))) : HC Tryz.prog F args (wdC G M :: L) (fun v L' => ∃ c, V v c ∧ L' = c :: wdC G M :: L) := by
  refine HC.post (HC.fl h (wdC_fl G M L).symm) ?_
  rintro v L' ⟨c, hv, rfl⟩
  refine ⟨c :: wdC G M :: L, ?_, c, hv, rfl⟩
  rw [List.flatten_cons, wdC_fl, List.flatten_cons]
  exact LS.refl _
theorem HC.shutN {F : Nat} {args : List Value} {M : Wm} {L : Heap} {V : Value → WdG → Prop} {K : Heap} (h : HC Tryz.prog F args K (fun v L' => ∃ G, V v G ∧ WdOk G M ∧ L' = wdH G M ++ L)) : HC Tryz.prog F args K (fun v L' => ∃ G, V v G ∧ WdOk G M ∧ L' = wdC G M :: L) := by
  refine HC.post h ?_
  rintro v L' ⟨G, hv, hW, rfl⟩
  exact ⟨wdC G M :: L, LS.of_eq (wdC_fl G M L), G, hv, hW, rfl⟩
theorem run_acc : ∀ (l : List Int) (M : Wm) (a b : List Int), (l.foldl runV (M, a ++ b)) = ((l.foldl runV (M, b)).1, a ++ (l.foldl runV (M, b)).2)
  | [], M, a, b => rfl
  | v :: l, M, a, b => by
    rw [List.foldl_cons, List.foldl_cons]
    unfold runV
    split
    · rename_i hv
      simp only [if_pos hv]
      rw [List.append_assoc]
      exact run_acc l _ a _
    · rename_i hv
      simp only [if_neg hv]
      rw [List.append_assoc]
      exact run_acc l _ a _
theorem run_cut {M : Wm} {l : List Int} (h : l.length ≤ 3000) (n : Nat) : runW M l = ((runW (runW M (l.take n)).1 (l.drop n)).1, (runW M (l.take n)).2 ++ (runW (runW M (l.take n)).1 (l.drop n)).2) := by
  have e1 : (l.take n).take 3000 = l.take n := List.take_of_length_le (by rw [List.length_take]; omega)
  have e2 : (l.drop n).take 3000 = l.drop n := List.take_of_length_le (by rw [List.length_drop]; omega)
  have e3 : l.take 3000 = l.take n ++ l.drop n := by rw [List.take_of_length_le h, List.take_append_drop]
  unfold runW
  rw [e1, e2, e3, List.foldl_append]
  have := run_acc (l.drop n) ((l.take n).foldl runV (M, [])).1 ((l.take n).foldl runV (M, [])).2 []
  rw [List.append_nil] at this
  exact this
theorem check_pos {w : List Int} {e : Nat} (h : checkW w = some e) : 1 ≤ e := by
  unfold checkW at h
  split at h
  · cases h; omega
  split at h
  · cases h; omega
  split at h
  · cases h; omega
  · cases h
attribute [local irreducible] HW HO HQ HD HC QOp Has Upd Puts Gets seqQ blkQ loopQ fnQ actQ nextP unQ MapF
attribute [local irreducible] runW newW
theorem playAgain_calls (T : Nat) (E : Nat → Addr) (a a2 : Option Addr) (cap cap2 : Nat) (w l : List Int) (cut_ : Int) (L : Heap) (hE : Ez T E L) (hR : Rd ic 1 L a w) (hR2 : Rd ic 1 L a2 l) (hcap2 : l.length ≤ cap2) (hd : ∀ v ∈ l, v ≤ 9223372036854775807) :
    HC Tryz.prog 7 [.slice a w.length cap, .slice a2 l.length cap2, iv cut_] L (fun v L' => v = .bool true ∧ L' = L) := by
  have kb := born_calls T E L hE
  have kw := weightsError_calls a cap w L hR
  by_cases hc : checkW w = none
  · rw [hc] at kw
    simp only [cdN'] at kw
    by_cases hlc : l.length ≤ 200 ∧ 0 ≤ cut_ ∧ cut_ ≤ l.length
    · obtain ⟨hl1, hc0, hc1⟩ := hlc
      obtain ⟨c1, c2, -⟩ := check_none hc
      have hM := new_ok hc
      have hnl : (newW w).l.length = 0 := by unfold newW; rfl
      have kn := fun v c L hG hv => wnew_calls T E v w c L hG hv (by omega)
      simp only [hc] at kn
      have kn := fun v c L hG hv => HC.shutN (V := fun u G => u = .tuple ⟨[pt G.wp 0, .nilIface]⟩) (kn v c L hG hv)
      have ko := fun L hR => ownInts_calls a cap w L hR (by omega)
      have ko2 := fun L hR => ownInts_calls a2 cap2 l L hR (by omega)
      have hlt : (l.take cut_.toNat).length = cut_.toNat := by rw [List.length_take]; omega
      have hld : (l.drop cut_.toNat).length = l.length - cut_.toNat := List.length_drop
      have ko3 : ∀ L, Rd ic 1 L a2 l → HC Tryz.prog 18 [.slice a2 cut_.toNat cap2] L (fun v L' => ∃ c, Vec 3 1 ic v (l.take cut_.toNat) c ∧ L' = c :: L) := fun L hR => by
        have := ownInts_calls a2 cap2 (l.take cut_.toNat) L hR.take (by omega)
        rw [hlt] at this
        simpa only [Vec, hlt] using this
      have ko4 : ∀ L, Rd ic 1 L a2 l → HC Tryz.prog 18 [.slice (cut a2 cap2 cut_.toNat 1) (l.length - cut_.toNat) (cap2 - cut_.toNat)] L (fun v L' => ∃ c, Vec 3 1 ic v (l.drop cut_.toNat) c ∧ L' = c :: L) := fun L hR => by
        have := ownInts_calls (cut a2 cap2 cut_.toNat 1) (cap2 - cut_.toNat) (l.drop cut_.toNat) L (hR.drop hcap2) (by omega)
        rw [hld] at this
        simpa only [Vec, hld] using this
      have kr1 := fun G a cap L hE hW hR hcap => HC.shutC (V := fun v c => Vec 3 1 ic v (runW (newW w) l).2 c) (run_calls T E G (newW w) a cap l L hE hW hM (by omega) hR hcap hd)
      have kr2 := fun G a cap L hE hW hR hcap => HC.shutC (V := fun v c => Vec 3 1 ic v (runW (newW w) (l.take cut_.toNat)).2 c) (run_calls T E G (newW w) a cap (l.take cut_.toNat) L hE hW hM (by omega) hR hcap (fun v hv => hd v (List.mem_of_mem_take hv)))
      obtain ⟨hr1, hr1l⟩ := run_ok hM l
      obtain ⟨hr2, hr2l⟩ := run_ok hM (l.take cut_.toNat)
      have hr2L := hr2.len
      obtain ⟨hr3, hr3l⟩ := run_ok hr2.wi (l.drop cut_.toNat)
      have kr3 := fun G a cap L hE hW hR hcap => HC.shutC (V := fun v c => Vec 3 1 ic v (runW (runW (newW w) (l.take cut_.toNat)).1 (l.drop cut_.toNat)).2 c) (run_calls T E G (runW (newW w) (l.take cut_.toNat)).1 a cap (l.drop cut_.toNat) L hE hW hr2.wi (by omega) hR hcap (fun v hv => hd v (List.mem_of_mem_drop hv)))
      have hcut := run_cut (M := newW w) (l := l) (by omega) cut_.toNat
      have hr1L := hr1.len
      have hr1E := hr1.wi.evl
      generalize runW (newW w) l = R1 at *
      generalize runW (newW w) (l.take cut_.toNat) = R2 at *
      generalize runW R2.1 (l.drop cut_.toNat) = R3 at *
      obtain ⟨M1, s1⟩ := R1
      obtain ⟨M2, s2⟩ := R2
      obtain ⟨M3, s3⟩ := R3
      obtain ⟨rfl, rfl⟩ := Prod.mk.inj hcut
      simp only at kr1 kr2 kr3 hr1l hr2l hr3l hr1L hr1E hr2L
      refine hc_enter (fun _ _ => Tryz.call7 _ _) Tryz.func7 rfl Tryz.ntmps7 (Nat.le_of_ble_eq_true rfl) ?_; simp only [args0, Nat.reduceAdd]
      repeat' (first | (show HW _ _ _ _ _ _; first | apply hw_seq | apply hw_region | refine g_t ?_ | refine g_f ?_ | apply hw_skip | apply hw_ret) | (show HO _ _ _ _ _ _ _; first | apply ho_nil | refine g_q (qe S) ?_ | refine g_q (qn S) ?_ | refine g_q (qSl S) ?_ | refine g_q (qSh S) ?_ | refine g_q (qSb S) ?_ | refine g_q (qC (kb)) ?_ | refine g_q (qC (kw)) ?_ | refine g_n ?_ | refine g_on ?_) | ((first | refine g_b (fun h => ?_) (fun h => ?_) | refine g_s (fun h => ?_) (fun h => ?_)) <;> ((try simp only [zA, zB, zC, zD, zE, zF, ne_eq, zG, zH, and_true, true_and, eq_self, zI, zJ, zK, reduceCtorEq, zL, zM] at h); (try (exfalso; first | omega | with_reducible exact h (by assumption) | with_reducible exact absurd h (by assumption))))) | apply seqQ_normal | apply seqQ_ret)
      refine gc (ko _ hR) ?_
      rintro v L' ⟨o1, ho1, rfl⟩
      repeat' (first | (show HW _ _ _ _ _ _; first | apply hw_seq | apply hw_region | refine g_t ?_ | refine g_f ?_ | apply hw_skip | apply hw_ret) | (show HO _ _ _ _ _ _ _; first | apply ho_nil | refine g_q (qe S) ?_ | refine g_q (qn S) ?_ | refine g_q (qSl S) ?_ | refine g_q (qSh S) ?_ | refine g_q (qSb S) ?_ | refine g_q (qC (kb)) ?_ | refine g_q (qC (kw)) ?_ | refine g_n ?_ | refine g_on ?_) | ((first | refine g_b (fun h => ?_) (fun h => ?_) | refine g_s (fun h => ?_) (fun h => ?_)) <;> ((try simp only [zA, zB, zC, zD, zE, zF, ne_eq, zG, zH, and_true, true_and, eq_self, zI, zJ, zK, reduceCtorEq, zL, zM] at h); (try (exfalso; first | omega | with_reducible exact h (by assumption) | with_reducible exact absurd h (by assumption))))) | apply seqQ_normal | apply seqQ_ret)
      refine gc (kn _ _ _ (hE.er [2, 3, 4, 6]) ho1) ?_
      rintro v L' ⟨Ga, rfl, hWa, rfl⟩
      repeat' (first | (show HW _ _ _ _ _ _; first | apply hw_seq | apply hw_region | refine g_t ?_ | refine g_f ?_ | apply hw_skip | apply hw_ret) | (show HO _ _ _ _ _ _ _; first | apply ho_nil | refine g_q (qe S) ?_ | refine g_q (qn S) ?_ | refine g_q (qSl S) ?_ | refine g_q (qSh S) ?_ | refine g_q (qSb S) ?_ | refine g_q (qC (kb)) ?_ | refine g_q (qC (kw)) ?_ | refine g_n ?_ | refine g_on ?_) | ((first | refine g_b (fun h => ?_) (fun h => ?_) | refine g_s (fun h => ?_) (fun h => ?_)) <;> ((try simp only [zA, zB, zC, zD, zE, zF, ne_eq, zG, zH, and_true, true_and, eq_self, zI, zJ, zK, reduceCtorEq, zL, zM] at h); (try (exfalso; first | omega | with_reducible exact h (by assumption) | with_reducible exact absurd h (by assumption))))) | apply seqQ_normal | apply seqQ_ret)
      refine gc (ko _ ((hR.cons _).cons _)) ?_
      rintro v L' ⟨o2, ho2, rfl⟩
      repeat' (first | (show HW _ _ _ _ _ _; first | apply hw_seq | apply hw_region | refine g_t ?_ | refine g_f ?_ | apply hw_skip | apply hw_ret) | (show HO _ _ _ _ _ _ _; first | apply ho_nil | refine g_q (qe S) ?_ | refine g_q (qn S) ?_ | refine g_q (qSl S) ?_ | refine g_q (qSh S) ?_ | refine g_q (qSb S) ?_ | refine g_q (qC (kb)) ?_ | refine g_q (qC (kw)) ?_ | refine g_n ?_ | refine g_on ?_) | ((first | refine g_b (fun h => ?_) (fun h => ?_) | refine g_s (fun h => ?_) (fun h => ?_)) <;> ((try simp only [zA, zB, zC, zD, zE, zF, ne_eq, zG, zH, and_true, true_and, eq_self, zI, zJ, zK, reduceCtorEq, zL, zM] at h); (try (exfalso; first | omega | with_reducible exact h (by assumption) | with_reducible exact absurd h (by assumption))))) | apply seqQ_normal | apply seqQ_ret)
      refine gc (kn _ _ _ (((hE.er [2, 3, 4, 6]).cons _).cons _) ho2) ?_
      rintro v L' ⟨Gb, rfl, hWb, rfl⟩
      repeat' (first | (show HW _ _ _ _ _ _; first | apply hw_seq | apply hw_region | refine g_t ?_ | refine g_f ?_ | apply hw_skip | apply hw_ret) | (show HO _ _ _ _ _ _ _; first | apply ho_nil | refine g_q (qe S) ?_ | refine g_q (qn S) ?_ | refine g_q (qSl S) ?_ | refine g_q (qSh S) ?_ | refine g_q (qSb S) ?_ | refine g_q (qC (kb)) ?_ | refine g_q (qC (kw)) ?_ | refine g_n ?_ | refine g_on ?_) | ((first | refine g_b (fun h => ?_) (fun h => ?_) | refine g_s (fun h => ?_) (fun h => ?_)) <;> ((try simp only [zA, zB, zC, zD, zE, zF, ne_eq, zG, zH, and_true, true_and, eq_self, zI, zJ, zK, reduceCtorEq, zL, zM] at h); (try (exfalso; first | omega | with_reducible exact h (by assumption) | with_reducible exact absurd h (by assumption))))) | apply seqQ_normal | apply seqQ_ret)
      refine gc (ko2 _ ((((hR2.cons _).cons _).cons _).cons _)) ?_
      rintro v L' ⟨o3, ho3, rfl⟩
      obtain ⟨a3, cap3, rfl, hcap3, hR3⟩ := Vec.rd ho3 ic_len
      refine fo 3 ?_
      refine gc (kr1 Ga a3 cap3 _ ((((hE.cons _).cons _).cons _).cons _) hWa (hR3 _) hcap3) ?_
      rintro v L' ⟨f1, hf1, Ga1, e1, hWa1, rfl⟩
      obtain ⟨a4, cap4, rfl, -, hR4⟩ := hf1.rd ic_len
      rw [← e1]
      repeat' (first | (show HW _ _ _ _ _ _; first | apply hw_seq | apply hw_region | refine g_t ?_ | refine g_f ?_ | apply hw_skip | apply hw_ret) | (show HO _ _ _ _ _ _ _; first | apply ho_nil | refine g_q (qe S) ?_ | refine g_q (qn S) ?_ | refine g_q (qSl S) ?_ | refine g_q (qSh S) ?_ | refine g_q (qSb S) ?_ | refine g_q (qC (kb)) ?_ | refine g_q (qC (kw)) ?_ | refine g_n ?_ | refine g_on ?_) | ((first | refine g_b (fun h => ?_) (fun h => ?_) | refine g_s (fun h => ?_) (fun h => ?_)) <;> ((try simp only [zA, zB, zC, zD, zE, zF, ne_eq, zG, zH, and_true, true_and, eq_self, zI, zJ, zK, reduceCtorEq, zL, zM] at h); (try (exfalso; first | omega | with_reducible exact h (by assumption) | with_reducible exact absurd h (by assumption))))) | apply seqQ_normal | apply seqQ_ret)
      refine gc (ko3 _ (by repeat (first | assumption | apply Rd.cons))) ?_
      rintro v L' ⟨o5, ho5, rfl⟩
      obtain ⟨a5, cap5, rfl, hcap5, hR5⟩ := ho5.rd ic_len
      refine fo 4 ?_
      refine gc (kr2 Gb a5 cap5 _ (by repeat (first | exact hE | apply Ez.cons)) hWb (hR5 _) hcap5) ?_
      rintro v L' ⟨f2, hf2, Gb1, e2, hWb1, rfl⟩
      obtain ⟨a6, cap6, rfl, -, hR6⟩ := hf2.rd ic_len
      rw [← e2]
      repeat' (first | (show HW _ _ _ _ _ _; first | apply hw_seq | apply hw_region | refine g_t ?_ | refine g_f ?_ | apply hw_skip | apply hw_ret) | (show HO _ _ _ _ _ _ _; first | apply ho_nil | refine g_q (qe S) ?_ | refine g_q (qn S) ?_ | refine g_q (qSl S) ?_ | refine g_q (qSh S) ?_ | refine g_q (qSb S) ?_ | refine g_q (qC (kb)) ?_ | refine g_q (qC (kw)) ?_ | refine g_n ?_ | refine g_on ?_) | ((first | refine g_b (fun h => ?_) (fun h => ?_) | refine g_s (fun h => ?_) (fun h => ?_)) <;> ((try simp only [zA, zB, zC, zD, zE, zF, ne_eq, zG, zH, and_true, true_and, eq_self, zI, zJ, zK, reduceCtorEq, zL, zM] at h); (try (exfalso; first | omega | with_reducible exact h (by assumption) | with_reducible exact absurd h (by assumption))))) | apply seqQ_normal | apply seqQ_ret)
      refine gc (ko4 _ (by repeat (first | assumption | apply Rd.cons))) ?_
      rintro v L' ⟨o6, ho6, rfl⟩
      obtain ⟨a7, cap7, rfl, hcap7, hR7⟩ := ho6.rd ic_len
      refine fo 1 ?_
      refine gc (kr3 Gb1 a7 cap7 _ (by repeat (first | exact hE | apply Ez.cons)) hWb1 (hR7 _) hcap7) ?_
      rintro v L' ⟨f3, hf3, Gb2, e3, hWb2, rfl⟩
      obtain ⟨a8, cap8, rfl, -, hR8⟩ := hf3.rd ic_len
      rw [← e3]
      repeat' (first | (show HW _ _ _ _ _ _; first | apply hw_seq | apply hw_region | refine g_t ?_ | refine g_f ?_ | apply hw_skip | apply hw_ret) | (show HO _ _ _ _ _ _ _; first | apply ho_nil | refine g_q (qe S) ?_ | refine g_q (qn S) ?_ | refine g_q (qSl S) ?_ | refine g_q (qSh S) ?_ | refine g_q (qSb S) ?_ | refine g_q (qC (kb)) ?_ | refine g_q (qC (kw)) ?_ | refine g_n ?_ | refine g_on ?_) | ((first | refine g_b (fun h => ?_) (fun h => ?_) | refine g_s (fun h => ?_) (fun h => ?_)) <;> ((try simp only [zA, zB, zC, zD, zE, zF, ne_eq, zG, zH, and_true, true_and, eq_self, zI, zJ, zK, reduceCtorEq, zL, zM] at h); (try (exfalso; first | omega | with_reducible exact h (by assumption) | with_reducible exact absurd h (by assumption))))) | apply seqQ_normal | apply seqQ_ret)
      refine fo 3 ?_
      refine wpA S hf2 (by repeat (first | exact hR8 _ | apply Rd.cons)) ic_len ic_one ?_
      intro v'' c'' hv''
      obtain ⟨a9, cap9, rfl, -, hR9⟩ := hv''.rd ic_len
      have ks : ∀ L, Rd ic 1 L a4 (s2 ++ s3) → Rd ic 1 L a9 (s2 ++ s3) → HC Tryz.prog 43 [.slice a4 (s2 ++ s3).length cap4, .slice a9 (s2 ++ s3).length cap9] L (fun v L' => v = .bool true ∧ L' = L) := fun L h1 h2 => by
        have := sameInts_calls a4 a9 cap4 cap9 (s2 ++ s3) (s2 ++ s3) L h1 h2 (by omega)
        rw [decide_eq_true rfl] at this
        exact this
      have kfl := fun G L hW => HC.shutR (V := fun v c => FrVec v M1.l c) (wflying_calls G M1 L hW (by omega))
      have kev := fun G L hW => HC.shutR (V := fun v c => Vec 81 3 ec v M1.ev c) (wevents_calls G M1 L hW (by omega))
      repeat' (first | (show HW _ _ _ _ _ _; first | apply hw_seq | apply hw_region | refine g_t ?_ | refine g_f ?_ | apply hw_skip | apply hw_ret) | (show HO _ _ _ _ _ _ _; first | apply ho_nil | refine g_q (qe S) ?_ | refine g_q (qn S) ?_ | refine g_q (qSl S) ?_ | refine g_q (qSh S) ?_ | refine g_q (qSb S) ?_ | refine g_q (qC (kb)) ?_ | refine g_q (qC (kw)) ?_ | refine g_n ?_ | refine g_on ?_) | ((first | refine g_b (fun h => ?_) (fun h => ?_) | refine g_s (fun h => ?_) (fun h => ?_)) <;> ((try simp only [zA, zB, zC, zD, zE, zF, ne_eq, zG, zH, and_true, true_and, eq_self, zI, zJ, zK, reduceCtorEq, zL, zM] at h); (try (exfalso; first | omega | with_reducible exact h (by assumption) | with_reducible exact absurd h (by assumption))))) | apply seqQ_normal | apply seqQ_ret)
      refine g_q (qC (ks _ (by repeat (first | exact hR4 _ | apply Rd.cons)) (by repeat (first | exact hR9 _ | apply Rd.cons)))) ?_
      repeat' (first | (show HW _ _ _ _ _ _; first | apply hw_seq | apply hw_region | refine g_t ?_ | refine g_f ?_ | apply hw_skip | apply hw_ret) | (show HO _ _ _ _ _ _ _; first | apply ho_nil | refine g_q (qe S) ?_ | refine g_q (qn S) ?_ | refine g_q (qSl S) ?_ | refine g_q (qSh S) ?_ | refine g_q (qSb S) ?_ | refine g_q (qC (kb)) ?_ | refine g_q (qC (kw)) ?_ | refine g_n ?_ | refine g_on ?_) | ((first | refine g_b (fun h => ?_) (fun h => ?_) | refine g_s (fun h => ?_) (fun h => ?_)) <;> ((try simp only [zA, zB, zC, zD, zE, zF, ne_eq, zG, zH, and_true, true_and, eq_self, zI, zJ, zK, reduceCtorEq, zL, zM] at h); (try (exfalso; first | omega | with_reducible exact h (by assumption) | with_reducible exact absurd h (by assumption))))) | apply seqQ_normal | apply seqQ_ret)
      refine fo 5 ?_
      refine gc (kfl Ga1 _ hWa1) ?_
      rintro v L' ⟨c10, hv10, rfl⟩
      obtain ⟨a10, cap10, rfl, -, hR10⟩ := hv10.rd fc_len
      repeat' (first | (show HW _ _ _ _ _ _; first | apply hw_seq | apply hw_region | refine g_t ?_ | refine g_f ?_ | apply hw_skip | apply hw_ret) | (show HO _ _ _ _ _ _ _; first | apply ho_nil | refine g_q (qe S) ?_ | refine g_q (qn S) ?_ | refine g_q (qSl S) ?_ | refine g_q (qSh S) ?_ | refine g_q (qSb S) ?_ | refine g_q (qC (kb)) ?_ | refine g_q (qC (kw)) ?_ | refine g_n ?_ | refine g_on ?_) | ((first | refine g_b (fun h => ?_) (fun h => ?_) | refine g_s (fun h => ?_) (fun h => ?_)) <;> ((try simp only [zA, zB, zC, zD, zE, zF, ne_eq, zG, zH, and_true, true_and, eq_self, zI, zJ, zK, reduceCtorEq, zL, zM] at h); (try (exfalso; first | omega | with_reducible exact h (by assumption) | with_reducible exact absurd h (by assumption))))) | apply seqQ_normal | apply seqQ_ret)
      refine fo 3 ?_
      refine gc (kfl Gb2 _ hWb2) ?_
      rintro v L' ⟨c11, hv11, rfl⟩
      obtain ⟨a11, cap11, rfl, -, hR11⟩ := hv11.rd fc_len
      have ksf : ∀ L, Rd fc 9 L a10 M1.l → Rd fc 9 L a11 M1.l → HC Tryz.prog 44 [.slice a10 M1.l.length cap10, .slice a11 M1.l.length cap11] L (fun v L' => v = .bool true ∧ L' = L) := fun L h1 h2 => by
        have := sameFrames_calls a10 a11 cap10 cap11 M1.l M1.l L h1 h2 (by omega)
        rw [decide_eq_true rfl] at this
        exact this
      repeat' (first | (show HW _ _ _ _ _ _; first | apply hw_seq | apply hw_region | refine g_t ?_ | refine g_f ?_ | apply hw_skip | apply hw_ret) | (show HO _ _ _ _ _ _ _; first | apply ho_nil | refine g_q (qe S) ?_ | refine g_q (qn S) ?_ | refine g_q (qSl S) ?_ | refine g_q (qSh S) ?_ | refine g_q (qSb S) ?_ | refine g_q (qC (kb)) ?_ | refine g_q (qC (kw)) ?_ | refine g_n ?_ | refine g_on ?_) | ((first | refine g_b (fun h => ?_) (fun h => ?_) | refine g_s (fun h => ?_) (fun h => ?_)) <;> ((try simp only [zA, zB, zC, zD, zE, zF, ne_eq, zG, zH, and_true, true_and, eq_self, zI, zJ, zK, reduceCtorEq, zL, zM] at h); (try (exfalso; first | omega | with_reducible exact h (by assumption) | with_reducible exact absurd h (by assumption))))) | apply seqQ_normal | apply seqQ_ret)
      refine g_q (qC (ksf _ (by repeat (first | exact hR10 _ | apply Rd.cons)) (by repeat (first | exact hR11 _ | apply Rd.cons)))) ?_
      repeat' (first | (show HW _ _ _ _ _ _; first | apply hw_seq | apply hw_region | refine g_t ?_ | refine g_f ?_ | apply hw_skip | apply hw_ret) | (show HO _ _ _ _ _ _ _; first | apply ho_nil | refine g_q (qe S) ?_ | refine g_q (qn S) ?_ | refine g_q (qSl S) ?_ | refine g_q (qSh S) ?_ | refine g_q (qSb S) ?_ | refine g_q (qC (kb)) ?_ | refine g_q (qC (kw)) ?_ | refine g_n ?_ | refine g_on ?_) | ((first | refine g_b (fun h => ?_) (fun h => ?_) | refine g_s (fun h => ?_) (fun h => ?_)) <;> ((try simp only [zA, zB, zC, zD, zE, zF, ne_eq, zG, zH, and_true, true_and, eq_self, zI, zJ, zK, reduceCtorEq, zL, zM] at h); (try (exfalso; first | omega | with_reducible exact h (by assumption) | with_reducible exact absurd h (by assumption))))) | apply seqQ_normal | apply seqQ_ret)
      refine fo 3 ?_
      refine gc (kev Ga1 _ hWa1) ?_
      rintro v L' ⟨c12, hv12, rfl⟩
      obtain ⟨a12, cap12, rfl, -, hR12⟩ := hv12.rd ec_len
      repeat' (first | (show HW _ _ _ _ _ _; first | apply hw_seq | apply hw_region | refine g_t ?_ | refine g_f ?_ | apply hw_skip | apply hw_ret) | (show HO _ _ _ _ _ _ _; first | apply ho_nil | refine g_q (qe S) ?_ | refine g_q (qn S) ?_ | refine g_q (qSl S) ?_ | refine g_q (qSh S) ?_ | refine g_q (qSb S) ?_ | refine g_q (qC (kb)) ?_ | refine g_q (qC (kw)) ?_ | refine g_n ?_ | refine g_on ?_) | ((first | refine g_b (fun h => ?_) (fun h => ?_) | refine g_s (fun h => ?_) (fun h => ?_)) <;> ((try simp only [zA, zB, zC, zD, zE, zF, ne_eq, zG, zH, and_true, true_and, eq_self, zI, zJ, zK, reduceCtorEq, zL, zM] at h); (try (exfalso; first | omega | with_reducible exact h (by assumption) | with_reducible exact absurd h (by assumption))))) | apply seqQ_normal | apply seqQ_ret)
      refine fo 3 ?_
      refine gc (kev Gb2 _ hWb2) ?_
      rintro v L' ⟨c13, hv13, rfl⟩
      obtain ⟨a13, cap13, rfl, -, hR13⟩ := hv13.rd ec_len
      repeat' (first | (show HW _ _ _ _ _ _; first | apply hw_seq | apply hw_region | refine g_t ?_ | refine g_f ?_ | apply hw_skip | apply hw_ret) | (show HO _ _ _ _ _ _ _; first | apply ho_nil | refine g_q (qe S) ?_ | refine g_q (qn S) ?_ | refine g_q (qSl S) ?_ | refine g_q (qSh S) ?_ | refine g_q (qSb S) ?_ | refine g_q (qC (kb)) ?_ | refine g_q (qC (kw)) ?_ | refine g_n ?_ | refine g_on ?_) | ((first | refine g_b (fun h => ?_) (fun h => ?_) | refine g_s (fun h => ?_) (fun h => ?_)) <;> ((try simp only [zA, zB, zC, zD, zE, zF, ne_eq, zG, zH, and_true, true_and, eq_self, zI, zJ, zK, reduceCtorEq, zL, zM] at h); (try (exfalso; first | omega | with_reducible exact h (by assumption) | with_reducible exact absurd h (by assumption))))) | apply seqQ_normal | apply seqQ_ret)
      refine gc (backEvents_calls a13 cap13 M1.ev _ (hR13 _) (by omega)) ?_
      rintro v L' ⟨c14, hv14, rfl⟩
      obtain ⟨a14, cap14, rfl, -, hR14⟩ := hv14.rd ec_len
      have kse : ∀ L, Rd ec 3 L a12 M1.ev → Rd ec 3 L a14 M1.ev → HC Tryz.prog 45 [.slice a12 M1.ev.length cap12, .slice a14 M1.ev.length cap14] L (fun v L' => v = .bool true ∧ L' = L) := fun L h1 h2 => by
        have := sameEvents_calls a12 a14 cap12 cap14 M1.ev M1.ev L h1 h2 (by omega)
        rw [decide_eq_true rfl] at this
        exact this
      repeat' (first | (show HW _ _ _ _ _ _; first | apply hw_seq | apply hw_region | refine g_t ?_ | refine g_f ?_ | apply hw_skip | apply hw_ret) | (show HO _ _ _ _ _ _ _; first | apply ho_nil | refine g_q (qe S) ?_ | refine g_q (qn S) ?_ | refine g_q (qSl S) ?_ | refine g_q (qSh S) ?_ | refine g_q (qSb S) ?_ | refine g_q (qC (kb)) ?_ | refine g_q (qC (kw)) ?_ | refine g_n ?_ | refine g_on ?_) | ((first | refine g_b (fun h => ?_) (fun h => ?_) | refine g_s (fun h => ?_) (fun h => ?_)) <;> ((try simp only [zA, zB, zC, zD, zE, zF, ne_eq, zG, zH, and_true, true_and, eq_self, zI, zJ, zK, reduceCtorEq, zL, zM] at h); (try (exfalso; first | omega | with_reducible exact h (by assumption) | with_reducible exact absurd h (by assumption))))) | apply seqQ_normal | apply seqQ_ret)
      refine g_q (qC (kse _ (by repeat (first | exact hR12 _ | apply Rd.cons)) (by repeat (first | exact hR14 _ | apply Rd.cons)))) ?_
      repeat' (first | (show HW _ _ _ _ _ _; first | apply hw_seq | apply hw_region | refine g_t ?_ | refine g_f ?_ | apply hw_skip | apply hw_ret) | (show HO _ _ _ _ _ _ _; first | apply ho_nil | refine g_q (qe S) ?_ | refine g_q (qn S) ?_ | refine g_q (qSl S) ?_ | refine g_q (qSh S) ?_ | refine g_q (qSb S) ?_ | refine g_q (qC (kb)) ?_ | refine g_q (qC (kw)) ?_ | refine g_n ?_ | refine g_on ?_) | ((first | refine g_b (fun h => ?_) (fun h => ?_) | refine g_s (fun h => ?_) (fun h => ?_)) <;> ((try simp only [zA, zB, zC, zD, zE, zF, ne_eq, zG, zH, and_true, true_and, eq_self, zI, zJ, zK, reduceCtorEq, zL, zM] at h); (try (exfalso; first | omega | with_reducible exact h (by assumption) | with_reducible exact absurd h (by assumption))))) | apply seqQ_normal | apply seqQ_ret)
      refine sp1 (L' := L) ?_ ⟨rfl, rfl⟩
      repeat (first | exact LS.refl _ | refine LS.c ?_)
    · refine hc_enter (fun _ _ => Tryz.call7 _ _) Tryz.func7 rfl Tryz.ntmps7 (Nat.le_of_ble_eq_true rfl) ?_; simp only [args0, Nat.reduceAdd]
      repeat' (first | (show HW _ _ _ _ _ _; first | apply hw_seq | apply hw_region | refine g_t ?_ | refine g_f ?_ | apply hw_skip | apply hw_ret) | (show HO _ _ _ _ _ _ _; first | apply ho_nil | refine g_q (qe S) ?_ | refine g_q (qn S) ?_ | refine g_q (qSl S) ?_ | refine g_q (qSh S) ?_ | refine g_q (qSb S) ?_ | refine g_q (qC (kb)) ?_ | refine g_q (qC (kw)) ?_ | refine g_n ?_ | refine g_on ?_) | ((first | refine g_b (fun h => ?_) (fun h => ?_) | refine g_s (fun h => ?_) (fun h => ?_)) <;> ((try simp only [zA, zB, zC, zD, zE, zF, ne_eq, zG, zH, and_true, true_and, eq_self, zI, zJ, zK, reduceCtorEq, zL, zM] at h); (try (exfalso; first | omega | with_reducible exact h (by assumption) | with_reducible exact absurd h (by assumption))))) | apply seqQ_normal | apply seqQ_ret)
      all_goals exact sp1 (LS.refl _) ⟨rfl, rfl⟩
  · obtain ⟨e, he⟩ := Option.ne_none_iff_exists'.1 hc
    rw [he] at kw
    have hpos : ¬ cdN' (some e) ≤ 0 := by
      obtain ⟨k, hk⟩ : ∃ k, e = k + 1 := ⟨e - 1, by have := check_pos he; omega⟩
      subst hk
      simp only [cdN']
      omega
    generalize cdN' (some e) = z at *
    refine hc_enter (fun _ _ => Tryz.call7 _ _) Tryz.func7 rfl Tryz.ntmps7 (Nat.le_of_ble_eq_true rfl) ?_; simp only [args0, Nat.reduceAdd]
    repeat' (first | (show HW _ _ _ _ _ _; first | apply hw_seq | apply hw_region | refine g_t ?_ | refine g_f ?_ | apply hw_skip | apply hw_ret) | (show HO _ _ _ _ _ _ _; first | apply ho_nil | refine g_q (qe S) ?_ | refine g_q (qn S) ?_ | refine g_q (qSl S) ?_ | refine g_q (qSh S) ?_ | refine g_q (qSb S) ?_ | refine g_q (qC (kb)) ?_ | refine g_q (qC (kw)) ?_ | refine g_n ?_ | refine g_on ?_) | ((first | refine g_b (fun h => ?_) (fun h => ?_) | refine g_s (fun h => ?_) (fun h => ?_)) <;> ((try simp only [zA, zB, zC, zD, zE, zF, ne_eq, zG, zH, and_true, true_and, eq_self, zI, zJ, zK, reduceCtorEq, zL, zM] at h); (try (exfalso; first | omega | with_reducible exact h (by assumption) | with_reducible exact absurd h (by assumption))))) | apply seqQ_normal | apply seqQ_ret)
    all_goals exact sp1 (LS.refl _) ⟨rfl, rfl⟩
end Go.HL
end
