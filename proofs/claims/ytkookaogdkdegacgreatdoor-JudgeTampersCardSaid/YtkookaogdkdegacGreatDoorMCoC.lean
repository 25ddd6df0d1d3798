/- Texts laid into one, without what the claim does not use. Conditions: none. -/
import Derived.Test.YtkookaogdkdegacGreatDoorMCoB
/-! JnB -/
section
namespace Go.HL
open Go Go.Proofs
set_option linter.unusedVariables false
set_option linter.unusedSimpArgs false

theorem rd_bytes (b E : Nat) (l : List UInt8) (L : Heap) : Rd uc 1 ([(b, .cells ⟨l.map u8⟩ E)] :: L) (some ⟨b, 0, none⟩) l := by
  refine .inr ⟨b, 0, l.map u8, E, (0, 0), rfl, Zh, fun k x hx => ?_⟩
  have := gets_row (enc := uc) (sz := 1) (fun _ => rfl) l [] [] k x hx
  simpa [u8_flat] using this
theorem zeros_set (n i : Nat) (x : Int) (h : i < n) : (zeros (n - i) ++ numB x i).set (n - 1 - i) (bt x i) = zeros (n - (i + 1)) ++ numB x (i + 1) := by
  have e : zeros (n - i) = zeros (n - (i + 1)) ++ [0] := by
    rw [show n - i = (n - (i + 1)) + 1 by omega]
    simp [zeros, List.replicate_succ']
  rw [e, List.append_assoc, List.set_append_right _ _ (by simp [zeros]; omega)]
  simp [zeros, numB, show n - 1 - i - (n - (i + 1)) = 0 by omega]
structure Ent where
  n : Int
  s : St
def enL (e : Ent) : List Value := [iv e.n, iv e.s.ph, iv e.s.pr, iv e.s.att]
def head (e : Ent) : List UInt8 := numB e.n 4 ++ numB e.s.ph 1 ++ numB e.s.pr 4 ++ numB e.s.att 4
def bodyM (e : Ent) : List UInt8 := head e ++ numB (crc (head e)) 4
set_option maxHeartbeats 2000000 attribute [local irreducible] HW HO HQ HD HC QOp Has Upd Puts Gets seqQ blkQ loopQ fnQ actQ nextP unQ MapF
theorem number_calls (n : Int) (many : Nat) (L : Heap) (hm : many ≤ 8) : HC Tryz.prog 284 [iv n, iv many] L (fun v L' => v = bs (numB n many) ∧ L' = L) := by
  refine Za (fun _ _ => Tryz.call284 _ _) Tryz.func284 rfl Tryz.ntmps284 (Nat.le_of_ble_eq_true rfl) ?_; simp only [args0, Nat.reduceAdd]
  repeat' (first | refine uN ?_ | (refine uB ?_; intro b) | (refine uP ?_ ?_ <;> (intro h; ((try simp only [zs, ne_eq, and_true, true_and, eq_self, reduceCtorEq] at h); try exact zx))) | fail)
  refine Zf (σ := Nat) (fun i => [(0, iv n), (1, iv many), (5, sl b 0 many many), (9, iv many), (10, iv i)]) (fun i => [(b, .cells ⟨(zeros (many - i) ++ numB n i).map u8⟩ 5)] :: L) (fun i => i ≤ many) (fun i => many - i) 0 uS ?_ (by omega) ?_
  · simp [numB, u8_zeros, zeros, u8]
  · intro i i1
    by_cases hlt : i < many
    · have hP : Puts ((zeros (many - i) ++ numB n i).map u8) (0 + ((many : Int) - 1 - (i : Int)).toNat) [.int .u8 (n / 2 ^ (8 * (i : Int)).toNat % 256)] ((zeros (many - (i + 1)) ++ numB n (i + 1)).map u8) := by
        rw [← zeros_set many i n hlt, List.map_set]
        have e : 0 + ((many : Int) - 1 - (i : Int)).toNat = many - 1 - i := by omega
        have e2 : (8 * (i : Int)).toNat = 8 * i := by omega
        have e3 : Value.int .u8 (n / 2 ^ (8 * (i : Int)).toNat % 256) = u8 (bt n i) := by unfold u8; rw [bt_val, e2]
        rw [e, e3]
        exact puts_set (by simp [zeros, numB_len]; omega)
      repeat' (first | refine uN ?_ | (refine uB ?_; intro b) | (refine uP ?_ ?_ <;> (intro h; ((try simp only [zs, ne_eq, and_true, true_and, eq_self, reduceCtorEq] at h); try exact zx))) | fail)
      refine Zg (i + 1) uS (List.Sublist.refl _) (by omega) (by omega)
    · have hi : i = many := by omega
      subst hi
      repeat' (first | refine uN ?_ | (refine uB ?_; intro b) | (refine uP ?_ ?_ <;> (intro h; ((try simp only [zs, ne_eq, and_true, true_and, eq_self, reduceCtorEq] at h); try exact zx))) | fail)
      refine g_q (qtx S (rd_bytes _ _ _ _) ?_) ?_
      · simp [zeros, numB_len]
      · repeat' (first | refine uN ?_ | (refine uB ?_; intro b) | (refine uP ?_ ?_ <;> (intro h; ((try simp only [zs, ne_eq, and_true, true_and, eq_self, reduceCtorEq] at h); try exact zx))) | fail)
        refine fn_ret1 rfl rfl (List.sublist_cons_self _ _) ⟨?_, rfl⟩
        simp [zeros]
theorem jread_calls (s : List UInt8) (L : Heap) (hs : s.length ≤ 7) : HC Tryz.prog 206 [bs s] L (fun v L' => v = iv (rdN s) ∧ L' = L) := by
  refine Za (fun _ _ => Tryz.call206 _ _) Tryz.func206 rfl Tryz.ntmps206 (Nat.le_of_ble_eq_true rfl) ?_; simp only [args0, Nat.reduceAdd]
  repeat' (first | refine uN ?_ | (refine uP ?_ ?_ <;> (intro h; ((try simp only [zs, ne_eq, and_true, true_and, eq_self, reduceCtorEq] at h); try exact zx))) | fail)
  refine Zf (σ := Nat) (fun i => [(0, bs s), (6, iv s.length), (7, iv i), (3, iv (rdN (s.take i)))]) (fun _ => L) (fun i => i ≤ s.length) (fun i => s.length - i) 0 uS (List.Sublist.refl _) (by omega) ?_
  intro i i1
  by_cases hlt : i < s.length
  · have hb := (s.getD (i : Int).toNat 0).toNat_lt
    have hr := rdN_lt (s.take i)
    have hr2 : rdN (s.take i) < 281474976710656 := by
      have : 256 ^ (s.take i).length ≤ 256 ^ 6 := Nat.pow_le_pow_right (by decide) (by simp; omega)
      omega
    repeat' (first | refine uN ?_ | (refine uP ?_ ?_ <;> (intro h; ((try simp only [zs, ne_eq, and_true, true_and, eq_self, reduceCtorEq] at h); try exact zx))) | fail)
    refine Zg (i + 1) ?_ (List.Sublist.refl _) (by omega) (by omega)
    have e : ((((rdN (s.take i) : Nat) : Int) * 2 ^ Int.toNat 8).toNat ||| (((s.getD (i : Int).toNat 0).toNat : Nat) : Int).toNat : Nat) = rdN (s.take (i + 1)) := by
      rw [List.take_succ_eq_append_getElem hlt, rdN_snoc]
      have e1 : (((rdN (s.take i) : Nat) : Int) * 2 ^ Int.toNat 8).toNat = (rdN (s.take i)) <<< 8 := by rw [Nat.shiftLeft_eq]; simp; omega
      have e2 : (((s.getD (i : Int).toNat 0).toNat : Nat) : Int).toNat = (s[i]).toNat := by simp [List.getD, hlt]
      rw [e1, e2, ← Nat.shiftLeft_add_eq_or_of_lt (s[i]).toNat_lt, Nat.shiftLeft_eq]
    rw [← e]
    repeat (first | exact trivial | refine ⟨rfl, ?_⟩)
  · repeat' (first | refine uN ?_ | (refine uP ?_ ?_ <;> (intro h; ((try simp only [zs, ne_eq, and_true, true_and, eq_self, reduceCtorEq] at h); try exact zx))) | fail)
    have hi : i = s.length := by omega
    subst hi
    (refine fn_ret1 rfl rfl ?_ ⟨?_, rfl⟩; (next => (repeat (first | exact List.Sublist.refl _ | apply List.Sublist.cons))))
    rw [List.take_length]
theorem body_calls (e : Ent) (L : Heap) : HC Tryz.prog 252 [.agg ⟨enL e⟩] L (fun v L' => v = bs (bodyM e) ∧ L' = L) := by
  have k1 : ∀ L, HC Tryz.prog 284 [iv e.n, iv 4] L (fun v L' => v = bs (numB e.n 4) ∧ L' = L) := fun L => number_calls e.n 4 L (by decide)
  have k2 : ∀ L, HC Tryz.prog 284 [iv e.s.ph, iv 1] L (fun v L' => v = bs (numB e.s.ph 1) ∧ L' = L) := fun L => number_calls e.s.ph 1 L (by decide)
  have k3 : ∀ L, HC Tryz.prog 284 [iv e.s.pr, iv 4] L (fun v L' => v = bs (numB e.s.pr 4) ∧ L' = L) := fun L => number_calls e.s.pr 4 L (by decide)
  have k4 : ∀ L, HC Tryz.prog 284 [iv e.s.att, iv 4] L (fun v L' => v = bs (numB e.s.att 4) ∧ L' = L) := fun L => number_calls e.s.att 4 L (by decide)
  have k5 : ∀ L, HC Tryz.prog 284 [iv (crc (head e)), iv 4] L (fun v L' => v = bs (numB (crc (head e)) 4) ∧ L' = L) := fun L => number_calls _ 4 L (by decide)
  have k6 : ∀ L, HC Tryz.prog 204 [bs (head e)] L (fun v L' => v = iv (crc (head e)) ∧ L' = L) := fun L => jsum_calls _ L (by simp [head, numB_len])
  have n1 := numB_len e.n 4
  have n2 := numB_len e.s.ph 1
  have n3 := numB_len e.s.pr 4
  have n4 := numB_len e.s.att 4
  have n5 := numB_len (crc (head e)) 4
  refine Za (fun _ _ => Tryz.call252 _ _) Tryz.func252 rfl Tryz.ntmps252 (Nat.le_of_ble_eq_true rfl) ?_; simp only [args0, Nat.reduceAdd]
  repeat' (first | refine uN ?_ | refine g_k S ?_ | refine uC (k1 _) ?_ | refine uC (k2 _) ?_ | refine uC (k3 _) ?_ | refine uC (k4 _) ?_ | refine uC (k5 _) ?_ | refine uC (k6 _) ?_ | (refine uB ?_; intro b) | fail)
  refine fn_ret1 rfl rfl (List.sublist_cons_self _ _) ⟨?_, rfl⟩
  simp [bodyM, head]
def commitB : List UInt8 := [165]
def heldM (k : Int) (s : List UInt8) : Ent :=
  let e : Ent := ⟨rdN (s.take 4), rdN ((s.take 5).drop 4), rdN ((s.take 9).drop 5), rdN ((s.take 13).drop 9)⟩
  if e.n < 1 ∨ e.n % 2 ≠ k ∨ bodyM e ++ commitB ≠ s then ⟨0, 0, 0, 0⟩ else e
def parse (s : List UInt8) : Ent := ⟨rdN (s.take 4), rdN ((s.take 5).drop 4), rdN ((s.take 9).drop 5), rdN ((s.take 13).drop 9)⟩
theorem heldM_eq (k : Int) (s : List UInt8) : heldM k s = if (parse s).n < 1 ∨ (parse s).n % 2 ≠ k ∨ bodyM (parse s) ++ commitB ≠ s then ⟨0, 0, 0, 0⟩ else parse s := rfl
theorem held_calls (k : Int) (s : List UInt8) (L : Heap) (hs : s.length = 18) : HC Tryz.prog 177 [iv k, bs s] L (fun v L' => v = .agg ⟨enL (heldM k s)⟩ ∧ L' = L) := by
  have k1 : ∀ L, HC Tryz.prog 206 [bs (s.take 4)] L (fun v L' => v = iv (rdN (s.take 4)) ∧ L' = L) := fun L => jread_calls _ L (by simp; omega)
  have k2 : ∀ L, HC Tryz.prog 206 [bs ((s.take 5).drop 4)] L (fun v L' => v = iv (rdN ((s.take 5).drop 4)) ∧ L' = L) := fun L => jread_calls _ L (by simp; omega)
  have k3 : ∀ L, HC Tryz.prog 206 [bs ((s.take 9).drop 5)] L (fun v L' => v = iv (rdN ((s.take 9).drop 5)) ∧ L' = L) := fun L => jread_calls _ L (by simp; omega)
  have k4 : ∀ L, HC Tryz.prog 206 [bs ((s.take 13).drop 9)] L (fun v L' => v = iv (rdN ((s.take 13).drop 9)) ∧ L' = L) := fun L => jread_calls _ L (by simp; omega)
  have k5 : ∀ L, HC Tryz.prog 252 [.agg ⟨[iv (rdN (s.take 4)), iv (rdN ((s.take 5).drop 4)), iv (rdN ((s.take 9).drop 5)), iv (rdN ((s.take 13).drop 9))]⟩] L (fun v L' => v = bs (bodyM (parse s)) ∧ L' = L) := fun L => body_calls (parse s) L
  have hn : rdN (s.take 4) < 4294967296 := by
    have := rdN_lt (s.take 4)
    rwa [show (s.take 4).length = 4 by simp; omega] at this
  have hb : (bodyM (parse s)).length = 17 := by simp [bodyM, head, numB_len]
  rw [heldM_eq]
  refine Za (fun _ _ => Tryz.call177 _ _) Tryz.func177 rfl Tryz.ntmps177 (Nat.le_of_ble_eq_true rfl) ?_; simp only [args0, Nat.reduceAdd]
  repeat' (first | refine uN ?_ | refine g_k S ?_ | refine g_w S ?_ | refine uC (k1 _) ?_ | refine uC (k2 _) ?_ | refine uC (k3 _) ?_ | refine uC (k4 _) ?_ | refine uC (k5 _) ?_ | refine uD0 (fun _ => k1 _) ?_ | refine uD1 (fun _ => k1 _) ?_ | refine uD2 (fun _ => k1 _) ?_ | refine uD3 (fun _ => k1 _) ?_ | refine uD0 (fun _ => k2 _) ?_ | refine uD1 (fun _ => k2 _) ?_ | refine uD2 (fun _ => k2 _) ?_ | refine uD3 (fun _ => k2 _) ?_ | refine uD0 (fun _ => k3 _) ?_ | refine uD1 (fun _ => k3 _) ?_ | refine uD2 (fun _ => k3 _) ?_ | refine uD3 (fun _ => k3 _) ?_ | refine uD0 (fun _ => k4 _) ?_ | refine uD1 (fun _ => k4 _) ?_ | refine uD2 (fun _ => k4 _) ?_ | refine uD3 (fun _ => k4 _) ?_ | refine uD0 (fun _ => k5 _) ?_ | refine uD1 (fun _ => k5 _) ?_ | refine uD2 (fun _ => k5 _) ?_ | refine uD3 (fun _ => k5 _) ?_ | (refine uB ?_; intro b) | (refine uP ?_ ?_ <;> (intro h; ((try simp only [zs, ne_eq, and_true, true_and, eq_self, reduceCtorEq] at h); try exact zx))) | refine da 101 ?_ | fail)
  all_goals refine sp1 (LS.skip _ (LS.skip _ (LS.refl _))) ⟨?_, rfl⟩ (hv := rcell S (hg := Zb rfl (Zb rfl (Zb rfl (Zb rfl gets_nil)))))
  · rw [if_pos (.inl h)]; rfl
  · rw [if_pos (.inr (.inl h))]; rfl
  · rw [if_pos (.inr (.inr h))]; rfl
  · rename_i h1 h2
    rw [if_neg (fun h0 => h0.elim h1 (fun h0 => h0.elim (fun h0 => h0 h2) (fun h0 => h0 h)))]; rfl
end Go.HL
end

/-! JnC -/
section
namespace Go.HL
open Go Go.Proofs
set_option linter.unusedVariables false
set_option linter.unusedSimpArgs false

structure Jn where
  l : List Ent
  dead : Bool
def jcells (bp : Nat) (j : Jn) : List Value := [pt bp 0] ++ (j.l.map enL).flatten ++ [.bool j.dead]
def jC (bj bp : Nat) (j : Jn) : List Blk := [(bj, .cells ⟨jcells bp j⟩ 261)]
def zeroE : Ent := ⟨0, 0, 0, 0⟩
def updE (e0 e : Ent) : Ent := if e0.n < e.n then e else e0
def slot (b : List UInt8) (i : Nat) : List UInt8 := (b.drop (i * 18)).take 18
def partE (b : List UInt8) (d : Nat) : Nat → Ent
  | 0 => zeroE
  | k + 1 => updE (partE b d k) (heldM k (slot b (2 * d + k)))
def dealM (b : List UInt8) (d : Nat) : Ent := partE b d 2
def openM (b : List UInt8) : List Ent := (List.range 6).map (dealM b)
def lAt (b : List UInt8) (d k : Nat) : List Ent := (List.range d).map (dealM b) ++ partE b d k :: List.replicate (5 - d) zeroE
theorem lAt_len (b : List UInt8) (d k : Nat) (h : d ≤ 5) : (lAt b d k).length = 6 := by simp [lAt]; omega
theorem lAt_get (b : List UInt8) (d k : Nat) : (lAt b d k)[d]? = some (partE b d k) := by
  rw [lAt, List.getElem?_append_right (by simp)]
  simp
theorem lAt_set (b : List UInt8) (d k : Nat) (e : Ent) (h : e = partE b d (k + 1)) : (lAt b d k).set d e = lAt b d (k + 1) := by
  subst h
  rw [lAt, List.set_append_right _ _ (by simp)]
  simp [lAt]
theorem lAt_next (b : List UInt8) (d : Nat) (h : d < 5) : lAt b d 2 = lAt b (d + 1) 0 := by
  simp only [lAt, List.range_succ, List.map_append, List.map_cons, List.map_nil, List.append_assoc, List.cons_append, List.nil_append, partE]
  rw [show 5 - d = (5 - (d + 1)) + 1 by omega, List.replicate_succ]
  rfl
theorem lAt_last (b : List UInt8) : lAt b 5 2 = openM b := by
  simp [lAt, openM, List.range_succ, dealM]
theorem enL_len (e : Ent) : (enL e).length = 4 := rfl
theorem jgets {bp : Nat} {j : Jn} {d : Nat} {e : Ent} (h : j.l[d]? = some e) : Gets (jcells bp j) (0 + 1 + (d : Int).toNat * 4) (enL e) := by
  have := gets_row (enc := enL) (sz := 4) enL_len j.l [.bool j.dead] [pt bp 0] d e h
  simpa [jcells] using this
theorem jgetsS {bp : Nat} {j : Jn} {d : Nat} {e : Ent} (h : j.l[d]? = some e) : Gets (jcells bp j) (0 + 1 + (d : Int).toNat * 4 + 1) (sc e.s) := fun k v hk => by
  have := jgets (bp := bp) h (k + 1) v (by simpa [enL, sc] using hk)
  rw [show 0 + 1 + (d : Int).toNat * 4 + 1 + k = 0 + 1 + (d : Int).toNat * 4 + (k + 1) by omega]
  exact this
theorem jputs {bp : Nat} {j : Jn} {d : Nat} (e : Ent) (h : d < j.l.length) : Puts (jcells bp j) (0 + 1 + (d : Int).toNat * 4) (enL e) (jcells bp ⟨j.l.set d e, j.dead⟩) := by
  have := puts_row (enc := enL) (sz := 4) enL_len j.l [.bool j.dead] [pt bp 0] d (0 + 1 + (d : Int).toNat * 4) e h (by simp)
  exact this
theorem jdead {bp : Nat} {j : Jn} (h : j.l.length = 6) : (jcells bp j)[0 + 25]? = some (.bool j.dead) := by
  unfold jcells
  rw [List.getElem?_append_right (by simp [flat_length enL_len, h])]
  simp [flat_length enL_len, h]
theorem jputsD {bp : Nat} {j : Jn} (h : j.l.length = 6) (b : Bool) : Puts (jcells bp j) (0 + 25) [.bool b] (jcells bp ⟨j.l, b⟩) := by
  have e : jcells bp ⟨j.l, b⟩ = (jcells bp j).set (0 + 25) (.bool b) := by
    unfold jcells
    rw [List.set_append_right _ _ (by simp [flat_length enL_len, h])]
    simp [flat_length enL_len, h]
  rw [e]
  exact puts_set (by simp [jcells, flat_length enL_len, h])
set_option maxHeartbeats 2000000 attribute [local irreducible] HW HO HQ HD HC QOp Has Upd Puts Gets seqQ blkQ loopQ fnQ actQ nextP unQ MapF
attribute [local irreducible] jcells
theorem get_calls (T : Nat) (E : Nat → Addr) (bj bp : Nat) (j : Jn) (d : Int) (L : Heap) (hG : Er T E [2] L) (hl : j.l.length = 6) : HC Tryz.prog 121 [pt bj 0, iv d] (jC bj bp j :: L) (fun v L' => L' = jC bj bp j :: L ∧
    if d < 0 ∨ 6 ≤ d then v = .tuple ⟨[.agg ⟨[iv 0, iv 0, iv 0]⟩, eV T E (some 2)]⟩ else v = .tuple ⟨[.agg ⟨sc (j.l.getD d.toNat zeroE).s⟩, .nilIface]⟩) := by
  by_cases h0 : d < 0 ∨ 6 ≤ d
  · simp only [if_pos h0]
    refine Za (fun _ _ => Tryz.call121 _ _) Tryz.func121 rfl Tryz.ntmps121 (Nat.le_of_ble_eq_true rfl) ?_; simp only [args0, Nat.reduceAdd]
    repeat' (first | refine uN ?_ | refine g_k S ?_ | refine g_w S ?_ | (refine uB ?_; intro b) | refine dg S 100 (fun _ _ => ?_) | (refine uP ?_ ?_ <;> (intro h; ((try simp only [zs, ne_eq, and_true, true_and, eq_self, reduceCtorEq] at h); try exact zx))) | refine da 101 ?_ | fail)
    · exact sp2 (LS.skip _ (LS.refl _)) ⟨rfl, rfl⟩ (hx := rcell S (hg := Zb rfl (Zb rfl (Zb rfl gets_nil))))
    · exact sp2 (LS.skip _ (LS.refl _)) ⟨rfl, rfl⟩ (hx := rcell S (hg := Zb rfl (Zb rfl (Zb rfl gets_nil))))
  · simp only [if_neg h0]
    obtain ⟨d, rfl⟩ := Int.eq_ofNat_of_zero_le (show 0 ≤ d by omega)
    have he : j.l[d]? = some (j.l.getD d zeroE) := by
      rw [List.getD, List.getElem?_eq_getElem (by omega)]; rfl
    have g1 := jgets (bp := bp) he
    have g2 := jgetsS (bp := bp) he
    refine Za (fun _ _ => Tryz.call121 _ _) Tryz.func121 rfl Tryz.ntmps121 (Nat.le_of_ble_eq_true rfl) ?_; simp only [args0, Nat.reduceAdd]
    repeat' (first | refine uN ?_ | refine g_k S ?_ | refine g_w S ?_ | (refine uB ?_; intro b) | refine dg S 100 (fun _ _ => ?_) | (refine uP ?_ ?_ <;> (intro h; ((try simp only [zs, ne_eq, and_true, true_and, eq_self, reduceCtorEq] at h); try exact zx))) | refine da 101 ?_ | fail)
    refine sp2 (LS.skip _ (LS.refl _)) ⟨rfl, ?_⟩ (hx := rcell S (hg := Zb rfl (Zb rfl (Zb rfl gets_nil))))
    simp [sc]
end Go.HL
end

/-! JnD -/
section
namespace Go.HL
open Go Go.Proofs
set_option linter.unusedVariables false
set_option linter.unusedSimpArgs false

theorem read_slot (m : Pl) (d k : Nat) (hd : d < 6) (hk : k < 2) (hl : 216 ≤ m.b.length) (ho : m.off = false) : readM m ((2 * (d : Int) + (k : Int)) * 18) 18 = (slot m.b (2 * d + k), none) := by
  have h : lookM m ((2 * (d : Int) + (k : Int)) * 18) 18 = none := by
    unfold lookM
    rw [if_neg (by omega), if_neg (by simp [ho])]
  unfold readM slot
  rw [h]
  have e : ((2 * (d : Int) + (k : Int)) * 18).toNat = (2 * d + k) * 18 := by omega
  simp [e]
theorem slot_len (b : List UInt8) (i : Nat) (h : i < 12) (hl : 216 ≤ b.length) : (slot b i).length = 18 := by simp [slot]; omega
def lO (b : List UInt8) (d : Nat) : List Ent := if d < 6 then lAt b d 0 else openM b
theorem lO_next (b : List UInt8) (d : Nat) (h : d < 6) : lAt b d 2 = lO b (d + 1) := by
  unfold lO
  split
  · exact lAt_next b d (by omega)
  · rw [show d = 5 by omega, lAt_last]
theorem lAt_upd (b : List UInt8) (d k : Nat) (h : (partE b d k).n < (heldM k (slot b (2 * d + k))).n) : (lAt b d k).set d (heldM k (slot b (2 * d + k))) = lAt b d (k + 1) :=
  lAt_set b d k _ (by simp [partE, updE, h])
theorem lAt_same (b : List UInt8) (d k : Nat) (h : ¬ (partE b d k).n < (heldM k (slot b (2 * d + k))).n) : lAt b d k = lAt b d (k + 1) := by
  simp [lAt, partE, updE, h]
theorem jC_new (bj bp : Nat) (b : List UInt8) : jC bj bp ⟨lO b 0, false⟩ = [(bj, .cells ⟨[pt bp 0, iv 0, iv 0, iv 0, iv 0, iv 0, iv 0, iv 0, iv 0, iv 0, iv 0, iv 0, iv 0, iv 0, iv 0, iv 0, iv 0, iv 0, iv 0, iv 0, iv 0, iv 0, iv 0, iv 0, iv 0, .bool false]⟩ 261)] := rfl
set_option maxHeartbeats 2000000 attribute [local irreducible] HW HO HQ HD HC QOp Has Upd Puts Gets seqQ blkQ loopQ fnQ actQ nextP unQ MapF
attribute [local irreducible] jcells plC
theorem open_calls (T : Nat) (E : Nat → Addr) (bp ba : Nat) (m : Pl) (L : Heap) (hG : Er T E [2, 6] L) (hl : m.b.length ≤ 1000000) : HC Tryz.prog 120 [pt bp 0] (plC bp ba m :: L) (fun v L' =>
    if m.b.length < 216 then v = .tuple ⟨[.pointer none, eV T E (some 2)]⟩ ∧ L' = plC bp ba m :: L else if m.off then v = .tuple ⟨[.pointer none, eV T E (some 6)]⟩ ∧ L' = plC bp ba m :: L
    else ∃ bj, v = .tuple ⟨[pt bj 0, .nilIface]⟩ ∧ L' = jC bj bp ⟨openM m.b, false⟩ :: plC bp ba m :: L) := by
  have kb := bytes_calls bp ba m L
  have kp := power_calls bp ba m L
  by_cases h1 : m.b.length < 216
  · simp only [if_pos h1]
    refine Za (fun _ _ => Tryz.call120 _ _) Tryz.func120 rfl Tryz.ntmps120 (Nat.le_of_ble_eq_true rfl) ?_; simp only [args0, Nat.reduceAdd]
    repeat' (first | refine uN ?_ | refine g_k S ?_ | refine g_w S ?_ | refine uC (kb) ?_ | refine uD0 (fun _ => kb) ?_ | refine uD1 (fun _ => kb) ?_ | refine uD2 (fun _ => kb) ?_ | refine uD3 (fun _ => kb) ?_ | (refine uB ?_; intro b) | refine dg S 100 (fun _ _ => ?_) | (refine uP ?_ ?_ <;> (intro h; ((try simp only [zs, ne_eq, and_true, true_and, eq_self, reduceCtorEq] at h); try exact zx))) | refine da 101 ?_ | fail)
    exact er2 rfl ⟨rfl, rfl⟩
  · simp only [if_neg h1]
    cases h2 : m.off with
    | true =>
      rw [h2] at kp
      simp only [if_true]
      refine Za (fun _ _ => Tryz.call120 _ _) Tryz.func120 rfl Tryz.ntmps120 (Nat.le_of_ble_eq_true rfl) ?_; simp only [args0, Nat.reduceAdd]
      repeat' (first | refine uN ?_ | refine g_k S ?_ | refine g_w S ?_ | refine uC (kb) ?_ | refine uC (kp) ?_ | refine uD0 (fun _ => kb) ?_ | refine uD1 (fun _ => kb) ?_ | refine uD2 (fun _ => kb) ?_ | refine uD3 (fun _ => kb) ?_ | refine uD0 (fun _ => kp) ?_ | refine uD1 (fun _ => kp) ?_ | refine uD2 (fun _ => kp) ?_ | refine uD3 (fun _ => kp) ?_ | (refine uB ?_; intro b) | refine dg S 100 (fun _ _ => ?_) | (refine uP ?_ ?_ <;> (intro h; ((try simp only [zs, ne_eq, and_true, true_and, eq_self, reduceCtorEq] at h); try exact zx))) | refine da 101 ?_ | fail)
      exact er2 rfl ⟨rfl, rfl⟩
    | false =>
      rw [h2] at kp
      simp only [Bool.false_eq_true, if_false]
      refine Za (fun _ _ => Tryz.call120 _ _) Tryz.func120 rfl Tryz.ntmps120 (Nat.le_of_ble_eq_true rfl) ?_; simp only [args0, Nat.reduceAdd]
      repeat' (first | refine uN ?_ | refine g_k S ?_ | refine g_w S ?_ | refine uC (kb) ?_ | refine uC (kp) ?_ | refine uD0 (fun _ => kb) ?_ | refine uD1 (fun _ => kb) ?_ | refine uD2 (fun _ => kb) ?_ | refine uD3 (fun _ => kb) ?_ | refine uD0 (fun _ => kp) ?_ | refine uD1 (fun _ => kp) ?_ | refine uD2 (fun _ => kp) ?_ | refine uD3 (fun _ => kp) ?_ | (refine uB ?_; intro b) | refine dg S 100 (fun _ _ => ?_) | (refine uP ?_ ?_ <;> (intro h; ((try simp only [zs, ne_eq, and_true, true_and, eq_self, reduceCtorEq] at h); try exact zx))) | refine da 101 ?_ | fail)
      refine fw 1 ?_
      refine Zf (σ := Nat) (fun d => [(0, pt bp 0), (4, pt b 0), (28, iv d)]) (fun d => plC bp ba m :: jC b bp ⟨lO m.b d, false⟩ :: L) (fun d => d ≤ 6) (fun d => 6 - d) 0 uS ?_ (by omega) ?_
      · rw [jC_new]; exact List.Sublist.refl _
      intro d d1
      by_cases hd : d < 6
      · rw [show lO m.b d = lAt m.b d 0 from if_pos hd]
        repeat' (first | refine uN ?_ | refine g_k S ?_ | refine g_w S ?_ | (refine uB ?_; intro b) | refine dg S 100 (fun _ _ => ?_) | (refine uP ?_ ?_ <;> (intro h; ((try simp only [zs, ne_eq, and_true, true_and, eq_self, reduceCtorEq] at h); try exact zx))) | refine da 101 ?_ | fail)
        refine Zf (σ := Nat) (fun k => [(0, pt bp 0), (4, pt b 0), (28, iv d), (5, iv d), (31, iv k)]) (fun k => plC bp ba m :: jC b bp ⟨lAt m.b d k, false⟩ :: L) (fun k => k ≤ 2) (fun k => 2 - k) 0 uS (List.Sublist.refl _) (by omega) ?_
        intro k k1
        by_cases hk : k < 2
        · have kr := read_calls T E bp ba m ((2 * (d : Int) + (k : Int)) * 18) 18 (jC b bp ⟨lAt m.b d k, false⟩ :: L) (hG.cons _) hl
          rw [read_slot m d k hd hk (by omega) h2] at kr
          have kh : ∀ L, HC Tryz.prog 177 [iv k, bs (slot m.b (2 * d + k))] L (fun v L' => v = .agg ⟨enL (heldM k (slot m.b (2 * d + k)))⟩ ∧ L' = L) := fun L => held_calls _ _ L (slot_len _ _ (by omega) (by omega))
          have g1 := jgets (bp := bp) (j := ⟨lAt m.b d k, false⟩) (lAt_get m.b d k)
          have p1 := jputs (bp := bp) (j := ⟨lAt m.b d k, false⟩) (d := d) (heldM k (slot m.b (2 * d + k))) (by simp [lAt_len m.b d k (by omega)]; omega)
          repeat' (first | refine uN ?_ | refine g_k S ?_ | refine g_w S ?_ | refine uC (kr) ?_ | refine uC (kh _) ?_ | refine uD0 (fun _ => kr) ?_ | refine uD1 (fun _ => kr) ?_ | refine uD2 (fun _ => kr) ?_ | refine uD3 (fun _ => kr) ?_ | refine uD0 (fun _ => kh _) ?_ | refine uD1 (fun _ => kh _) ?_ | refine uD2 (fun _ => kh _) ?_ | refine uD3 (fun _ => kh _) ?_ | (refine uB ?_; intro b) | refine dg S 100 (fun _ _ => ?_) | (refine uP ?_ ?_ <;> (intro h; ((try simp only [zs, ne_eq, and_true, true_and, eq_self, reduceCtorEq] at h); try exact zx))) | refine da 101 ?_ | fail)
          · refine Zg (k + 1) uS ?_ (by omega) (by omega)
            rw [← lAt_upd _ _ _ h]
            exact (List.Sublist.refl _).cons _
          · refine Zg (k + 1) uS ?_ (by omega) (by omega)
            rw [← lAt_same _ _ _ h]
            exact (List.Sublist.refl _).cons _
        · rw [show k = 2 by omega]
          repeat' (first | refine uN ?_ | refine g_k S ?_ | refine g_w S ?_ | (refine uB ?_; intro b) | refine dg S 100 (fun _ _ => ?_) | (refine uP ?_ ?_ <;> (intro h; ((try simp only [zs, ne_eq, and_true, true_and, eq_self, reduceCtorEq] at h); try exact zx))) | refine da 101 ?_ | fail)
          refine Zg (d + 1) uS ?_ (by omega) (by omega)
          rw [lO_next _ _ hd]
          exact List.Sublist.refl _
      · rw [show d = 6 by omega]
        repeat' (first | refine uN ?_ | refine g_k S ?_ | refine g_w S ?_ | (refine uB ?_; intro b) | refine dg S 100 (fun _ _ => ?_) | (refine uP ?_ ?_ <;> (intro h; ((try simp only [zs, ne_eq, and_true, true_and, eq_self, reduceCtorEq] at h); try exact zx))) | refine da 101 ?_ | fail)
        refine sp2 (L' := jC b bp ⟨openM m.b, false⟩ :: plC bp ba m :: L) ?_ ⟨b, rfl, rfl⟩
        rw [show lO m.b 6 = openM m.b from rfl]
        exact LS.of_perm (by simp only [List.flatten_cons, ← List.append_assoc]; exact (List.perm_append_comm.append_right _))
end Go.HL
end

/-! JnE -/
section
namespace Go.HL
open Go Go.Proofs
set_option linter.unusedVariables false
set_option linter.unusedSimpArgs false

structure PlOk (m : Pl) : Prop where
  len : m.b.length ≤ 1000000
  lo : -1 ≤ m.cut
  hi : m.cut ≤ 9223372036854775807
theorem lookM_none {m : Pl} {a n : Int} (h : lookM m a n = none) : 0 ≤ a ∧ 0 ≤ n ∧ a + n ≤ m.b.length ∧ m.off = false := by
  unfold lookM at h
  split at h
  · cases h
  · split at h
    · cases h
    · exact ⟨by omega, by omega, by omega, by simp_all⟩
theorem writeM_len (m : Pl) (a : Int) (s : List UInt8) : (writeM m a s).1.b.length = m.b.length := by
  unfold writeM
  cases h : lookM m a s.length with
  | some e => rfl
  | none =>
    obtain ⟨h1, h2, h3, h4⟩ := lookM_none h
    exact splice_len (by simp; omega)
theorem writeM_ok {m : Pl} (h : PlOk m) (a : Int) (s : List UInt8) : PlOk (writeM m a s).1 := by
  refine ⟨by rw [writeM_len]; exact h.len, ?_, ?_⟩
  all_goals
    have h1 := h.lo
    have h2 := h.hi
    unfold writeM
    cases hm : lookM m a s.length with
    | some e => assumption
    | none =>
      simp only [wrOk]
      split
      · omega
      · have : kM m s.length ≤ m.cut.toNat := by unfold kM; rw [if_neg (by assumption)]; omega
        omega
def jAt (deal : Int) (e : Ent) : Int := (2 * deal + e.n % 2) * 18
def jw1 (m : Pl) (deal : Int) (e : Ent) : Pl × Option Nat := match (readM m (jAt deal e + 18 - 1) 1).2 with
  | some x => (m, some x)
  | none => if (readM m (jAt deal e + 18 - 1) 1).1 = [0] then (m, none) else writeM m (jAt deal e + 18 - 1) [0]
def jw2 (m : Pl) (deal : Int) (e : Ent) : Pl × Option Nat := match (jw1 m deal e).2 with
  | some x => ((jw1 m deal e).1, some x)
  | none => writeM (jw1 m deal e).1 (jAt deal e) (bodyM e)
def jwM (m : Pl) (deal : Int) (e : Ent) : Pl × Option Nat := match (jw2 m deal e).2 with
  | some x => ((jw2 m deal e).1, some x)
  | none => writeM (jw2 m deal e).1 (jAt deal e + 18 - 1) commitB
theorem jw1_ok {m : Pl} (h : PlOk m) (deal : Int) (e : Ent) : PlOk (jw1 m deal e).1 := by
  unfold jw1
  split
  · exact h
  · split
    · exact h
    · exact writeM_ok h _ _
theorem jw2_ok {m : Pl} (h : PlOk m) (deal : Int) (e : Ent) : PlOk (jw2 m deal e).1 := by
  unfold jw2
  split
  · exact jw1_ok h _ _
  · exact writeM_ok (jw1_ok h _ _) _ _
theorem jwM_ok {m : Pl} (h : PlOk m) (deal : Int) (e : Ent) : PlOk (jwM m deal e).1 := by
  unfold jwM
  split
  · exact jw2_ok h _ _
  · exact writeM_ok (jw2_ok h _ _) _ _
theorem bodyM_len (e : Ent) : (bodyM e).length = 17 := by simp [bodyM, head, numB_len]
theorem j0 (bp : Nat) (j : Jn) : (jcells bp j)[0 + 0]? = some (pt bp 0) := rfl
set_option maxHeartbeats 2000000 attribute [local irreducible] HW HO HQ HD HC QOp Has Upd Puts Gets seqQ blkQ loopQ fnQ actQ nextP unQ MapF
attribute [local irreducible] jcells plC
theorem jwrite_calls (T : Nat) (E : Nat → Addr) (bj bp ba : Nat) (m : Pl) (j : Jn) (deal : Int) (e : Ent) (L : Heap) (hG : Er T E [2, 6] L) (hm : PlOk m) (hd : 0 ≤ deal ∧ deal < 6) (he : 0 ≤ e.n ∧ e.n ≤ 4294967296) :
    HC Tryz.prog 255 [pt bj 0, iv deal, .agg ⟨enL e⟩] (plC bp ba m :: jC bj bp j :: L) (fun v L' => v = eV T E (jwM m deal e).2 ∧ L' = plC bp ba (jwM m deal e).1 :: jC bj bp j :: L) := by
  have k1 : ∀ L, Er T E [2, 6] L → HC Tryz.prog 176 [pt bp 0, iv ((2 * deal + e.n % 2) * 18 + 18 - 1), iv 1] (plC bp ba m :: L) (fun v L' => v = .tuple ⟨[bs (readM m (jAt deal e + 18 - 1) 1).1, eV T E (readM m (jAt deal e + 18 - 1) 1).2]⟩ ∧ L' = plC bp ba m :: L) := fun L hg => read_calls T E bp ba m (jAt deal e + 18 - 1) 1 L hg hm.len
  have g0 := j0 bp j
  have kb : ∀ L, HC Tryz.prog 252 [.agg ⟨enL e⟩] L (fun v L' => v = bs (bodyM e) ∧ L' = L) := fun L => body_calls e L
  have lb := bodyM_len e
  have o1 := jw1_ok hm deal e
  have o2 := jw2_ok hm deal e
  have w1 : ∀ L, Er T E [2, 6] L → HC Tryz.prog 287 [pt bp 0, iv ((2 * deal + e.n % 2) * 18 + 18 - 1), bs [0]] (plC bp ba m :: L) (fun v L' => v = eV T E (writeM m (jAt deal e + 18 - 1) [0]).2 ∧ L' = plC bp ba (writeM m (jAt deal e + 18 - 1) [0]).1 :: L) := fun L hg => write_calls T E bp ba m (jAt deal e + 18 - 1) [0] L hg hm.len (by simp) ⟨hm.lo, hm.hi⟩
  have w2 : ∀ L, Er T E [2, 6] L → HC Tryz.prog 287 [pt bp 0, iv ((2 * deal + e.n % 2) * 18), bs (bodyM e)] (plC bp ba (jw1 m deal e).1 :: L) (fun v L' => v = eV T E (writeM (jw1 m deal e).1 (jAt deal e) (bodyM e)).2 ∧ L' = plC bp ba (writeM (jw1 m deal e).1 (jAt deal e) (bodyM e)).1 :: L) := fun L hg => write_calls T E bp ba (jw1 m deal e).1 (jAt deal e) (bodyM e) L hg o1.len (by omega) ⟨o1.lo, o1.hi⟩
  have w3 : ∀ L, Er T E [2, 6] L → HC Tryz.prog 287 [pt bp 0, iv ((2 * deal + e.n % 2) * 18 + 18 - 1), bs [165]] (plC bp ba (jw2 m deal e).1 :: L) (fun v L' => v = eV T E (writeM (jw2 m deal e).1 (jAt deal e + 18 - 1) [165]).2 ∧ L' = plC bp ba (writeM (jw2 m deal e).1 (jAt deal e + 18 - 1) [165]).1 :: L) := fun L hg => write_calls T E bp ba (jw2 m deal e).1 (jAt deal e + 18 - 1) commitB L hg o2.len (by simp [commitB]) ⟨o2.lo, o2.hi⟩
  refine Za (fun _ _ => Tryz.call255 _ _) Tryz.func255 rfl Tryz.ntmps255 (Nat.le_of_ble_eq_true rfl) ?_; simp only [args0, Nat.reduceAdd]
  repeat' (first | refine uN ?_ | refine g_k S ?_ | (refine uB ?_; intro b) | (refine uP ?_ ?_ <;> (intro h; ((try simp only [zs, ne_eq, and_true, true_and, eq_self, reduceCtorEq] at h); try exact zx))) | fail)
  refine fo 1 ?_
  have fin : ∀ (b : Nat) (o : Obj) (m' : Pl), LS (plC bp ba m' :: jC bj bp j :: L).flatten (plC bp ba m' :: [(b, o)] :: jC bj bp j :: L).flatten := fun b o m' => LS.boths _ (LS.skip _ (LS.refl _))
  cases h1 : (readM m (jAt deal e + 18 - 1) 1).2 with
  | some x =>
    have e1 : jwM m deal e = (m, some x) := by simp [jwM, jw2, jw1, h1]
    rw [h1] at k1
    refine gc (k1 _ ((hG.cons _).cons _)) ?_
    rintro v L' ⟨rfl, rfl⟩
    repeat' (first | refine uN ?_ | refine g_k S ?_ | (refine uB ?_; intro b) | (refine uP ?_ ?_ <;> (intro h; ((try simp only [zs, ne_eq, and_true, true_and, eq_self, reduceCtorEq] at h); try exact zx))) | fail)
    rw [e1]
    exact sp1 (fin _ _ _) ⟨rfl, rfl⟩
  | none =>
    rw [h1] at k1
    refine gc (k1 _ ((hG.cons _).cons _)) ?_
    rintro v L' ⟨rfl, rfl⟩
    by_cases h0 : (readM m (jAt deal e + 18 - 1) 1).1 = [0]
    · have e1 : jw1 m deal e = (m, none) := by simp [jw1, h1, h0]
      rw [e1] at w2
      repeat' (first | refine uN ?_ | refine g_d S ?_ | refine uC (kb _) ?_ | refine uD0 (fun _ => kb _) ?_ | refine uD1 (fun _ => kb _) ?_ | refine uD2 (fun _ => kb _) ?_ | refine uD3 (fun _ => kb _) ?_ | (refine uB ?_; intro b) | (refine uP ?_ ?_ <;> (intro h; ((try simp only [zs, ne_eq, and_true, true_and, eq_self, reduceCtorEq] at h); try exact zx))) | refine da 101 ?_ | fail)
      all_goals try exact absurd h0 h
      refine gc (w2 _ ((hG.cons _).cons _)) ?_
      rintro v L' ⟨rfl, rfl⟩
      have e2 : jw2 m deal e = writeM m (jAt deal e) (bodyM e) := by simp [jw2, e1]
      rw [← e2]
      cases h2 : (jw2 m deal e).2 with
      | some x =>
        have e3 : jwM m deal e = ((jw2 m deal e).1, some x) := by simp [jwM, h2]
        repeat' (first | refine uN ?_ | refine g_d S ?_ | refine uC (kb _) ?_ | refine uD0 (fun _ => kb _) ?_ | refine uD1 (fun _ => kb _) ?_ | refine uD2 (fun _ => kb _) ?_ | refine uD3 (fun _ => kb _) ?_ | (refine uB ?_; intro b) | (refine uP ?_ ?_ <;> (intro h; ((try simp only [zs, ne_eq, and_true, true_and, eq_self, reduceCtorEq] at h); try exact zx))) | refine da 101 ?_ | fail)
        rw [e3]
        exact sp1 (fin _ _ _) ⟨rfl, rfl⟩
      | none =>
        have e3 : jwM m deal e = writeM (jw2 m deal e).1 (jAt deal e + 18 - 1) [165] := by simp [jwM, h2, commitB]
        rw [← e3] at w3
        repeat' (first | refine uN ?_ | refine g_d S ?_ | refine uC (kb _) ?_ | refine uD0 (fun _ => kb _) ?_ | refine uD1 (fun _ => kb _) ?_ | refine uD2 (fun _ => kb _) ?_ | refine uD3 (fun _ => kb _) ?_ | (refine uB ?_; intro b) | (refine uP ?_ ?_ <;> (intro h; ((try simp only [zs, ne_eq, and_true, true_and, eq_self, reduceCtorEq] at h); try exact zx))) | refine da 101 ?_ | fail)
        refine gc (w3 _ ((hG.cons _).cons _)) ?_
        rintro v L' ⟨rfl, rfl⟩
        repeat' (first | refine uN ?_ | refine g_d S ?_ | refine uC (kb _) ?_ | refine uD0 (fun _ => kb _) ?_ | refine uD1 (fun _ => kb _) ?_ | refine uD2 (fun _ => kb _) ?_ | refine uD3 (fun _ => kb _) ?_ | (refine uB ?_; intro b) | (refine uP ?_ ?_ <;> (intro h; ((try simp only [zs, ne_eq, and_true, true_and, eq_self, reduceCtorEq] at h); try exact zx))) | refine da 101 ?_ | fail)
        exact sp1 (fin _ _ _) ⟨rfl, rfl⟩
    · have e1 : jw1 m deal e = writeM m (jAt deal e + 18 - 1) [0] := by simp [jw1, h1, h0]
      rw [← e1] at w1
      repeat' (first | refine uN ?_ | refine g_d S ?_ | refine uC (kb _) ?_ | refine uD0 (fun _ => kb _) ?_ | refine uD1 (fun _ => kb _) ?_ | refine uD2 (fun _ => kb _) ?_ | refine uD3 (fun _ => kb _) ?_ | (refine uB ?_; intro b) | (refine uP ?_ ?_ <;> (intro h; ((try simp only [zs, ne_eq, and_true, true_and, eq_self, reduceCtorEq] at h); try exact zx))) | refine da 101 ?_ | fail)
      all_goals try exact absurd h h0
      refine gc (w1 _ ((hG.cons _).cons _)) ?_
      rintro v L' ⟨rfl, rfl⟩
      cases h4 : (jw1 m deal e).2 with
      | some x =>
        have e3 : jwM m deal e = ((jw1 m deal e).1, some x) := by simp [jwM, jw2, h4]
        repeat' (first | refine uN ?_ | refine g_d S ?_ | refine uC (kb _) ?_ | refine uD0 (fun _ => kb _) ?_ | refine uD1 (fun _ => kb _) ?_ | refine uD2 (fun _ => kb _) ?_ | refine uD3 (fun _ => kb _) ?_ | (refine uB ?_; intro b) | (refine uP ?_ ?_ <;> (intro h; ((try simp only [zs, ne_eq, and_true, true_and, eq_self, reduceCtorEq] at h); try exact zx))) | refine da 101 ?_ | fail)
        rw [e3]
        exact sp1 (fin _ _ _) ⟨rfl, rfl⟩
      | none =>
        have e2 : jw2 m deal e = writeM (jw1 m deal e).1 (jAt deal e) (bodyM e) := by simp [jw2, h4]
        rw [← e2] at w2
        repeat' (first | refine uN ?_ | refine g_d S ?_ | refine uC (kb _) ?_ | refine uD0 (fun _ => kb _) ?_ | refine uD1 (fun _ => kb _) ?_ | refine uD2 (fun _ => kb _) ?_ | refine uD3 (fun _ => kb _) ?_ | (refine uB ?_; intro b) | (refine uP ?_ ?_ <;> (intro h; ((try simp only [zs, ne_eq, and_true, true_and, eq_self, reduceCtorEq] at h); try exact zx))) | refine da 101 ?_ | fail)
        refine gc (w2 _ ((hG.cons _).cons _)) ?_
        rintro v L' ⟨rfl, rfl⟩
        cases h2 : (jw2 m deal e).2 with
        | some x =>
          have e3 : jwM m deal e = ((jw2 m deal e).1, some x) := by simp [jwM, h2]
          repeat' (first | refine uN ?_ | refine g_d S ?_ | refine uC (kb _) ?_ | refine uD0 (fun _ => kb _) ?_ | refine uD1 (fun _ => kb _) ?_ | refine uD2 (fun _ => kb _) ?_ | refine uD3 (fun _ => kb _) ?_ | (refine uB ?_; intro b) | (refine uP ?_ ?_ <;> (intro h; ((try simp only [zs, ne_eq, and_true, true_and, eq_self, reduceCtorEq] at h); try exact zx))) | refine da 101 ?_ | fail)
          rw [e3]
          exact sp1 (fin _ _ _) ⟨rfl, rfl⟩
        | none =>
          have e3 : jwM m deal e = writeM (jw2 m deal e).1 (jAt deal e + 18 - 1) [165] := by simp [jwM, h2, commitB]
          rw [← e3] at w3
          repeat' (first | refine uN ?_ | refine g_d S ?_ | refine uC (kb _) ?_ | refine uD0 (fun _ => kb _) ?_ | refine uD1 (fun _ => kb _) ?_ | refine uD2 (fun _ => kb _) ?_ | refine uD3 (fun _ => kb _) ?_ | (refine uB ?_; intro b) | (refine uP ?_ ?_ <;> (intro h; ((try simp only [zs, ne_eq, and_true, true_and, eq_self, reduceCtorEq] at h); try exact zx))) | refine da 101 ?_ | fail)
          refine gc (w3 _ ((hG.cons _).cons _)) ?_
          rintro v L' ⟨rfl, rfl⟩
          repeat' (first | refine uN ?_ | refine g_d S ?_ | refine uC (kb _) ?_ | refine uD0 (fun _ => kb _) ?_ | refine uD1 (fun _ => kb _) ?_ | refine uD2 (fun _ => kb _) ?_ | refine uD3 (fun _ => kb _) ?_ | (refine uB ?_; intro b) | (refine uP ?_ ?_ <;> (intro h; ((try simp only [zs, ne_eq, and_true, true_and, eq_self, reduceCtorEq] at h); try exact zx))) | refine da 101 ?_ | fail)
          exact sp1 (fin _ _ _) ⟨rfl, rfl⟩
end Go.HL
end

/-! JnF -/
section
namespace Go.HL
open Go Go.Proofs
set_option linter.unusedVariables false
set_option linter.unusedSimpArgs false

def badPut (deal : Int) (s : St) : Prop := deal < 0 ∨ 6 ≤ deal ∨ s.ph < 0 ∨ 255 < s.ph ∨ s.pr < 0 ∨ s.att < 0 ∨ 1048576 < max s.pr s.att
instance (deal : Int) (s : St) : Decidable (badPut deal s) := by unfold badPut; infer_instance
instance : DecidableEq St := fun a b => decidable_of_iff (a.ph = b.ph ∧ a.pr = b.pr ∧ a.att = b.att) (by
  obtain ⟨a1, a2, a3⟩ := a
  obtain ⟨b1, b2, b3⟩ := b
  simp)
theorem St.ext3 {a b : St} (h : a.ph = b.ph ∧ a.pr = b.pr ∧ a.att = b.att) : a = b := by
  obtain ⟨a1, a2, a3⟩ := a
  obtain ⟨b1, b2, b3⟩ := b
  simp_all
def putM (m : Pl) (j : Jn) (deal : Int) (s : St) : Pl × Jn × Option Nat :=
  if j.dead = true then (m, j, some 6) else if badPut deal s then (m, j, some 2) else
  if (j.l.getD deal.toNat zeroE).s = s then (m, j, none) else
  if 4294967296 ≤ (j.l.getD deal.toNat zeroE).n + 1 then (m, j, some 5) else
  match (jwM m deal ⟨(j.l.getD deal.toNat zeroE).n + 1, s⟩).2 with
  | some x => ((jwM m deal ⟨(j.l.getD deal.toNat zeroE).n + 1, s⟩).1, ⟨j.l, true⟩, some x)
  | none => ((jwM m deal ⟨(j.l.getD deal.toNat zeroE).n + 1, s⟩).1, ⟨j.l.set deal.toNat ⟨(j.l.getD deal.toNat zeroE).n + 1, s⟩, j.dead⟩, none)
structure JnOk (j : Jn) : Prop where
  len : j.l.length = 6
  n0 : ∀ d, 0 ≤ (j.l.getD d zeroE).n
  n1 : ∀ d, (j.l.getD d zeroE).n ≤ 4294967296
set_option maxHeartbeats 2000000 attribute [local irreducible] HW HO HQ HD HC QOp Has Upd Puts Gets seqQ blkQ loopQ fnQ actQ nextP unQ MapF
attribute [local irreducible] jcells plC
theorem put_calls (T : Nat) (E : Nat → Addr) (bj bp ba : Nat) (m : Pl) (j : Jn) (deal : Int) (s : St) (L : Heap) (hG : Er T E [2, 5, 6] L) (hm : PlOk m) (hj : JnOk j) :
    HC Tryz.prog 184 [pt bj 0, iv deal, .agg ⟨sc s⟩] (plC bp ba m :: jC bj bp j :: L) (fun v L' => v = eV T E (putM m j deal s).2.2 ∧ L' = plC bp ba (putM m j deal s).1 :: jC bj bp (putM m j deal s).2.1 :: L) := by
  have gd := jdead (bp := bp) hj.len
  by_cases h1 : j.dead = true
  · rw [h1] at gd
    rw [show putM m j deal s = (m, j, some 6) from if_pos h1]
    refine Za (fun _ _ => Tryz.call184 _ _) Tryz.func184 rfl Tryz.ntmps184 (Nat.le_of_ble_eq_true rfl) ?_; simp only [args0, Nat.reduceAdd]
    repeat' (first | refine uN ?_ | refine g_d S ?_ | (refine uB ?_; intro b) | refine dg S 100 (fun _ _ => ?_) | (refine uP ?_ ?_ <;> (intro h; ((try simp only [zs, ne_eq, and_true, true_and, eq_self, reduceCtorEq] at h); try exact zx))) | refine da 101 ?_ | fail)
    exact sp1 (LS.skip _ (LS.refl _)) ⟨rfl, rfl⟩
  by_cases h2 : badPut deal s
  · rw [show j.dead = false by simpa using h1] at gd
    rw [show putM m j deal s = (m, j, some 2) by unfold putM; rw [if_neg h1, if_pos h2]]
    unfold badPut at h2
    refine Za (fun _ _ => Tryz.call184 _ _) Tryz.func184 rfl Tryz.ntmps184 (Nat.le_of_ble_eq_true rfl) ?_; simp only [args0, Nat.reduceAdd]
    repeat' (first | refine uN ?_ | refine g_d S ?_ | (refine uB ?_; intro b) | refine dg S 100 (fun _ _ => ?_) | (refine uP ?_ ?_ <;> (intro h; ((try simp only [zs, ne_eq, and_true, true_and, eq_self, reduceCtorEq] at h); try exact zx))) | refine da 101 ?_ | fail)
    all_goals exact sp1 (LS.skip _ (LS.refl _)) ⟨rfl, rfl⟩
  rw [show j.dead = false by simpa using h1] at gd
  have hb := h2
  unfold badPut at hb
  obtain ⟨d, rfl⟩ := Int.eq_ofNat_of_zero_le (show 0 ≤ deal by omega)
  have hd : d < 6 := by omega
  have hlen := hj.len
  have n0 := hj.n0 d
  have n1 := hj.n1 d
  have hp : putM m j d s = if (j.l.getD d zeroE).s = s then (m, j, none) else if 4294967296 ≤ (j.l.getD d zeroE).n + 1 then (m, j, some 5) else
      match (jwM m d ⟨(j.l.getD d zeroE).n + 1, s⟩).2 with
      | some x => ((jwM m d ⟨(j.l.getD d zeroE).n + 1, s⟩).1, ⟨j.l, true⟩, some x)
      | none => ((jwM m d ⟨(j.l.getD d zeroE).n + 1, s⟩).1, ⟨j.l.set d ⟨(j.l.getD d zeroE).n + 1, s⟩, j.dead⟩, none) := by
    unfold putM; rw [if_neg h1, if_neg h2]; rfl
  have he : j.l[d]? = some (j.l.getD d zeroE) := by
    rw [List.getD, List.getElem?_eq_getElem (by omega)]; rfl
  have g1 := jgets (bp := bp) he
  have g2 := jgetsS (bp := bp) he
  have pD := jputsD (bp := bp) hlen true
  have p1 := jputs (bp := bp) (j := j) (d := d) ⟨(j.l.getD d zeroE).n + 1, s⟩ (by omega)
  have kw := jwrite_calls T E bj bp ba m j d ⟨(j.l.getD d zeroE).n + 1, s⟩
  generalize hE : j.l.getD d zeroE = e at *
  clear hj h2 he hE
  by_cases h3 : e.s = s
  · rw [hp, if_pos h3]
    subst h3
    refine Za (fun _ _ => Tryz.call184 _ _) Tryz.func184 rfl Tryz.ntmps184 (Nat.le_of_ble_eq_true rfl) ?_; simp only [args0, Nat.reduceAdd]
    repeat' (first | refine uN ?_ | refine g_d S ?_ | (refine uB ?_; intro b) | refine dg S 100 (fun _ _ => ?_) | (refine uP ?_ ?_ <;> (intro h; ((try simp only [zs, ne_eq, and_true, true_and, eq_self, reduceCtorEq] at h); try exact zx))) | refine da 101 ?_ | fail)
    exact sp1 (LS.skip _ (LS.refl _)) ⟨rfl, rfl⟩
  have h3' : ¬ (e.s.ph = s.ph ∧ e.s.pr = s.pr ∧ e.s.att = s.att) := fun h => h3 (St.ext3 h)
  by_cases h4 : 4294967296 ≤ e.n + 1
  · rw [hp, if_neg h3, if_pos h4]
    refine Za (fun _ _ => Tryz.call184 _ _) Tryz.func184 rfl Tryz.ntmps184 (Nat.le_of_ble_eq_true rfl) ?_; simp only [args0, Nat.reduceAdd]
    repeat' (first | refine uN ?_ | refine g_d S ?_ | (refine uB ?_; intro b) | refine dg S 100 (fun _ _ => ?_) | (refine uP ?_ ?_ <;> (intro h; ((try simp only [zs, ne_eq, and_true, true_and, eq_self, reduceCtorEq] at h); try exact zx))) | refine da 101 ?_ | fail)
    exact sp1 (LS.skip _ (LS.skip _ (LS.refl _))) ⟨rfl, rfl⟩
  · rw [hp, if_neg h3, if_neg h4]
    have fin : ∀ (b b' : Nat) (o o' : Obj) (m' : Pl) (c : List Blk), LS (plC bp ba m' :: c :: L).flatten (plC bp ba m' :: c :: [(b, o)] :: [(b', o')] :: L).flatten := fun b b' o o' m' c => LS.boths _ (LS.boths _ (LS.skip _ (LS.skip _ (LS.refl _))))
    refine Za (fun _ _ => Tryz.call184 _ _) Tryz.func184 rfl Tryz.ntmps184 (Nat.le_of_ble_eq_true rfl) ?_; simp only [args0, Nat.reduceAdd]
    repeat' (first | refine uN ?_ | refine g_d S ?_ | (refine uB ?_; intro b) | refine dg S 100 (fun _ _ => ?_) | (refine uP ?_ ?_ <;> (intro h; ((try simp only [zs, ne_eq, and_true, true_and, eq_self, reduceCtorEq] at h); try exact zx))) | refine da 101 ?_ | fail)
    refine fo 3 ?_
    refine fo 3 ?_
    refine gc (kw _ ((hG.cons _).cons _).sub hm (by omega) (by simp only; omega)) ?_
    rintro v L' ⟨rfl, rfl⟩
    cases h5 : (jwM m d ⟨e.n + 1, s⟩).2 with
    | some x =>
      repeat' (first | refine uN ?_ | refine g_d S ?_ | (refine uB ?_; intro b) | refine dg S 100 (fun _ _ => ?_) | (refine uP ?_ ?_ <;> (intro h; ((try simp only [zs, ne_eq, and_true, true_and, eq_self, reduceCtorEq] at h); try exact zx))) | refine da 101 ?_ | fail)
      exact sp1 (fin _ _ _ _ _ _) ⟨rfl, rfl⟩
    | none =>
      repeat' (first | refine uN ?_ | refine g_d S ?_ | (refine uB ?_; intro b) | refine dg S 100 (fun _ _ => ?_) | (refine uP ?_ ?_ <;> (intro h; ((try simp only [zs, ne_eq, and_true, true_and, eq_self, reduceCtorEq] at h); try exact zx))) | refine da 101 ?_ | fail)
      exact sp1 (fin _ _ _ _ _ _) ⟨rfl, rfl⟩
end Go.HL
end

/-! TabA -/
section
namespace Go.HL
open Go Go.Proofs
set_option linter.unusedVariables false
set_option linter.unusedSimpArgs false
set_option maxHeartbeats 2000000 attribute [local irreducible] HW HO HQ HD HC QOp Has Upd Puts Gets seqQ blkQ loopQ fnQ actQ nextP unQ MapF

def afterS (p : Int) : Int := if p = 4 then 2 else if p = 5 then 3 else 0
theorem after_calls (p : Int) (L : Heap) : HC Tryz.prog 131 [iv p] L (fun v L' => v = iv (afterS p) ∧ L' = L) := by
  refine Za (fun _ _ => Tryz.call131 _ _) Tryz.func131 rfl Tryz.ntmps131 (Nat.le_of_ble_eq_true rfl) ?_; simp only [args0, Nat.reduceAdd]
  repeat' (first | refine uN ?_ | (refine uP ?_ ?_ <;> (intro h; ((try simp only [zs, ne_eq, and_true, true_and, eq_self, reduceCtorEq] at h); try exact zx))) | fail)
  all_goals (refine fn_ret1 rfl rfl ?_ ⟨?_, rfl⟩; (next => (repeat (first | exact List.Sublist.refl _ | apply List.Sublist.cons))))
  all_goals simp [afterS, *]
def mayS (a b : Int) : Bool := decide ((0 ≤ a ∧ a ≤ 5 ∧ 0 ≤ b ∧ b ≤ 5) ∧ (a = b ∨ a = 0 ∨ (a ≠ 2 ∧ a ≠ 3 ∧ b ≠ 0 ∧ (a = 1 ∨ b ≠ 1))))
theorem mayOf_calls (a b : Int) (L : Heap) : HC Tryz.prog 47 [iv a, iv b] L (fun v L' => v = .bool (mayS a b) ∧ L' = L) := by
  refine Za (fun _ _ => Tryz.call47 _ _) Tryz.func47 rfl Tryz.ntmps47 (Nat.le_of_ble_eq_true rfl) ?_; simp only [args0, Nat.reduceAdd]
  repeat' (first | refine uN ?_ | (refine uP ?_ ?_ <;> (intro h; ((try simp only [zs, ne_eq, and_true, true_and, eq_self, reduceCtorEq] at h); try exact zx))) | fail)
  all_goals (refine fn_ret1 rfl rfl ?_ ⟨?_, rfl⟩; (next => (repeat (first | exact List.Sublist.refl _ | apply List.Sublist.cons))))
  all_goals (refine congrArg Value.bool ?_; first | (refine Eq.symm (decide_eq_true ?_); omega) | (refine Eq.symm (decide_eq_false ?_); omega) | (refine decide_eq_decide.2 ?_; omega))
def toldS (xs : List St) (p : Int) : Bool := xs.any fun s => decide (s.ph = p)
def prep (s : St) : Bool := decide (s.ph = 4 ∨ s.ph = 5)
/-- the greatest attempt of those that are prepared; 0 if there are none -/
def bestS : List St → Int → Bool → Int × Bool
  | [], b, first => (b, first)
  | s :: r, b, first => if prep s then (if first || decide (b < s.att) then bestS r s.att false else bestS r b false) else bestS r b first
theorem bestS_append (r : List St) : ∀ (l : List St) (b : Int) (f : Bool), bestS (l ++ r) b f = bestS r (bestS l b f).1 (bestS l b f).2
  | [], b, f => rfl
  | s :: l, b, f => by
    simp only [List.cons_append, bestS]
    split
    · split
      · exact bestS_append r l _ _
      · exact bestS_append r l _ _
    · exact bestS_append r l _ _
def chooseS (xs : List St) : Int × Bool :=
  if toldS xs 2 then (2, true) else if toldS xs 3 then (3, true) else
  if xs.any (fun s => decide (s.ph = 4 ∧ s.att = (bestS xs 0 true).1)) then (4, false) else (5, false)
end Go.HL
end

/-! WcA -/
section
namespace Go.HL
open Go Go.Proofs
set_option linter.unusedVariables false
set_option linter.unusedSimpArgs false
def badF (f : Fr) : Prop := f.fr < 0 ∨ 6 < f.fr ∨ f.to < 0 ∨ 6 < f.to ∨ f.dl < 0 ∨ 5 < f.dl ∨ f.kd < 1 ∨ 7 < f.kd ∨ f.att < 0 ∨ 1048576 < f.att ∨ f.s.pr < 0 ∨ 1048576 < f.s.pr ∨ f.s.att < 0 ∨ 1048576 < f.s.att ∨ f.s.ph < 0 ∨ 5 < f.s.ph
instance (f : Fr) : Decidable (badF f) := by unfold badF; infer_instance
def frameE (f : Fr) : Option Nat := if badF f then some 2 else none
set_option maxHeartbeats 2000000 attribute [local irreducible] HW HO HQ HD HC QOp Has Upd Puts Gets seqQ blkQ loopQ fnQ actQ nextP unQ MapF
set_option maxHeartbeats 1000000 in
theorem wcheck_calls (T : Nat) (E : Nat → Addr) (f : Fr) (L : Heap) (hG : Er T E [2] L) : HC Tryz.prog 182 [.agg ⟨fc f⟩] L (fun v L' => v = eV T E (frameE f) ∧ L' = L) := by
  unfold frameE
  refine Za (fun _ _ => Tryz.call182 _ _) Tryz.func182 rfl Tryz.ntmps182 (Nat.le_of_ble_eq_true rfl) ?_; simp only [args0, Nat.reduceAdd]
  repeat' (first | refine uN ?_ | (refine uB ?_; intro b) | (refine uP ?_ ?_ <;> (intro h; ((try simp only [zs, ne_eq, and_true, true_and, eq_self, reduceCtorEq] at h); try exact zx))) | fail)
  refine hw_rounds 8 ?_
  repeat' (first | refine uN ?_ | (refine uB ?_; intro b) | (refine uP ?_ ?_ <;> (intro h; ((try simp only [zs, ne_eq, and_true, true_and, eq_self, reduceCtorEq] at h); try exact zx))) | fail)
  all_goals first
    | (exact sp1 uZ ⟨by rw [if_pos (by unfold badF; omega)], rfl⟩; done)
    | (exact sp1 uZ ⟨by rw [if_neg (by unfold badF; omega)], rfl⟩; done)
end Go.HL
end

/-! StA -/
section
namespace Go.HL
open Go Go.Proofs
set_option linter.unusedVariables false
set_option linter.unusedSimpArgs false
set_option maxHeartbeats 2000000 attribute [local irreducible] HW HO HQ HD HC QOp Has Upd Puts Gets seqQ blkQ loopQ fnQ actQ nextP unQ MapF
/-- a site: its journal, its number; the deals that it refuses -/
def siC (sp bj mb : Nat) (id : Int) : List Blk := [(sp, .cells ⟨[pt bj 0, iv id, .map (some mb)]⟩ 187)]
def mpC (mb : Nat) (es : List MapEntry) (ck : Nat) : List Blk := [(mb, .map ⟨es⟩ ck)]
def openS (st : St) : Bool := decide (st.ph ≠ 2 ∧ st.ph ≠ 3)
def askM (ref : Int → Bool) (f : Fr) (st : St) : St := if st.ph = 0 then (if ref f.dl then { st with ph := 3 } else { st with ph := 1 }) else st
/-- the state behind a frame, the answer's kind, whether it is yes -/
def turnM (ref : Int → Bool) (f : Fr) (st : St) : St × Int × Bool :=
  if f.kd = 1 then (askM ref f st, 2, decide ((askM ref f st).ph ≠ 3)) else
  if f.kd = 3 then ({ st with pr := max st.pr f.att }, 4, decide (st.pr < f.att)) else
  if f.kd = 5 then (if afterS f.s.ph = 0 then (st, 0, false) else if openS st = true ∧ st.pr ≤ f.att then (⟨f.s.ph, f.att, f.att⟩, 6, true) else (st, 6, false)) else
  if f.kd = 7 then (if openS st = true ∧ (f.s.ph = 2 ∨ f.s.ph = 3) then { st with ph := f.s.ph } else st, 0, false) else (st, 0, false)
set_option maxHeartbeats 1000000 in
theorem turn_calls (sp bj mb : Nat) (id : Int) (es : List MapEntry) (ck : Nat) (ref : Int → Bool) (f : Fr) (st : St) (L : Heap) (hF : MapF iv es ref) :
    HC Tryz.prog 183 [pt sp 0, .agg ⟨fc f⟩, .agg ⟨sc st⟩] (siC sp bj mb id :: mpC mb es ck :: L) (fun v L' => v = .tuple ⟨[.agg ⟨sc (turnM ref f st).1⟩, iv (turnM ref f st).2.1, .bool (turnM ref f st).2.2]⟩ ∧ L' = siC sp bj mb id :: mpC mb es ck :: L) := by
  unfold turnM
  have hop : ∀ b, openS st = b → (b = true ↔ st.ph ≠ 2 ∧ st.ph ≠ 3) := fun b h => by rw [← h]; simp [openS]
  generalize openS st = op at *
  replace hop := hop op rfl
  by_cases k1 : f.kd = 1
  · rw [if_pos k1]
    unfold askM
    refine Za (fun _ _ => Tryz.call183 _ _) Tryz.func183 rfl Tryz.ntmps183 (Nat.le_of_ble_eq_true rfl) ?_; simp only [args0, Nat.reduceAdd]
    repeat' (first | refine uN ?_ | refine g_k S ?_ | refine g_w S ?_ | (refine uB ?_; intro b) | (refine uP ?_ ?_ <;> (intro h; ((try simp only [zs, ne_eq, and_true, true_and, eq_self, reduceCtorEq] at h); try exact zx))) | refine da 101 ?_ | fail)
    all_goals refine sp3 (LS.skip _ (LS.skip _ (LS.skip _ (LS.refl _)))) ⟨?_, rfl⟩ (hx := rcell S (hg := Zb rfl (Zb rfl (Zb rfl gets_nil))))
    all_goals simp [sc, *]
  rw [if_neg k1]
  by_cases k3 : f.kd = 3
  · rw [if_pos k3]
    refine Za (fun _ _ => Tryz.call183 _ _) Tryz.func183 rfl Tryz.ntmps183 (Nat.le_of_ble_eq_true rfl) ?_; simp only [args0, Nat.reduceAdd]
    repeat' (first | refine uN ?_ | refine g_k S ?_ | refine g_w S ?_ | (refine uB ?_; intro b) | (refine uP ?_ ?_ <;> (intro h; ((try simp only [zs, ne_eq, and_true, true_and, eq_self, reduceCtorEq] at h); try exact zx))) | refine da 101 ?_ | fail)
    all_goals refine sp3 (LS.skip _ (LS.skip _ (LS.skip _ (LS.refl _)))) ⟨?_, rfl⟩ (hx := rcell S (hg := Zb rfl (Zb rfl (Zb rfl gets_nil))))
    all_goals simp [sc, *]
  rw [if_neg k3]
  by_cases k5 : f.kd = 5
  · rw [if_pos k5]
    by_cases ha : afterS f.s.ph = 0
    · rw [if_pos ha]
      refine Za (fun _ _ => Tryz.call183 _ _) Tryz.func183 rfl Tryz.ntmps183 (Nat.le_of_ble_eq_true rfl) ?_; simp only [args0, Nat.reduceAdd]
      repeat' (first | refine uN ?_ | refine g_k S ?_ | refine g_w S ?_ | refine uC (after_calls _ _) ?_ | refine uD0 (fun _ => after_calls _ _) ?_ | refine uD1 (fun _ => after_calls _ _) ?_ | refine uD2 (fun _ => after_calls _ _) ?_ | refine uD3 (fun _ => after_calls _ _) ?_ | (refine uB ?_; intro b) | (refine uP ?_ ?_ <;> (intro h; ((try simp only [zs, ne_eq, and_true, true_and, eq_self, reduceCtorEq] at h); try exact zx))) | refine da 101 ?_ | fail)
      all_goals refine sp3 (LS.skip _ (LS.skip _ (LS.skip _ (LS.refl _)))) ⟨?_, rfl⟩ (hx := rcell S (hg := Zb rfl (Zb rfl (Zb rfl gets_nil))))
      all_goals simp [sc]
    · rw [if_neg ha]
      refine Za (fun _ _ => Tryz.call183 _ _) Tryz.func183 rfl Tryz.ntmps183 (Nat.le_of_ble_eq_true rfl) ?_; simp only [args0, Nat.reduceAdd]
      repeat' (first | refine uN ?_ | refine g_k S ?_ | refine g_w S ?_ | refine uC (after_calls _ _) ?_ | refine uD0 (fun _ => after_calls _ _) ?_ | refine uD1 (fun _ => after_calls _ _) ?_ | refine uD2 (fun _ => after_calls _ _) ?_ | refine uD3 (fun _ => after_calls _ _) ?_ | (refine uB ?_; intro b) | (refine uP ?_ ?_ <;> (intro h; ((try simp only [zs, ne_eq, and_true, true_and, eq_self, reduceCtorEq] at h); try exact zx))) | refine da 101 ?_ | fail)
      all_goals refine sp3 (LS.skip _ (LS.skip _ (LS.skip _ (LS.refl _)))) ⟨?_, rfl⟩ (hx := rcell S (hg := Zb rfl (Zb rfl (Zb rfl gets_nil))))
      all_goals simp [sc, hop, *]
  rw [if_neg k5]
  by_cases k7 : f.kd = 7
  · rw [if_pos k7]
    refine Za (fun _ _ => Tryz.call183 _ _) Tryz.func183 rfl Tryz.ntmps183 (Nat.le_of_ble_eq_true rfl) ?_; simp only [args0, Nat.reduceAdd]
    repeat' (first | refine uN ?_ | refine g_k S ?_ | refine g_w S ?_ | (refine uB ?_; intro b) | (refine uP ?_ ?_ <;> (intro h; ((try simp only [zs, ne_eq, and_true, true_and, eq_self, reduceCtorEq] at h); try exact zx))) | refine da 101 ?_ | fail)
    all_goals refine sp3 (LS.skip _ (LS.skip _ (LS.skip _ (LS.refl _)))) ⟨?_, rfl⟩ (hx := rcell S (hg := Zb rfl (Zb rfl (Zb rfl gets_nil))))
    all_goals simp [sc, hop, *]
  rw [if_neg k7]
  refine Za (fun _ _ => Tryz.call183 _ _) Tryz.func183 rfl Tryz.ntmps183 (Nat.le_of_ble_eq_true rfl) ?_; simp only [args0, Nat.reduceAdd]
  repeat' (first | refine uN ?_ | refine g_k S ?_ | refine g_w S ?_ | (refine uB ?_; intro b) | (refine uP ?_ ?_ <;> (intro h; ((try simp only [zs, ne_eq, and_true, true_and, eq_self, reduceCtorEq] at h); try exact zx))) | refine da 101 ?_ | fail)
  all_goals refine sp3 (LS.skip _ (LS.skip _ (LS.skip _ (LS.refl _)))) ⟨?_, rfl⟩ (hx := rcell S (hg := Zb rfl (Zb rfl (Zb rfl gets_nil))))
  all_goals simp [sc]
end Go.HL
end

/-! StB -/
section
namespace Go.HL
open Go Go.Proofs
set_option linter.unusedVariables false
set_option linter.unusedSimpArgs false
def siteE (id : Int) (m : Pl) : Option Nat := if id < 0 ∨ 7 ≤ id then some 2 else if m.b.length < 216 then some 2 else if m.off then some 6 else none
set_option maxHeartbeats 2000000 attribute [local irreducible] HW HO HQ HD HC QOp Has Upd Puts Gets seqQ blkQ loopQ fnQ actQ nextP unQ MapF
attribute [local irreducible] jcells plC
theorem getOk_calls (bj bp : Nat) (j : Jn) (d : Nat) (L : Heap) (hb : Has L bj (.cells ⟨jcells bp j⟩ 261)) (hl : j.l.length = 6) (hd : d < 6) : HC Tryz.prog 121 [pt bj 0, iv d] L (fun v L' => v = .tuple ⟨[.agg ⟨sc (j.l.getD d zeroE).s⟩, .nilIface]⟩ ∧ L' = L) := by
  refine hcHas (fun L => ?_) hb
  have he : j.l[d]? = some (j.l.getD d zeroE) := by
    rw [List.getD, List.getElem?_eq_getElem (by omega)]; rfl
  have g1 := jgets (bp := bp) he
  have g2 := jgetsS (bp := bp) he
  refine Za (fun _ _ => Tryz.call121 _ _) Tryz.func121 rfl Tryz.ntmps121 (Nat.le_of_ble_eq_true rfl) ?_; simp only [args0, Nat.reduceAdd]
  repeat' (first | refine uN ?_ | refine g_k S ?_ | refine g_w S ?_ | (refine uB ?_; intro b) | refine dg S 100 (fun _ _ => ?_) | (refine uP ?_ ?_ <;> (intro h; ((try simp only [zs, ne_eq, and_true, true_and, eq_self, reduceCtorEq] at h); try exact zx))) | refine da 101 ?_ | fail)
  exact sp2 (LS.skip _ (LS.refl _)) ⟨rfl, rfl⟩ (hx := rcell S (hg := Zb rfl (Zb rfl (Zb rfl gets_nil))))
theorem snew_calls (T : Nat) (E : Nat → Addr) (id : Int) (bp ba : Nat) (m : Pl) (L : Heap) (hG : Er T E [2, 3, 6] L) (hm : m.b.length ≤ 1000000) : HC Tryz.prog 65 [iv id, pt bp 0] (plC bp ba m :: L) (fun v L' => match siteE id m with
    | some e => v = .tuple ⟨[.pointer none, eV T E (some e)]⟩ ∧ L' = plC bp ba m :: L
    | none => ∃ sp bj mb, v = .tuple ⟨[pt sp 0, .nilIface]⟩ ∧ L' = siC sp bj mb id :: mpC mb [] 0 :: plC bp ba m :: jC bj bp ⟨openM m.b, false⟩ :: L) := by
  have ko := open_calls T E bp ba m L hG.sub hm
  have hG2 := hG.cons (plC bp ba m)
  unfold siteE
  by_cases h1 : id < 0 ∨ 7 ≤ id
  · rw [if_pos h1]
    refine Za (fun _ _ => Tryz.call65 _ _) Tryz.func65 rfl Tryz.ntmps65 (Nat.le_of_ble_eq_true rfl) ?_; simp only [args0, Nat.reduceAdd]
    repeat' (first | refine uN ?_ | refine g_d S ?_ | (refine uB ?_; intro b) | refine dg S 100 (fun _ _ => ?_) | (refine uP ?_ ?_ <;> (intro h; ((try simp only [zs, ne_eq, and_true, true_and, eq_self, reduceCtorEq] at h); try exact zx))) | refine da 101 ?_ | fail)
    all_goals exact sp2 (LS.refl _) ⟨rfl, rfl⟩
  rw [if_neg h1]
  by_cases h2 : m.b.length < 216
  · simp only [if_pos h2] at ko ⊢
    refine Za (fun _ _ => Tryz.call65 _ _) Tryz.func65 rfl Tryz.ntmps65 (Nat.le_of_ble_eq_true rfl) ?_; simp only [args0, Nat.reduceAdd]
    repeat' (first | refine uN ?_ | refine g_d S ?_ | (refine uB ?_; intro b) | refine dg S 100 (fun _ _ => ?_) | (refine uP ?_ ?_ <;> (intro h; ((try simp only [zs, ne_eq, and_true, true_and, eq_self, reduceCtorEq] at h); try exact zx))) | refine da 101 ?_ | fail)
    refine gc ko ?_
    rintro v L' ⟨rfl, rfl⟩
    repeat' (first | refine uN ?_ | refine g_d S ?_ | (refine uB ?_; intro b) | refine dg S 100 (fun _ _ => ?_) | (refine uP ?_ ?_ <;> (intro h; ((try simp only [zs, ne_eq, and_true, true_and, eq_self, reduceCtorEq] at h); try exact zx))) | refine da 101 ?_ | fail)
    exact sp2 (LS.refl _) ⟨rfl, rfl⟩
  simp only [if_neg h2] at ko ⊢
  by_cases h3 : m.off = true
  · simp only [if_pos h3] at ko ⊢
    refine Za (fun _ _ => Tryz.call65 _ _) Tryz.func65 rfl Tryz.ntmps65 (Nat.le_of_ble_eq_true rfl) ?_; simp only [args0, Nat.reduceAdd]
    repeat' (first | refine uN ?_ | refine g_d S ?_ | (refine uB ?_; intro b) | refine dg S 100 (fun _ _ => ?_) | (refine uP ?_ ?_ <;> (intro h; ((try simp only [zs, ne_eq, and_true, true_and, eq_self, reduceCtorEq] at h); try exact zx))) | refine da 101 ?_ | fail)
    refine gc ko ?_
    rintro v L' ⟨rfl, rfl⟩
    repeat' (first | refine uN ?_ | refine g_d S ?_ | (refine uB ?_; intro b) | refine dg S 100 (fun _ _ => ?_) | (refine uP ?_ ?_ <;> (intro h; ((try simp only [zs, ne_eq, and_true, true_and, eq_self, reduceCtorEq] at h); try exact zx))) | refine da 101 ?_ | fail)
    exact sp2 (LS.refl _) ⟨rfl, rfl⟩
  simp only [if_neg h3] at ko ⊢
  refine Za (fun _ _ => Tryz.call65 _ _) Tryz.func65 rfl Tryz.ntmps65 (Nat.le_of_ble_eq_true rfl) ?_; simp only [args0, Nat.reduceAdd]
  repeat' (first | refine uN ?_ | refine g_d S ?_ | (refine uB ?_; intro b) | refine dg S 100 (fun _ _ => ?_) | (refine uP ?_ ?_ <;> (intro h; ((try simp only [zs, ne_eq, and_true, true_and, eq_self, reduceCtorEq] at h); try exact zx))) | refine da 101 ?_ | fail)
  refine gc ko ?_
  rintro v L' ⟨bj, rfl, rfl⟩
  repeat' (first | refine uN ?_ | refine g_d S ?_ | (refine uB ?_; intro b) | refine dg S 100 (fun _ _ => ?_) | (refine uP ?_ ?_ <;> (intro h; ((try simp only [zs, ne_eq, and_true, true_and, eq_self, reduceCtorEq] at h); try exact zx))) | refine da 101 ?_ | fail)
  exact sp2 uL ⟨_, _, _, rfl, rfl⟩
theorem refuse_calls (T : Nat) (E : Nat → Addr) (sp bj mb bp : Nat) (id : Int) (es : List MapEntry) (ck : Nat) (ref : Int → Bool) (j : Jn) (d : Int) (L : Heap) (hG : Er T E [2] L) (hl : j.l.length = 6) (hF : MapF iv es ref) :
    HC Tryz.prog 67 [pt sp 0, iv d] (siC sp bj mb id :: mpC mb es ck :: jC bj bp j :: L) (fun v L' => if d < 0 ∨ 6 ≤ d then v = eV T E (some 2) ∧ L' = siC sp bj mb id :: mpC mb es ck :: jC bj bp j :: L
      else ∃ es' ck', MapF iv es' (fun x => if x = d then true else ref x) ∧ v = .nilIface ∧ L' = siC sp bj mb id :: mpC mb es' ck' :: jC bj bp j :: L) := by
  have kg := fun L hG => get_calls T E bj bp j d L hG hl
  by_cases h : d < 0 ∨ 6 ≤ d
  · simp only [if_pos h] at kg ⊢
    refine Za (fun _ _ => Tryz.call67 _ _) Tryz.func67 rfl Tryz.ntmps67 (Nat.le_of_ble_eq_true rfl) ?_; simp only [args0, Nat.reduceAdd]
    repeat' (first | refine uN ?_ | (refine uB ?_; intro b) | (refine uP ?_ ?_ <;> (intro h; ((try simp only [zs, ne_eq, and_true, true_and, eq_self, reduceCtorEq] at h); try exact zx))) | fail)
    refine fo 2 ?_
    refine gc (kg _ ((hG.cons _).cons _)) ?_
    rintro v L' ⟨rfl, rfl⟩
    repeat' (first | refine uN ?_ | (refine uB ?_; intro b) | (refine uP ?_ ?_ <;> (intro h; ((try simp only [zs, ne_eq, and_true, true_and, eq_self, reduceCtorEq] at h); try exact zx))) | fail)
    exact sp1 uL ⟨rfl, rfl⟩
  · simp only [if_neg h] at kg ⊢
    refine Za (fun _ _ => Tryz.call67 _ _) Tryz.func67 rfl Tryz.ntmps67 (Nat.le_of_ble_eq_true rfl) ?_; simp only [args0, Nat.reduceAdd]
    repeat' (first | refine uN ?_ | (refine uB ?_; intro b) | (refine uP ?_ ?_ <;> (intro h; ((try simp only [zs, ne_eq, and_true, true_and, eq_self, reduceCtorEq] at h); try exact zx))) | fail)
    refine fo 2 ?_
    refine gc (kg _ ((hG.cons _).cons _)) ?_
    rintro v L' ⟨rfl, rfl⟩
    repeat' (first | refine uN ?_ | (refine uB ?_; intro b) | (refine uP ?_ ?_ <;> (intro h; ((try simp only [zs, ne_eq, and_true, true_and, eq_self, reduceCtorEq] at h); try exact zx))) | fail)
    refine fo 3 ?_
    refine wmI S hF (fun es' ck' hF' => ?_)
    repeat' (first | refine uN ?_ | (refine uB ?_; intro b) | (refine uP ?_ ?_ <;> (intro h; ((try simp only [zs, ne_eq, and_true, true_and, eq_self, reduceCtorEq] at h); try exact zx))) | fail)
    exact sp1 uL ⟨_, _, hF', rfl, rfl⟩
end Go.HL
end

/-! StC -/
section
namespace Go.HL
open Go Go.Proofs
set_option linter.unusedVariables false
set_option linter.unusedSimpArgs false
/-- what a site hears: its plate, its journal, what it answers, its error -/
def siteM (id : Int) (ref : Int → Bool) (m : Pl) (j : Jn) (f : Fr) : Pl × Jn × List Fr × Option Nat :=
  if badF f then (m, j, [], some 2) else if f.to ≠ id then (m, j, [], some 3) else
  match (putM m j f.dl (turnM ref f (j.l.getD f.dl.toNat zeroE).s).1).2.2 with
  | some e => ((putM m j f.dl (turnM ref f (j.l.getD f.dl.toNat zeroE).s).1).1, (putM m j f.dl (turnM ref f (j.l.getD f.dl.toNat zeroE).s).1).2.1, [], some e)
  | none => ((putM m j f.dl (turnM ref f (j.l.getD f.dl.toNat zeroE).s).1).1, (putM m j f.dl (turnM ref f (j.l.getD f.dl.toNat zeroE).s).1).2.1,
    if (turnM ref f (j.l.getD f.dl.toNat zeroE).s).2.1 = 0 then [] else [⟨id, f.fr, f.dl, (turnM ref f (j.l.getD f.dl.toNat zeroE).s).2.1, f.att, (turnM ref f (j.l.getD f.dl.toNat zeroE).s).2.2, (turnM ref f (j.l.getD f.dl.toNat zeroE).s).1⟩], none)
theorem vec_one {α : Type} {E sz : Nat} {enc : α → List Value} {b : Nat} (x : α) (hsz : (enc x).length = sz) : Vec E sz enc (sl b 0 1 1) [x] [(b, .cells ⟨enc x⟩ E)] :=
  .inr ⟨b, 1, [], rfl, by simp, by simp [hsz], by simp, by simp [hsz]⟩
set_option maxHeartbeats 2000000 attribute [local irreducible] HW HO HQ HD HC QOp Has Upd Puts Gets seqQ blkQ loopQ fnQ actQ nextP unQ MapF
attribute [local irreducible] jcells plC putM turnM
set_option maxHeartbeats 1000000 in
theorem shear_calls (T : Nat) (E : Nat → Addr) (sp bj mb bp ba : Nat) (id : Int) (es : List MapEntry) (ck : Nat) (ref : Int → Bool) (m : Pl) (j : Jn) (f : Fr) (L : Heap) (hG : Er T E [2, 3, 5, 6] L) (hF : MapF iv es ref) (hm : PlOk m) (hj : JnOk j) :
    HC Tryz.prog 134 [pt sp 0, .agg ⟨fc f⟩] (siC sp bj mb id :: mpC mb es ck :: plC bp ba m :: jC bj bp j :: L) (fun v L' => ∃ fv c, v = .tuple ⟨[fv, eV T E (siteM id ref m j f).2.2.2]⟩ ∧ FrVec fv (siteM id ref m j f).2.2.1 c ∧
      L' = siC sp bj mb id :: mpC mb es ck :: plC bp ba (siteM id ref m j f).1 :: jC bj bp (siteM id ref m j f).2.1 :: c :: L) := by
  have hG4 := (((hG.cons (jC bj bp j)).cons (plC bp ba m)).cons (mpC mb es ck)).cons (siC sp bj mb id)
  have kc := fun L hG => wcheck_calls T E f L hG
  unfold siteM frameE at *
  by_cases hb : badF f
  · simp only [if_pos hb] at kc ⊢
    refine Za (fun _ _ => Tryz.call134 _ _) Tryz.func134 rfl Tryz.ntmps134 (Nat.le_of_ble_eq_true rfl) ?_; simp only [args0, Nat.reduceAdd]
    repeat' (first | refine uN ?_ | refine g_k S ?_ | refine g_w S ?_ | refine g_q (qC (kc _ (hG4.sub.cons _))) ?_ | refine k_q (qC (kc _ (hG4.sub.cons _))) ?_ | refine uD0 (fun _ => kc _ (hG4.sub.cons _)) ?_ | refine uD1 (fun _ => kc _ (hG4.sub.cons _)) ?_ | refine uD2 (fun _ => kc _ (hG4.sub.cons _)) ?_ | refine uD3 (fun _ => kc _ (hG4.sub.cons _)) ?_ | (refine uB ?_; intro b) | refine dg S 100 (fun _ _ => ?_) | (refine uP ?_ ?_ <;> (intro h; ((try simp only [zs, ne_eq, and_true, true_and, eq_self, reduceCtorEq] at h); try exact zx))) | refine da 101 ?_ | fail)
    exact sp2 (L' := siC sp bj mb id :: mpC mb es ck :: plC bp ba m :: jC bj bp j :: [] :: L) (LS.skip _ (LS.refl _)) ⟨_, [], rfl, vec_nil, rfl⟩
  simp only [if_neg hb] at kc ⊢
  by_cases hto : f.to = id
  · simp only [ne_eq, hto, not_true_eq_false, if_false]
    unfold badF at hb
    obtain ⟨fr0, to0, dl0, kd0, at0, ys0, fs0⟩ := f
    simp only at hb hto ⊢
    subst hto
    obtain ⟨d, rfl⟩ := Int.eq_ofNat_of_zero_le (show 0 ≤ dl0 by omega)
    have hd6 : d < 6 := by omega
    clear hb
    simp only [Int.toNat_natCast]
    have kg := fun L h => getOk_calls bj bp j d L h hj.len hd6
    generalize hst : (j.l.getD d zeroE).s = st at *
    have kt := fun L => turn_calls sp bj mb to0 es ck ref ⟨fr0, to0, d, kd0, at0, ys0, fs0⟩ st L hF
    generalize htr : turnM ref ⟨fr0, to0, d, kd0, at0, ys0, fs0⟩ st = tr at *
    have kp := put_calls T E bj bp ba m j d tr.1
    generalize hpr : putM m j d tr.1 = pr at *
    refine Za (fun _ _ => Tryz.call134 _ _) Tryz.func134 rfl Tryz.ntmps134 (Nat.le_of_ble_eq_true rfl) ?_; simp only [args0, Nat.reduceAdd]
    repeat' (first | refine uN ?_ | refine g_k S ?_ | refine g_w S ?_ | refine g_q (qC (kc _ (hG4.sub.cons _))) ?_ | refine k_q (qC (kc _ (hG4.sub.cons _))) ?_ | refine uD0 (fun _ => kc _ (hG4.sub.cons _)) ?_ | refine uD1 (fun _ => kc _ (hG4.sub.cons _)) ?_ | refine uD2 (fun _ => kc _ (hG4.sub.cons _)) ?_ | refine uD3 (fun _ => kc _ (hG4.sub.cons _)) ?_ | (refine uB ?_; intro b) | refine dg S 100 (fun _ _ => ?_) | (refine uP ?_ ?_ <;> (intro h; ((try simp only [zs, ne_eq, and_true, true_and, eq_self, reduceCtorEq] at h); try exact zx))) | refine da 101 ?_ | fail)
    refine dcF 0 [(bj, .cells ⟨jcells bp j⟩ 261)] (fun L hL => kg L (hL _ (List.mem_singleton.2 rfl))) (fun p hp => by
      rw [List.mem_singleton.1 hp]
      exact Zd (Zd (Zd (Zd Zh)))) ?_
    simp only [List.map_cons, List.map_nil, List.cons_append, List.nil_append]
    repeat' (first | refine uN ?_ | refine g_k S ?_ | refine g_w S ?_ | refine g_q (qC (kc _ (hG4.sub.cons _))) ?_ | refine k_q (qC (kc _ (hG4.sub.cons _))) ?_ | refine uD0 (fun _ => kc _ (hG4.sub.cons _)) ?_ | refine uD1 (fun _ => kc _ (hG4.sub.cons _)) ?_ | refine uD2 (fun _ => kc _ (hG4.sub.cons _)) ?_ | refine uD3 (fun _ => kc _ (hG4.sub.cons _)) ?_ | (refine uB ?_; intro b) | refine dg S 100 (fun _ _ => ?_) | (refine uP ?_ ?_ <;> (intro h; ((try simp only [zs, ne_eq, and_true, true_and, eq_self, reduceCtorEq] at h); try exact zx))) | refine da 101 ?_ | fail)
    repeat' (first | refine uN ?_ | refine g_d S ?_ | refine g_q (qC (hq2 kt 2 2)) ?_ | refine uD0 (fun _ => hq2 kt 2 2) ?_ | refine uD1 (fun _ => hq2 kt 2 2) ?_ | refine uD2 (fun _ => hq2 kt 2 2) ?_ | refine uD3 (fun _ => hq2 kt 2 2) ?_ | (refine uB ?_; intro b) | refine dg S 100 (fun _ _ => ?_) | (refine uP ?_ ?_ <;> (intro h; ((try simp only [zs, ne_eq, and_true, true_and, eq_self, reduceCtorEq] at h); try exact zx))) | refine da 101 ?_ | fail)
    refine fo 6 ?_
    refine fo 6 ?_
    refine gc (kp _ (((((hG.cons _).cons _).cons _).cons _).cons _).sub hm hj) ?_
    rintro v L' ⟨rfl, rfl⟩
    cases he : pr.2.2 with
    | some e =>
      simp only
      repeat' (first | refine uN ?_ | refine g_d S ?_ | (refine uB ?_; intro b) | refine dg S 100 (fun _ _ => ?_) | (refine uP ?_ ?_ <;> (intro h; ((try simp only [zs, ne_eq, and_true, true_and, eq_self, reduceCtorEq] at h); try exact zx))) | refine da 101 ?_ | fail)
      exact sp2 (L' := siC sp bj mb to0 :: mpC mb es ck :: plC bp ba pr.1 :: jC bj bp pr.2.1 :: [] :: L) uL ⟨_, [], rfl, vec_nil, rfl⟩
    | none =>
      simp only
      by_cases hk : tr.2.1 = 0
      · simp only [if_pos hk]
        repeat' (first | refine uN ?_ | refine g_d S ?_ | (refine uB ?_; intro b) | refine dg S 100 (fun _ _ => ?_) | (refine uP ?_ ?_ <;> (intro h; ((try simp only [zs, ne_eq, and_true, true_and, eq_self, reduceCtorEq] at h); try exact zx))) | refine da 101 ?_ | fail)
        exact sp2 (L' := siC sp bj mb to0 :: mpC mb es ck :: plC bp ba pr.1 :: jC bj bp pr.2.1 :: [] :: L) uL ⟨_, [], rfl, vec_nil, rfl⟩
      · simp only [if_neg hk]
        repeat' (first | refine uN ?_ | refine g_d S ?_ | (refine uB ?_; intro b) | refine dg S 100 (fun _ _ => ?_) | (refine uP ?_ ?_ <;> (intro h; ((try simp only [zs, ne_eq, and_true, true_and, eq_self, reduceCtorEq] at h); try exact zx))) | refine da 101 ?_ | fail)
        exact sp2 (L' := siC sp bj mb to0 :: mpC mb es ck :: plC bp ba pr.1 :: jC bj bp pr.2.1 :: [(b, .cells ⟨fc ⟨to0, fr0, d, tr.2.1, at0, tr.2.2, tr.1⟩⟩ 131)] :: L) (LS.p6 (LS.p6 (LS.p1 (LS.p1 (LS.p0 (LS.c (LS.c (LS.c (LS.refl _))))))))) ⟨_, _, rfl, vec_one _ rfl, rfl⟩
  · simp only [ne_eq, hto, not_false_eq_true, if_true]
    refine Za (fun _ _ => Tryz.call134 _ _) Tryz.func134 rfl Tryz.ntmps134 (Nat.le_of_ble_eq_true rfl) ?_; simp only [args0, Nat.reduceAdd]
    repeat' (first | refine uN ?_ | refine g_k S ?_ | refine g_w S ?_ | refine g_q (qC (kc _ (hG4.sub.cons _))) ?_ | refine k_q (qC (kc _ (hG4.sub.cons _))) ?_ | refine uD0 (fun _ => kc _ (hG4.sub.cons _)) ?_ | refine uD1 (fun _ => kc _ (hG4.sub.cons _)) ?_ | refine uD2 (fun _ => kc _ (hG4.sub.cons _)) ?_ | refine uD3 (fun _ => kc _ (hG4.sub.cons _)) ?_ | (refine uB ?_; intro b) | refine dg S 100 (fun _ _ => ?_) | (refine uP ?_ ?_ <;> (intro h; ((try simp only [zs, ne_eq, and_true, true_and, eq_self, reduceCtorEq] at h); try exact zx))) | refine da 101 ?_ | fail)
    exact sp2 (L' := siC sp bj mb id :: mpC mb es ck :: plC bp ba m :: jC bj bp j :: [] :: L) (LS.skip _ (LS.refl _)) ⟨_, [], rfl, vec_nil, rfl⟩
end Go.HL
end

/-! JnN -/
section
namespace Go.HL
open Go Go.Proofs
set_option linter.unusedVariables false
set_option linter.unusedSimpArgs false
theorem rdN_foldl (s : List UInt8) (a : Nat) : s.foldl (fun n b => n * 256 + b.toNat) a = a * 256 ^ s.length + rdN s := by
  induction s generalizing a with
  | nil => simp [rdN]
  | cons b s ih =>
    rw [rdN, List.foldl_cons, List.foldl_cons, ih, ih]
    simp only [List.length_cons, Nat.pow_succ]
    have e : a * 256 * 256 ^ s.length = a * (256 ^ s.length * 256) := by rw [Nat.mul_assoc, Nat.mul_comm 256]
    rw [Nat.add_mul, e, Nat.zero_mul, Nat.zero_add]
    omega
theorem rdN_cons (b : UInt8) (s : List UInt8) : rdN (b :: s) = b.toNat * 256 ^ s.length + rdN s := by
  rw [rdN, List.foldl_cons, rdN_foldl]; simp
theorem bt_nat (n k : Nat) : (bt (n : Int) k).toNat = n / 256 ^ k % 256 := by
  have h := bt_val (n : Int) k
  have e : (n : Int) / 2 ^ (8 * k) % 256 = ((n / 256 ^ k % 256 : Nat) : Int) := by
    rw [Int.pow_mul]
    simp
  rw [e] at h
  exact Int.ofNat.inj h
theorem rdN_numB (n k : Nat) : rdN (numB (n : Int) k) = n % 256 ^ k := by
  induction k with
  | zero => simp [numB, rdN, Nat.mod_one]
  | succ k ih =>
    rw [numB, rdN_cons, ih, bt_nat, numB_len, Nat.pow_succ, Nat.mod_mul]
    rw [Nat.mul_comm, Nat.add_comm]
theorem rd_num {n : Int} {k : Nat} (h0 : 0 ≤ n) (h1 : n < 256 ^ k) : ((rdN (numB n k) : Nat) : Int) = n := by
  obtain ⟨n, rfl⟩ := Int.eq_ofNat_of_zero_le h0
  rw [rdN_numB, Nat.mod_eq_of_lt]
  exact Int.ofNat_lt.1 (by simpa using h1)
end Go.HL
end

/-! JnG -/
section
namespace Go.HL
open Go Go.Proofs
set_option linter.unusedVariables false
set_option linter.unusedSimpArgs false

structure EntOk (e : Ent) : Prop where
  n0 : 1 ≤ e.n
  n1 : e.n < 4294967296
  p0 : 0 ≤ e.s.ph
  p1 : e.s.ph ≤ 255
  r0 : 0 ≤ e.s.pr
  r1 : e.s.pr ≤ 1048576
  a0 : 0 ≤ e.s.att
  a1 : e.s.att ≤ 1048576
theorem parse_body {e : Ent} (h : EntOk e) (r : List UInt8) : parse (bodyM e ++ r) = e := by
  obtain ⟨n, ⟨p, q, a⟩⟩ := e
  have l1 := numB_len n 4
  have l2 := numB_len p 1
  have l3 := numB_len q 4
  have l4 := numB_len a 4
  have h1 := h.n0; have h2 := h.n1; have h3 := h.p0; have h4 := h.p1; have h5 := h.r0; have h6 := h.r1; have h7 := h.a0; have h8 := h.a1
  simp only at h1 h2 h3 h4 h5 h6 h7 h8
  have e1 : bodyM ⟨n, p, q, a⟩ ++ r = numB n 4 ++ (numB p 1 ++ (numB q 4 ++ (numB a 4 ++ (numB (crc (head ⟨n, p, q, a⟩)) 4 ++ r)))) := by simp [bodyM, head]
  have t1 : (bodyM ⟨n, p, q, a⟩ ++ r).take 4 = numB n 4 := by rw [e1, List.take_left' l1]
  have t2 : ((bodyM ⟨n, p, q, a⟩ ++ r).take 5).drop 4 = numB p 1 := by
    rw [e1, ← List.append_assoc, List.take_left' (by simp [l1, l2]), List.drop_left' l1]
  have t3 : ((bodyM ⟨n, p, q, a⟩ ++ r).take 9).drop 5 = numB q 4 := by
    rw [e1, ← List.append_assoc, ← List.append_assoc, List.take_left' (by simp [l1, l2, l3]), List.drop_left' (by simp [l1, l2])]
  have t4 : ((bodyM ⟨n, p, q, a⟩ ++ r).take 13).drop 9 = numB a 4 := by
    rw [e1, ← List.append_assoc, ← List.append_assoc, ← List.append_assoc, List.take_left' (by simp [l1, l2, l3, l4]), List.drop_left' (by simp [l1, l2, l3])]
  unfold parse
  rw [t1, t2, t3, t4, rd_num (by omega) (by omega), rd_num (by omega) (by omega), rd_num (by omega) (by omega), rd_num (by omega) (by omega)]
theorem held_body {e : Ent} (h : EntOk e) : heldM (e.n % 2) (bodyM e ++ commitB) = e := by
  rw [heldM_eq, parse_body h]
  rw [if_neg]
  have := h.n0
  simp
  omega
theorem heldM_n (k : Int) (s : List UInt8) (hs : 4 ≤ s.length) : 0 ≤ (heldM k s).n ∧ (heldM k s).n < 4294967296 := by
  rw [heldM_eq]
  split
  · simp
  · have := rdN_lt (s.take 4)
    rw [show (s.take 4).length = 4 by simp; omega] at this
    show 0 ≤ ((rdN (s.take 4) : Nat) : Int) ∧ ((rdN (s.take 4) : Nat) : Int) < 4294967296
    omega
theorem updE_n (a b : Ent) : (updE a b).n = max a.n b.n := by
  unfold updE
  split <;> omega
/-- the slots of bytes whose slot i is X -/
theorem slot_here (Pr X R : List UInt8) (i : Nat) (hP : Pr.length = i * 18) (hX : X.length = 18) : slot (Pr ++ X ++ R) i = X := by
  unfold slot
  rw [List.append_assoc, List.drop_left' hP, List.take_left' hX]
theorem slot_else (Pr X Y R : List UInt8) (i i' : Nat) (hP : Pr.length = i * 18) (hX : X.length = 18) (hY : Y.length = 18) (h : i' ≠ i) : slot (Pr ++ X ++ R) i' = slot (Pr ++ Y ++ R) i' := by
  unfold slot
  rcases Nat.lt_or_gt_of_ne h with h | h
  · have e : ∀ Z : List UInt8, ((Pr ++ Z ++ R).drop (i' * 18)).take 18 = (Pr.drop (i' * 18)).take 18 := fun Z => by
      rw [List.append_assoc, List.drop_append_of_le_length (by omega), List.take_append_of_le_length (by simp; omega)]
    rw [e, e]
  · have e : ∀ Z : List UInt8, Z.length = 18 → ((Pr ++ Z ++ R).drop (i' * 18)).take 18 = (R.drop (i' * 18 - (i * 18 + 18))).take 18 := fun Z hZ => by
      have hl : (Pr ++ Z).length = i * 18 + 18 := by simp [hP, hZ]
      rw [List.drop_append, hl, List.drop_of_length_le (by omega), List.nil_append]
    rw [e X hX, e Y hY]
theorem splice_mid (Pr S X R : List UInt8) (h : X.length = S.length) : splice (Pr ++ S ++ R) Pr.length X = Pr ++ X ++ R := by
  unfold splice
  have e1 : (Pr ++ S ++ R).take Pr.length = Pr := by rw [List.append_assoc, List.take_left' rfl]
  have e2 : (Pr ++ S ++ R).drop (Pr.length + X.length) = R := by rw [List.drop_left' (by simp [h])]
  rw [e1, e2]
end Go.HL
end

/-! JnH -/
section
namespace Go.HL
open Go Go.Proofs
set_option linter.unusedVariables false
set_option linter.unusedSimpArgs false

/-- bytes cut at a slot -/
theorem cut_slot (b : List UInt8) (i : Nat) (h : i * 18 + 18 ≤ b.length) : ∃ Pr S c R, b = Pr ++ (S ++ [c]) ++ R ∧ Pr.length = i * 18 ∧ S.length = 17 := by
  have hd : i * 18 + 17 < b.length := by omega
  refine ⟨b.take (i * 18), (b.drop (i * 18)).take 17, b[i * 18 + 17], b.drop (i * 18 + 18), ?_, by simp; omega, by simp; omega⟩
  have e1 : b.drop (i * 18) = (b.drop (i * 18)).take 17 ++ b.drop (i * 18 + 17) := by
    have := (List.take_append_drop 17 (b.drop (i * 18))).symm
    rwa [List.drop_drop] at this
  have e2 : b.drop (i * 18 + 17) = b[i * 18 + 17] :: b.drop (i * 18 + 18) := List.drop_eq_getElem_cons hd
  have e3 := (List.take_append_drop (i * 18) b).symm
  rw [e1, e2] at e3
  simpa using e3
theorem splice_at {Pr S X R : List UInt8} {n : Nat} (hn : n = Pr.length) (h : X.length = S.length) : splice (Pr ++ S ++ R) n X = Pr ++ X ++ R := by
  subst hn; exact splice_mid Pr S X R h
theorem part1_n {b : List UInt8} {d : Nat} (hd : d < 6) (hl : 216 ≤ b.length) (k : Nat) (hk : k ≤ 2) : 0 ≤ (partE b d k).n ∧ (partE b d k).n < 4294967296 := by
  induction k with
  | zero => simp [partE, zeroE]
  | succ k ih =>
    have h1 := ih (by omega)
    have h2 := heldM_n k (slot b (2 * d + k)) (by rw [slot_len _ _ (by omega) hl]; omega)
    rw [partE, updE_n]
    omega
/-- what is opened behind an entry -/
theorem deal_new {b b' : List UInt8} {d : Nat} {e : Ent} (hl : 216 ≤ b.length) (hd : d < 6) (he : EntOk e) (hn : e.n = (dealM b d).n + 1) {Pr S R : List UInt8} (hb : b = Pr ++ S ++ R) (hb' : b' = Pr ++ (bodyM e ++ commitB) ++ R) (hP : Pr.length = (2 * d + (e.n % 2).toNat) * 18) (hS : S.length = 18) :
    openM b' = (openM b).set d e := by
  have hX : (bodyM e ++ commitB).length = 18 := by simp [bodyM_len, commitB]
  have hk : e.n % 2 = 0 ∨ e.n % 2 = 1 := by omega
  have here : slot b' (2 * d + (e.n % 2).toNat) = bodyM e ++ commitB := by rw [hb']; exact slot_here _ _ _ _ hP hX
  have els : ∀ i, i ≠ 2 * d + (e.n % 2).toNat → slot b' i = slot b i := fun i hi => by rw [hb, hb']; exact slot_else _ _ _ _ _ _ hP hX hS hi
  have hh := held_body he
  have h0 := he.n0
  have hd2 : dealM b' d = e := by
    have q1 : dealM b d = updE (updE zeroE (heldM 0 (slot b (2 * d + 0)))) (heldM 1 (slot b (2 * d + 1))) := rfl
    have q2 : dealM b' d = updE (updE zeroE (heldM 0 (slot b' (2 * d + 0)))) (heldM 1 (slot b' (2 * d + 1))) := rfl
    have m1 : (dealM b d).n = max (max 0 (heldM 0 (slot b (2 * d + 0))).n) (heldM 1 (slot b (2 * d + 1))).n := by rw [q1, updE_n, updE_n]; rfl
    rcases hk with hk | hk
    · rw [hk] at here hh els
      rw [q2, show slot b' (2 * d + 0) = bodyM e ++ commitB from here, hh, els (2 * d + 1) (by simp)]
      have u1 : updE zeroE e = e := by unfold updE; rw [if_pos (by show (0 : Int) < e.n; omega)]
      rw [u1]
      unfold updE
      rw [if_neg (by omega)]
    · rw [hk] at here hh els
      rw [q2, show slot b' (2 * d + 1) = bodyM e ++ commitB from here, hh, els (2 * d + 0) (by simp)]
      have u1 : (updE zeroE (heldM 0 (slot b (2 * d + 0)))).n = max 0 (heldM 0 (slot b (2 * d + 0))).n := by rw [updE_n]; rfl
      generalize updE zeroE (heldM 0 (slot b (2 * d + 0))) = u at *
      unfold updE
      rw [if_pos (by omega)]
  have hdo : ∀ i, i ≠ d → dealM b' i = dealM b i := fun i hi => by
    unfold dealM partE partE partE
    rw [els (2 * i + 0) (by omega), els (2 * i + 1) (by omega)]
  apply List.ext_getElem?
  intro i
  rw [List.getElem?_set]
  by_cases hi : d = i
  · subst hi
    simp [openM, hd, hd2]
  · simp only [hi, if_false, openM, List.getElem?_map]
    by_cases h6 : i < 6
    · simp [h6, hdo i (fun h => hi h.symm)]
    · simp [h6]
structure Good (m : Pl) (j : Jn) : Prop where
  off : m.off = false
  cut : m.cut = -1
  lo : 216 ≤ m.b.length
  hi : m.b.length ≤ 1000000
  dead : j.dead = false
  l : j.l = openM m.b
theorem openM_get {b : List UInt8} {d : Nat} (hd : d < 6) : (openM b).getD d zeroE = dealM b d := by simp [openM, hd]
theorem open_ok {b : List UInt8} (hl : 216 ≤ b.length) : JnOk ⟨openM b, false⟩ := by
  have key : ∀ d, 0 ≤ ((openM b).getD d zeroE).n ∧ ((openM b).getD d zeroE).n < 4294967296 := fun d => by
    by_cases hd : d < 6
    · rw [openM_get hd]; exact part1_n hd hl 2 (by omega)
    · simp [openM, hd, zeroE]
  exact ⟨by simp [openM], fun d => (key d).1, fun d => by have := (key d).2; show ((openM b).getD d zeroE).n ≤ _; omega⟩
theorem Good.ok {m : Pl} {j : Jn} (h : Good m j) : PlOk m ∧ JnOk j := by
  obtain ⟨jl, jd⟩ := j
  have h1 := h.dead
  have h2 := h.l
  simp only at h1 h2
  subst h1; subst h2
  exact ⟨⟨h.hi, by rw [h.cut]; decide, by rw [h.cut]; decide⟩, open_ok h.lo⟩
theorem open_zeros {n : Nat} (h : 216 ≤ n) : openM (zeros n) = List.replicate 6 zeroE := by
  have hs : ∀ i, i < 12 → slot (zeros n) i = zeros 18 := fun i hi => by
    unfold slot zeros
    rw [List.drop_replicate, List.take_replicate, Nat.min_eq_left (by omega)]
  have hh : ∀ k, heldM k (zeros 18) = zeroE := fun k => by
    rw [heldM_eq, if_pos (.inl (by decide))]; rfl
  have hd : ∀ d, d < 6 → dealM (zeros n) d = zeroE := fun d hd => by
    unfold dealM partE partE partE
    rw [hs _ (by omega), hs _ (by omega), hh, hh]
    rfl
  apply List.ext_getElem?
  intro i
  by_cases h : i < 6
  · rw [List.getElem?_replicate, if_pos h]; simp [openM, h, hd i h]
  · simp [openM, h]
theorem zeros_len (n : Nat) : (zeros n).length = n := by simp [zeros]
end Go.HL
end

/-! JnK -/
section
namespace Go.HL
open Go Go.Proofs
set_option linter.unusedVariables false
set_option linter.unusedSimpArgs false
/-- so many bytes less until power fails -/
def cutBy (c : Int) (n : Nat) : Int := if c = -1 then -1 else c - n
theorem writeC {b : List UInt8} {c a : Int} {s : List UInt8} (h0 : 0 ≤ a) (h1 : a + s.length ≤ b.length) :
    writeM ⟨b, false, c⟩ a s = wrOk ⟨b, false, c⟩ a.toNat s := by
  unfold writeM lookM
  simp only [Bool.false_eq_true, if_false]
  rw [if_neg (by omega)]
theorem wrOk_all {b : List UInt8} {c : Int} {a : Nat} {s : List UInt8} (h : c = -1 ∨ s.length ≤ c.toNat) : wrOk ⟨b, false, c⟩ a s = (⟨splice b a s, false, cutBy c s.length⟩, none) := by
  have hk : kM ⟨b, false, c⟩ s.length = s.length := by
    unfold kM; split
    · rfl
    · rcases h with h | h
      · contradiction
      · simp only; omega
  simp [wrOk, hk, cutBy]
theorem wrOk_part {b : List UInt8} {c : Int} {a : Nat} {s : List UInt8} (h0 : 0 ≤ c) (h : c.toNat < s.length) : wrOk ⟨b, false, c⟩ a s = (⟨splice b a (s.take c.toNat), true, 0⟩, some 6) := by
  have hk : kM ⟨b, false, c⟩ s.length = c.toNat := by
    unfold kM; rw [if_neg (by simp only; omega)]; simp only; omega
  simp only [wrOk, hk]
  rw [if_neg (by omega), if_pos h]
  simp [h]
  omega
theorem read_C {b : List UInt8} {c a : Int} {n : Int} (h0 : 0 ≤ a) (h2 : 0 ≤ n) (h1 : a + n ≤ b.length) : readM ⟨b, false, c⟩ a n = ((b.drop a.toNat).take n.toNat, none) := by
  unfold readM lookM
  simp only [Bool.false_eq_true, if_false]
  rw [if_neg (by omega)]
/-- the outcome of an entry's write at a slot -/
def JW (b : List UInt8) (Pr R : List UInt8) (e : Ent) (r : Pl × Option Nat) : Prop :=
  (r.2 = none ∧ r.1.off = false ∧ r.1.b = Pr ++ (bodyM e ++ commitB) ++ R ∧ -1 ≤ r.1.cut) ∨
  (r.2 = some 6 ∧ r.1.off = true ∧ r.1.cut = 0 ∧ (r.1.b = b ∨ ∃ X, X.length = 17 ∧ r.1.b = Pr ++ (X ++ [0]) ++ R))
theorem jw_cut {b : List UInt8} {ct : Int} {d : Nat} {e : Ent} (hct : -1 ≤ ct) (hl : 216 ≤ b.length) (hd : d < 6) (he : 0 ≤ e.n) : ∃ Pr S c R, b = Pr ++ (S ++ [c]) ++ R ∧ Pr.length = (2 * d + (e.n % 2).toNat) * 18 ∧ S.length = 17 ∧
    JW b Pr R e (jwM ⟨b, false, ct⟩ d e) := by
  have hk : 0 ≤ e.n % 2 ∧ e.n % 2 < 2 := by omega
  obtain ⟨Pr, S, c, R, hb, hP, hS⟩ := cut_slot b (2 * d + (e.n % 2).toNat) (by omega)
  refine ⟨Pr, S, c, R, hb, hP, hS, ?_⟩
  have hlen : b.length = (2 * d + (e.n % 2).toNat) * 18 + 18 + R.length := by rw [hb]; simp [hP, hS]; omega
  have ha : jAt d e = ((Pr.length : Nat) : Int) := by unfold jAt; omega
  have lb := bodyM_len e
  have r1 : readM ⟨b, false, ct⟩ (jAt d e + 18 - 1) 1 = ([c], none) := by
    rw [read_C (by omega) (by omega) (by omega)]
    have e1 : (jAt (d : Int) e + 18 - 1).toNat = (Pr ++ S).length := by simp [hS]; omega
    rw [e1, hb, ← List.append_assoc, List.append_assoc (Pr ++ S), List.drop_left' rfl]
    rfl
  have w1 : (∃ c1, -1 ≤ c1 ∧ jw1 ⟨b, false, ct⟩ d e = (⟨Pr ++ (S ++ [0]) ++ R, false, c1⟩, none)) ∨ jw1 ⟨b, false, ct⟩ d e = (⟨b, true, 0⟩, some 6) := by
    unfold jw1
    rw [r1]
    simp only
    split
    · rename_i h
      refine .inl ⟨ct, hct, ?_⟩
      rw [hb, show c = 0 by simpa using h]
    · have hz : Pr ++ (S ++ [c]) ++ R = (Pr ++ S) ++ [c] ++ R := by simp
      rw [writeC (by omega) (by simp; omega)]
      by_cases hc : ct = -1 ∨ 1 ≤ ct.toNat
      · refine .inl ⟨cutBy ct 1, by unfold cutBy; split <;> omega, ?_⟩
        rw [wrOk_all (by simpa using hc), hb, hz, splice_at (S := [c]) (X := [0]) (by simp [hS]; omega) rfl]
        simp
      · refine .inr ?_
        rw [wrOk_part (by omega) (by simp; omega), show ct.toNat = 0 by omega]
        simp [splice_nil]
  unfold JW jwM jw2
  rcases w1 with ⟨c1, hc1, w1⟩ | w1
  · rw [w1]
    simp only
    have hl1 : (Pr ++ (S ++ [0]) ++ R).length = b.length := by rw [hb]; simp
    have hz : Pr ++ (S ++ [0]) ++ R = Pr ++ S ++ ([0] ++ R) := by simp
    rw [writeC (by omega) (by rw [hl1]; omega)]
    by_cases hc : c1 = -1 ∨ 17 ≤ c1.toNat
    · rw [wrOk_all (by rw [lb]; exact hc), hz, splice_at (by omega) (by omega)]
      simp only
      have hl2 : (Pr ++ bodyM e ++ ([0] ++ R)).length = b.length := by rw [hb]; simp [lb, hS]
      have hz2 : Pr ++ bodyM e ++ ([0] ++ R) = (Pr ++ bodyM e) ++ [0] ++ R := by simp
      have hc2 : -1 ≤ cutBy c1 17 := by unfold cutBy; split <;> omega
      rw [lb, writeC (by omega) (by rw [hl2]; simp [commitB]; omega)]
      by_cases hc3 : cutBy c1 17 = -1 ∨ 1 ≤ (cutBy c1 17).toNat
      · left
        rw [wrOk_all (by simpa [commitB] using hc3), hz2, splice_at (S := [0]) (X := commitB) (by simp [lb]; omega) rfl]
        refine ⟨rfl, rfl, by simp, ?_⟩
        show -1 ≤ cutBy (cutBy c1 17) 1
        generalize cutBy c1 17 = q at *
        unfold cutBy; split <;> omega
      · right
        rw [wrOk_part (by omega) (by simp [commitB]; omega), show (cutBy c1 17).toNat = 0 by omega]
        refine ⟨rfl, rfl, rfl, .inr ⟨bodyM e, lb, ?_⟩⟩
        simp [splice_nil]
    · right
      rw [wrOk_part (by omega) (by omega), hz]
      refine ⟨rfl, rfl, rfl, .inr ⟨(bodyM e).take c1.toNat ++ S.drop c1.toNat, by simp [lb, hS]; omega, ?_⟩⟩
      have hS2 : S = S.take c1.toNat ++ S.drop c1.toNat := (List.take_append_drop _ _).symm
      have : Pr ++ S ++ ([0] ++ R) = Pr ++ S.take c1.toNat ++ (S.drop c1.toNat ++ ([0] ++ R)) := by
        rw [← List.append_assoc (Pr ++ S.take c1.toNat), List.append_assoc Pr (S.take c1.toNat), ← hS2]
      show splice (Pr ++ S ++ ([0] ++ R)) _ _ = _
      rw [this, splice_at (by omega) (by simp [lb, hS])]
      simp
  · right
    rw [w1]
    exact ⟨rfl, rfl, rfl, .inl rfl⟩
theorem held_zero {k : Int} {X : List UInt8} : heldM k (X ++ [0]) = zeroE := by
  rw [heldM_eq]
  split
  · rfl
  · rename_i h
    exfalso
    apply h
    right; right
    intro e
    have := congrArg List.getLast? e
    simp [commitB] at this
theorem held_par {k : Int} {s : List UInt8} (h : (heldM k s).n ≠ 0) : (heldM k s).n % 2 = k := by
  rw [heldM_eq] at *
  split at h
  · exact absurd rfl h
  · rename_i hc
    rw [if_neg hc]
    by_cases e : (parse s).n % 2 = k
    · exact e
    · exact absurd (.inr (.inl e)) hc
/-- a slot that held no newest entry is lost: nothing is -/
theorem deal_zap {b b' : List UInt8} {d : Nat} (hl : 216 ≤ b.length) (hd : d < 6) {Pr S R X : List UInt8} {st : Int} (hst : st = ((dealM b d).n + 1) % 2) (hb : b = Pr ++ S ++ R) (hb' : b' = Pr ++ (X ++ [0]) ++ R) (hP : Pr.length = (2 * d + st.toNat) * 18) (hS : S.length = 18) (hX : X.length = 17) :
    openM b' = openM b := by
  have hX' : (X ++ [0]).length = 18 := by simp [hX]
  have hk : st = 0 ∨ st = 1 := by omega
  have here : slot b' (2 * d + st.toNat) = X ++ [0] := by rw [hb']; exact slot_here _ _ _ _ hP hX'
  have els : ∀ i, i ≠ 2 * d + st.toNat → slot b' i = slot b i := fun i hi => by rw [hb, hb']; exact slot_else _ _ _ _ _ _ hP hX' hS hi
  have q1 : dealM b d = updE (updE zeroE (heldM 0 (slot b (2 * d + 0)))) (heldM 1 (slot b (2 * d + 1))) := rfl
  have q2 : dealM b' d = updE (updE zeroE (heldM 0 (slot b' (2 * d + 0)))) (heldM 1 (slot b' (2 * d + 1))) := rfl
  have m1 : (dealM b d).n = max (max 0 (heldM 0 (slot b (2 * d + 0))).n) (heldM 1 (slot b (2 * d + 1))).n := by rw [q1, updE_n, updE_n]; rfl
  have l0 := slot_len b (2 * d + 0) (by omega) hl
  have l1 := slot_len b (2 * d + 1) (by omega) hl
  have n0 := heldM_n 0 (slot b (2 * d + 0)) (by omega)
  have n1 := heldM_n 1 (slot b (2 * d + 1)) (by omega)
  have p0 := held_par (k := 0) (s := slot b (2 * d + 0))
  have p1 := held_par (k := 1) (s := slot b (2 * d + 1))
  have hz : ∀ e : Ent, e.n = 0 → updE zeroE e = zeroE := fun e h => by unfold updE; rw [if_neg (by show ¬ (0 : Int) < e.n; omega)]
  have hd2 : dealM b' d = dealM b d := by
    rcases hk with rfl | rfl
    · rw [q2, show slot b' (2 * d + 0) = X ++ [0] from here, held_zero, els (2 * d + 1) (by simp), q1]
      generalize heldM 0 (slot b (2 * d + 0)) = u at *
      generalize heldM 1 (slot b (2 * d + 1)) = v at *
      have hzz : updE zeroE zeroE = zeroE := by unfold updE; rw [if_neg (by show ¬ (0 : Int) < 0; omega)]
      rw [hzz]
      have hun : (updE zeroE u).n = max 0 u.n := by rw [updE_n]; rfl
      generalize hw : updE zeroE u = w at *
      have hlt : w.n < v.n := by
        by_cases hu0 : u.n = 0
        · omega
        · have := p0 hu0
          omega
      unfold updE
      rw [if_pos (by show (0 : Int) < v.n; omega), if_pos hlt]
    · rw [q2, show slot b' (2 * d + 1) = X ++ [0] from here, held_zero, els (2 * d + 0) (by simp), q1]
      generalize heldM 0 (slot b (2 * d + 0)) = u at *
      generalize heldM 1 (slot b (2 * d + 1)) = v at *
      have hun : (updE zeroE u).n = max 0 u.n := by rw [updE_n]; rfl
      generalize updE zeroE u = w at *
      have hle : v.n ≤ w.n := by
        by_cases hv0 : v.n = 0
        · omega
        · have := p1 hv0
          omega
      unfold updE
      rw [if_neg (by show ¬ w.n < (0 : Int); omega), if_neg (by omega)]
  have hdo : ∀ i, i ≠ d → dealM b' i = dealM b i := fun i hi => by
    unfold dealM partE partE partE
    rw [els (2 * i + 0) (by omega), els (2 * i + 1) (by omega)]
  unfold openM
  apply List.map_congr_left
  intro i hi
  by_cases e : i = d
  · subst e; exact hd2
  · exact hdo i e
/-- a plate and its journal: both alive, or neither -/
structure JI (m : Pl) (j : Jn) : Prop where
  lo : 216 ≤ m.b.length
  hi : m.b.length ≤ 1000000
  c0 : -1 ≤ m.cut
  c1 : m.cut ≤ 9223372036854775807
  off : j.dead = m.off
  l : j.l = openM m.b
theorem JI.pl {m : Pl} {j : Jn} (h : JI m j) : PlOk m := ⟨h.hi, h.c0, h.c1⟩
theorem JI.jn {m : Pl} {j : Jn} (h : JI m j) : JnOk j := by
  have := open_ok h.lo
  exact ⟨by rw [h.l]; exact this.len, by rw [h.l]; exact this.n0, by rw [h.l]; exact this.n1⟩
/-- any Put at all -/
theorem put_any {m : Pl} {j : Jn} (h : JI m j) (deal : Int) (s : St) : JI (putM m j deal s).1 (putM m j deal s).2.1 ∧ (putM m j deal s).1.b.length = m.b.length ∧
    (((putM m j deal s).2.1.l = j.l ∧ (((putM m j deal s).2.2 = some 6 ∧ (putM m j deal s).1.off = true) ∨ (putM m j deal s).2.2 = some 2 ∧ badPut deal s ∨ (putM m j deal s).2.2 = some 5 ∧ 4294967296 ≤ (j.l.getD deal.toNat zeroE).n + 1)) ∨
     (¬ badPut deal s ∧ (putM m j deal s).2.2 = none ∧ m.off = false ∧ (putM m j deal s).1.off = false ∧ (((j.l.getD deal.toNat zeroE).s = s ∧ (putM m j deal s).2.1.l = j.l ∧ (putM m j deal s).1 = m) ∨
        (j.l.getD deal.toNat zeroE).s ≠ s ∧ (putM m j deal s).2.1.l = j.l.set deal.toNat ⟨(j.l.getD deal.toNat zeroE).n + 1, s⟩))) := by
  obtain ⟨b, off, cut⟩ := m
  obtain ⟨jl, dead⟩ := j
  have hJ := h
  obtain ⟨h1, h2, h3, h4, h5, h6⟩ := h
  simp only at h1 h2 h3 h4 h5 h6
  subst h5; subst h6
  unfold putM
  by_cases hdd : dead = true
  · subst hdd
    simp only [if_true]
    exact ⟨hJ, by trivial, .inl ⟨by trivial, .inl ⟨by trivial, by trivial⟩⟩⟩
  have hdd' : dead = false := by simpa using hdd
  subst hdd'
  simp only [Bool.false_eq_true, if_false]
  by_cases hb : badPut deal s
  · rw [if_pos hb]
    exact ⟨hJ, by trivial, .inl ⟨by trivial, .inr (.inl ⟨by trivial, hb⟩)⟩⟩
  rw [if_neg hb]
  have hb2 := hb
  unfold badPut at hb2
  obtain ⟨d, rfl⟩ := Int.eq_ofNat_of_zero_le (show 0 ≤ deal by omega)
  have hd : d < 6 := by omega
  simp only [Int.toNat_natCast, openM_get hd]
  by_cases he : (dealM b d).s = s
  · rw [if_pos he]
    exact ⟨hJ, rfl, .inr ⟨hb, by trivial, by trivial, by trivial, .inl ⟨he, by trivial, by trivial⟩⟩⟩
  rw [if_neg he]
  by_cases hf : 4294967296 ≤ (dealM b d).n + 1
  · rw [if_pos hf]
    exact ⟨hJ, rfl, .inl ⟨rfl, .inr (.inr ⟨by trivial, hf⟩)⟩⟩
  rw [if_neg hf]
  have hn := part1_n hd h1 2 (by omega)
  have hn' : 0 ≤ (dealM b d).n ∧ (dealM b d).n < 4294967296 := hn
  obtain ⟨Pr, S, c, R, e1, e2, e3, hjw⟩ := jw_cut (b := b) (d := d) (ct := cut) (e := ⟨(dealM b d).n + 1, s⟩) h3 h1 hd (by simp only; omega)
  have hpl := jwM_ok hJ.pl d ⟨(dealM b d).n + 1, s⟩
  generalize jwM ⟨b, false, cut⟩ d ⟨(dealM b d).n + 1, s⟩ = r at *
  obtain ⟨⟨b', off', cut'⟩, er⟩ := r
  simp only [JW] at hjw
  rcases hjw with ⟨rfl, rfl, rfl, hc⟩ | ⟨rfl, rfl, rfl, hc⟩
  · have hok : EntOk ⟨(dealM b d).n + 1, s⟩ := ⟨by simp only; omega, by simp only; omega, by simp only; omega, by simp only; omega, by simp only; omega, by simp only; omega, by simp only; omega, by simp only; omega⟩
    have hnew := deal_new (b' := Pr ++ (bodyM ⟨(dealM b d).n + 1, s⟩ ++ commitB) ++ R) h1 hd hok rfl e1 rfl e2 (by simp [e3])
    have hL : (Pr ++ (bodyM ⟨(dealM b d).n + 1, s⟩ ++ commitB) ++ R).length = b.length := by rw [e1]; simp [bodyM_len, commitB, e3]
    refine ⟨⟨by rw [hL]; exact h1, by rw [hL]; exact h2, hc, hpl.hi, rfl, hnew.symm⟩, hL, .inr ⟨hb, by trivial, by trivial, by trivial, .inr ⟨he, by trivial⟩⟩⟩
  · have hopen : openM b' = openM b := by
      rcases hc with hc | ⟨X, hX, hc⟩
      · rw [hc]
      · exact deal_zap h1 hd rfl e1 hc e2 (by simp [e3]) hX
    have hL : b'.length = b.length := by
      rcases hc with hc | ⟨X, hX, hc⟩
      · rw [hc]
      · rw [hc, e1]; simp [hX, e3]
    refine ⟨⟨by rw [hL]; exact h1, by rw [hL]; exact h2, by simp, by simp, rfl, hopen.symm⟩, hL, .inl ⟨by trivial, .inl ⟨by trivial, by trivial⟩⟩⟩
/-- power is cut later; power comes again, and the journal is opened anew -/
theorem JI.cut {m : Pl} {j : Jn} (h : JI m j) {n : Int} (h0 : 0 ≤ n) (h1 : n ≤ 9223372036854775807) : JI { m with cut := n } j := ⟨h.lo, h.hi, by simp only; omega, h1, h.off, h.l⟩
theorem JI.boot {m : Pl} {j : Jn} (h : JI m j) : JI { m with off := false, cut := -1 } ⟨openM m.b, false⟩ := ⟨h.lo, h.hi, by simp, by simp, rfl, rfl⟩
end Go.HL
end

/-! StD -/
section
namespace Go.HL
open Go Go.Proofs
set_option linter.unusedVariables false
set_option linter.unusedSimpArgs false
def stOk (s : St) : Prop := 0 ≤ s.ph ∧ s.ph ≤ 5 ∧ 0 ≤ s.att ∧ s.att ≤ s.pr ∧ s.pr ≤ 1048576
/-- a state behind another one -/
def stLe (a b : St) : Prop := a.pr ≤ b.pr ∧ a.att ≤ b.att ∧ mayS a.ph b.ph = true
theorem stLe_refl {a : St} (h : stOk a) : stLe a a := by
  obtain ⟨h1, h2, -⟩ := h
  exact ⟨Int.le_refl _, Int.le_refl _, decide_eq_true (by omega)⟩
def stAt (j : Jn) (d : Nat) : St := (j.l.getD d zeroE).s
theorem afterS_pos {p : Int} : afterS p ≠ 0 ↔ p = 4 ∨ p = 5 := by unfold afterS; split <;> (try split) <;> omega
theorem turn_ok {ref : Int → Bool} {f : Fr} {st : St} (h : stOk st) (hf : ¬ badF f) : stOk (turnM ref f st).1 ∧ stLe st (turnM ref f st).1 := by
  obtain ⟨h1, h2, h3, h4, h5⟩ := h
  unfold badF at hf
  unfold turnM
  split
  · unfold askM
    split
    · split
      · exact ⟨⟨by simp, by simp, h3, h4, h5⟩, by simp, by simp, decide_eq_true (by simp only; omega)⟩
      · exact ⟨⟨by simp, by simp, h3, h4, h5⟩, by simp, by simp, decide_eq_true (by simp only; omega)⟩
    · exact ⟨⟨h1, h2, h3, h4, h5⟩, stLe_refl ⟨h1, h2, h3, h4, h5⟩⟩
  split
  · have e1 : st.pr ≤ max st.pr f.att := Int.le_max_left _ _
    have e2 : max st.pr f.att ≤ 1048576 := by omega
    exact ⟨⟨h1, h2, h3, Int.le_trans h4 e1, e2⟩, e1, Int.le_refl _, decide_eq_true (by show _ ∧ (st.ph = st.ph ∨ _); exact ⟨⟨h1, h2, h1, h2⟩, .inl rfl⟩)⟩
  split
  · split
    · exact ⟨⟨h1, h2, h3, h4, h5⟩, stLe_refl ⟨h1, h2, h3, h4, h5⟩⟩
    · rename_i ha
      have ha' := afterS_pos.1 ha
      split
      · rename_i ho
        have ho' : st.ph ≠ 2 ∧ st.ph ≠ 3 := by simpa [openS] using ho.1
        exact ⟨⟨by simp only; omega, by simp only; omega, by simp only; omega, by simp, by simp only; omega⟩, by simp only; omega, by simp only; omega, decide_eq_true (by simp only; omega)⟩
      · exact ⟨⟨h1, h2, h3, h4, h5⟩, stLe_refl ⟨h1, h2, h3, h4, h5⟩⟩
  split
  · split
    · rename_i ho
      have ho' : st.ph ≠ 2 ∧ st.ph ≠ 3 := by simpa [openS] using ho.1
      exact ⟨⟨by simp only; omega, by simp only; omega, h3, h4, h5⟩, by simp, by simp, decide_eq_true (by simp only; omega)⟩
    · exact ⟨⟨h1, h2, h3, h4, h5⟩, stLe_refl ⟨h1, h2, h3, h4, h5⟩⟩
  · exact ⟨⟨h1, h2, h3, h4, h5⟩, stLe_refl ⟨h1, h2, h3, h4, h5⟩⟩
/-- a site's plate and journal -/
structure SI (m : Pl) (j : Jn) : Prop where
  ji : JI m j
  st : ∀ d, d < 6 → stOk (stAt j d)
theorem SI.boot {m : Pl} {j : Jn} (h : SI m j) : SI { m with off := false, cut := -1 } ⟨openM m.b, false⟩ := ⟨h.ji.boot, fun d hd => by have := h.st d hd; unfold stAt at *; rw [h.ji.l] at this; exact this⟩
theorem SI.cut {m : Pl} {j : Jn} (h : SI m j) {n : Int} (h0 : 0 ≤ n) (h1 : n ≤ 9223372036854775807) : SI { m with cut := n } j := ⟨h.ji.cut h0 h1, h.st⟩
/-- whatever it hears -/
theorem site_any {id : Int} {ref : Int → Bool} {m : Pl} {j : Jn} (h : SI m j) (f : Fr) : SI (siteM id ref m j f).1 (siteM id ref m j f).2.1 ∧ (siteM id ref m j f).1.b.length = m.b.length ∧ (∀ d, d < 6 → stLe (stAt j d) (stAt (siteM id ref m j f).2.1 d)) ∧
    (((siteM id ref m j f).2.2.1 = []) ∨ (¬ badF f ∧ f.to = id ∧ (siteM id ref m j f).2.2.2 = none ∧ (turnM ref f (stAt j f.dl.toNat)).2.1 ≠ 0 ∧ stAt (siteM id ref m j f).2.1 f.dl.toNat = (turnM ref f (stAt j f.dl.toNat)).1 ∧
      (∀ d, d < 6 → d ≠ f.dl.toNat → stAt (siteM id ref m j f).2.1 d = stAt j d) ∧
      (siteM id ref m j f).2.2.1 = [⟨id, f.fr, f.dl, (turnM ref f (stAt j f.dl.toNat)).2.1, f.att, (turnM ref f (stAt j f.dl.toNat)).2.2, (turnM ref f (stAt j f.dl.toNat)).1⟩])) := by
  unfold siteM
  have same : ∀ d, d < 6 → stLe (stAt j d) (stAt j d) := fun d hd => stLe_refl (h.st d hd)
  by_cases hb : badF f
  · simp only [if_pos hb]
    exact ⟨h, by trivial, same, .inl (by trivial)⟩
  simp only [if_neg hb]
  by_cases hto : f.to = id
  · simp only [ne_eq, hto, not_true_eq_false, if_false]
    have hb2 := hb
    unfold badF at hb2
    obtain ⟨d, hd⟩ := Int.eq_ofNat_of_zero_le (show 0 ≤ f.dl by omega)
    have hd6 : d < 6 := by omega
    rw [hd]
    simp only [Int.toNat_natCast]
    show _ ∧ _ ∧ _ ∧ _
    have ht := turn_ok (ref := ref) (h.st d hd6) hb
    change stOk (turnM ref f (j.l.getD d zeroE).s).1 ∧ stLe (stAt j d) (turnM ref f (j.l.getD d zeroE).s).1 at ht
    have est : stAt j d = (j.l.getD d zeroE).s := rfl
    rw [est]
    generalize htr : turnM ref f (j.l.getD d zeroE).s = tr at *
    have hp := put_any h.ji d tr.1
    generalize putM m j d tr.1 = r at *
    obtain ⟨m', j', er⟩ := r
    simp only at hp ⊢
    obtain ⟨hJ, hL, hp⟩ := hp
    rcases hp with ⟨hl, he⟩ | ⟨hnb, he, ho, ho', hp⟩
    · have hsame : ∀ q, stAt j' q = stAt j q := fun q => by unfold stAt; rw [hl]
      have hS : SI m' j' := ⟨hJ, fun q hq => by rw [hsame]; exact h.st q hq⟩
      have he2 : ∃ x, er = some x := by
        rcases he with ⟨he, -⟩ | ⟨he, -⟩ | ⟨he, -⟩ <;> exact ⟨_, he⟩
      obtain ⟨x, rfl⟩ := he2
      exact ⟨hS, hL, fun q hq => by rw [hsame]; exact same q hq, .inl rfl⟩
    · subst he
      simp only [Int.toNat_natCast] at hp
      have hlen : j.l.length = 6 := h.ji.jn.len
      have hst' : stAt j' d = tr.1 ∧ ∀ q, q ≠ d → stAt j' q = stAt j q := by
        rcases hp with ⟨h1, h2, -⟩ | ⟨h1, h2⟩
        · refine ⟨by unfold stAt; rw [h2, h1], fun q _ => by unfold stAt; rw [h2]⟩
        · refine ⟨by unfold stAt; rw [h2]; simp [List.getD, hlen, hd6], fun q hq => by unfold stAt; rw [h2]; simp [List.getD, List.getElem?_set, Ne.symm hq]⟩
      have hS : SI m' j' := ⟨hJ, fun q hq => by
        by_cases e : q = d
        · rw [e, hst'.1]; exact ht.1
        · rw [hst'.2 q e]; exact h.st q hq⟩
      refine ⟨hS, hL, fun q hq => ?_, ?_⟩
      · by_cases e : q = d
        · rw [e, hst'.1]; exact ht.2
        · rw [hst'.2 q e]; exact same q hq
      · by_cases hk : tr.2.1 = 0
        · exact .inl (if_pos hk)
        · exact .inr ⟨hb, by trivial, rfl, hk, hst'.1, fun q _ hq => hst'.2 q hq, if_neg hk⟩
  · simp only [ne_eq, hto, not_false_eq_true, if_true]
    exact ⟨h, by trivial, same, .inl (by trivial)⟩
end Go.HL
end

/-! TabB -/
section
namespace Go.HL
open Go Go.Proofs
set_option linter.unusedVariables false
set_option linter.unusedSimpArgs false
set_option maxHeartbeats 2000000 attribute [local irreducible] HW HO HQ HD HC QOp Has Upd Puts Gets seqQ blkQ loopQ fnQ actQ nextP unQ MapF

theorem stIs_calls (s : St) (b : Nat) (p : Int) (L : Heap) {F : Nat} {fr : Nat × Nat} (hb : Has L b (.cells ⟨[iv p]⟩ F fr)) :
    HC Tryz.prog 181 [.agg ⟨sc s⟩, pt b 0] L (fun v L' => v = .bool (decide (s.ph = p)) ∧ L' = L) := by
  refine Za (fun _ _ => Tryz.call181 _ _) Tryz.func181 rfl Tryz.ntmps181 (Nat.le_of_ble_eq_true rfl) ?_; simp only [args0, Nat.reduceAdd]
  repeat' (first | refine uN ?_ | (refine uB ?_; intro b) | fail)
  (refine fn_ret1 rfl rfl ?_ ⟨?_, rfl⟩; (next => (repeat (first | exact List.Sublist.refl _ | apply List.Sublist.cons))))
  rfl
theorem findIdx_take {xs : List St} {f : St → Bool} {j : Int} (h0 : 0 ≤ j) (hlt : j < xs.length) (hn : (xs.take j.toNat).any f = false) (h : f (xs[j.toNat]'(by omega)) = true) : xs.any f = true ∧ (xs.findIdx f : Int) = j := by
  have hj : j.toNat < xs.length := by omega
  refine ⟨List.any_eq_true.2 ⟨_, List.getElem_mem hj, h⟩, ?_⟩
  have : xs.findIdx f = j.toNat := by
    rw [List.findIdx_eq hj]
    refine ⟨h, fun k hk => ?_⟩
    rw [List.any_eq_false] at hn
    have hk' : k < (xs.take j.toNat).length := by simp; omega
    have := hn _ (List.getElem_mem hk')
    rw [List.getElem_take] at this
    simpa using this
  omega
theorem index_calls (a : Option Addr) (cap : Nat) (xs : List St) (F : Nat) (cs : List Value) (f : St → Bool) (L : Heap) (hR : Rd sc 3 L a xs) (hl : xs.length ≤ 1000000)
    (hf : ∀ s, HC Tryz.prog F (.agg ⟨sc s⟩ :: cs) L (fun v L' => v = .bool (f s) ∧ L' = L)) :
    HC Tryz.prog 254 [.slice a xs.length cap, .func (.func F) #[] ⟨cs⟩] L (fun v L' => v = iv (if xs.any f then (xs.findIdx f : Int) else -1) ∧ L' = L) := by
  refine Za (fun _ _ => Tryz.call254 _ _) Tryz.func254 rfl Tryz.ntmps254 (Nat.le_of_ble_eq_true rfl) ?_; simp only [args0, Nat.reduceAdd]
  repeat' (first | refine uN ?_ | (refine uP ?_ ?_ <;> (intro h; ((try simp only [zs, ne_eq, and_true, true_and, eq_self, reduceCtorEq] at h); try exact zx))) | fail)
  refine Zf (σ := Int) (fun j => [(0, .slice a xs.length cap), (1, .func (.func F) #[] ⟨cs⟩), (6, .slice a xs.length cap), (7, iv xs.length), (8, iv j)]) (fun _ => L) (fun j => 0 ≤ j ∧ j ≤ xs.length ∧ (xs.take j.toNat).any f = false) (fun j => (xs.length - j).toNat) 0 uS (List.Sublist.refl _) ⟨by omega, by omega, by simp⟩ ?_
  rintro j ⟨h0, h1, h2⟩
  by_cases hlt : j < xs.length
  · obtain ⟨b, i, l, E, fr, rfl, hb, hg⟩ := hR.at h0 hlt
    repeat' (first | refine uN ?_ | refine uC (hf _) ?_ | (refine uP ?_ ?_ <;> (intro h; ((try simp only [zs, ne_eq, and_true, true_and, eq_self, reduceCtorEq] at h); try exact zx))) | fail)
    · (refine fn_ret1 rfl rfl ?_ ⟨?_, rfl⟩; (next => (repeat (first | exact List.Sublist.refl _ | apply List.Sublist.cons))))
      obtain ⟨e1, e2⟩ := findIdx_take h0 hlt h2 (by assumption)
      rw [if_pos e1, e2]
    · exact Zg (j + 1) uS (List.Sublist.refl _) ⟨by omega, by omega, by rw [take_succ h0 hlt, List.any_append, h2]; simp [*]⟩ (by omega)
  · repeat' (first | refine uN ?_ | (refine uP ?_ ?_ <;> (intro h; ((try simp only [zs, ne_eq, and_true, true_and, eq_self, reduceCtorEq] at h); try exact zx))) | fail)
    (refine fn_ret1 rfl rfl ?_ ⟨?_, rfl⟩; (next => (repeat (first | exact List.Sublist.refl _ | apply List.Sublist.cons))))
    rw [take_all hlt] at h2
    rw [if_neg (by simp [h2])]
theorem contains_calls (a : Option Addr) (cap : Nat) (xs : List St) (F : Nat) (cs : List Value) (f : St → Bool) (L : Heap) (hR : Rd sc 3 L a xs) (hl : xs.length ≤ 1000000)
    (hf : ∀ s, HC Tryz.prog F (.agg ⟨sc s⟩ :: cs) L (fun v L' => v = .bool (f s) ∧ L' = L)) :
    HC Tryz.prog 180 [.slice a xs.length cap, .func (.func F) #[] ⟨cs⟩] L (fun v L' => v = .bool (xs.any f) ∧ L' = L) := by
  refine Za (fun _ _ => Tryz.call180 _ _) Tryz.func180 rfl Tryz.ntmps180 (Nat.le_of_ble_eq_true rfl) ?_; simp only [args0, Nat.reduceAdd]
  repeat' (first | refine uN ?_ | refine uC (index_calls _ _ _ _ _ f _ hR hl hf) ?_ | fail)
  (refine fn_ret1 rfl rfl ?_ ⟨?_, rfl⟩; (next => (repeat (first | exact List.Sublist.refl _ | apply List.Sublist.cons))))
  refine congrArg Value.bool ?_
  cases hx : xs.any f <;> simp
theorem has_calls (p : Int) (a : Option Addr) (cap : Nat) (xs : List St) (L : Heap) (b E : Nat) (fr : Nat × Nat) (hb : Has L b (.cells ⟨[.slice a xs.length cap]⟩ E fr)) (hR : Rd sc 3 L a xs) (hl : xs.length ≤ 1000000) :
    HC Tryz.prog 179 [iv p, pt b 0] L (fun v L' => v = .bool (toldS xs p) ∧ L' = L) := by
  refine Za (fun _ _ => Tryz.call179 _ _) Tryz.func179 rfl Tryz.ntmps179 (Nat.le_of_ble_eq_true rfl) ?_; simp only [args0, Nat.reduceAdd]
  repeat' (first | refine uN ?_ | refine g_q (qC (contains_calls _ _ _ _ _ (fun s => decide (s.ph = p)) _ (hR.cons _) hl (fun s => stIs_calls s _ p _ Zh))) ?_ | (refine uB ?_; intro b) | fail)
  (refine fn_ret1 rfl rfl ?_ ⟨?_, rfl⟩; (next => (repeat (first | exact List.Sublist.refl _ | apply List.Sublist.cons))))
  rfl
def stepP (m s : St) : St := if prep s then (if m.ph = 0 ∨ m.att < s.att ∨ (s.att = m.att ∧ s.ph = 4) then s else m) else m
def bestP (xs : List St) : St := xs.foldl stepP ⟨0, 0, 0⟩
theorem bestP_snoc (xs : List St) (s : St) : bestP (xs ++ [s]) = stepP (bestP xs) s := by simp [bestP]
def BI (xs : List St) (m : St) (b : Int × Bool) : Prop :=
  (m = ⟨0, 0, 0⟩ ∧ b = (0, true) ∧ ∀ s ∈ xs, prep s = false) ∨
  (b = (m.att, false) ∧ (m.ph = 4 ∧ (∃ s ∈ xs, s.ph = 4 ∧ s.att = m.att) ∨ m.ph = 5 ∧ ∀ s ∈ xs, ¬ (s.ph = 4 ∧ s.att = m.att)) ∧ ∀ s ∈ xs, prep s = true → s.att ≤ m.att)
theorem bi_step (xs : List St) (m s : St) (b : Int × Bool) (h : BI xs m b) : BI (xs ++ [s]) (stepP m s) (bestS [s] b.1 b.2) := by
  unfold BI at *
  simp only [bestS, stepP, List.mem_append, List.mem_singleton]
  by_cases hp : prep s = true
  · have hp' : s.ph = 4 ∨ s.ph = 5 := by simpa [prep] using hp
    rw [if_pos hp, if_pos hp]
    right
    rcases h with ⟨rfl, rfl, hall⟩ | ⟨rfl, hm, hle⟩
    · simp only [Bool.true_or, if_true, true_or]
      refine ⟨trivial, ?_, ?_⟩
      · rcases hp' with h4 | h5
        · exact .inl ⟨h4, s, .inr rfl, h4, rfl⟩
        · refine .inr ⟨h5, fun x hx h => ?_⟩
          rcases hx with hx | rfl
          · have := hall x hx; simp [prep, h.1] at this
          · omega
      · intro x hx hpx
        rcases hx with hx | rfl
        · rw [hall x hx] at hpx; cases hpx
        · omega
    · have hm0 : m.ph ≠ 0 := by rcases hm with h | h <;> omega
      simp only [Bool.false_or, decide_eq_true_eq]
      by_cases hlt : m.att < s.att
      · rw [if_pos hlt, if_pos (.inr (.inl hlt))]
        refine ⟨rfl, ?_, ?_⟩
        · rcases hp' with h4 | h5
          · exact .inl ⟨h4, s, .inr rfl, h4, rfl⟩
          · refine .inr ⟨h5, fun x hx h => ?_⟩
            rcases hx with hx | rfl
            · have := hle x hx (by simp [prep, h.1]); omega
            · omega
        · intro x hx hpx
          rcases hx with hx | rfl
          · have := hle x hx hpx; omega
          · omega
      · rw [if_neg hlt]
        by_cases he : s.att = m.att ∧ s.ph = 4
        · rw [if_pos (.inr (.inr he))]
          refine ⟨by rw [he.1], .inl ⟨he.2, s, .inr rfl, he.2, rfl⟩, ?_⟩
          intro x hx hpx
          rcases hx with hx | rfl
          · have := hle x hx hpx; omega
          · omega
        · rw [if_neg (by simp [hm0, hlt]; omega)]
          refine ⟨rfl, ?_, ?_⟩
          · rcases hm with ⟨h4, x, hx, hx2⟩ | ⟨h5, hno⟩
            · exact .inl ⟨h4, x, .inl hx, hx2⟩
            · refine .inr ⟨h5, fun x hx h => ?_⟩
              rcases hx with hx | rfl
              · exact hno x hx h
              · exact he ⟨h.2, h.1⟩
          · intro x hx hpx
            rcases hx with hx | rfl
            · exact hle x hx hpx
            · omega
  · have hp' : prep s = false := by simpa using hp
    have h4 : s.ph ≠ 4 := fun e => by simp [prep, e] at hp
    rw [if_neg hp, if_neg hp]
    rcases h with ⟨rfl, rfl, hall⟩ | ⟨rfl, hm, hle⟩
    · refine .inl ⟨rfl, rfl, fun x hx => ?_⟩
      rcases hx with hx | rfl
      · exact hall x hx
      · exact hp'
    · refine .inr ⟨rfl, ?_, fun x hx hpx => ?_⟩
      · rcases hm with ⟨h4', x, hx, hx2⟩ | ⟨h5, hno⟩
        · exact .inl ⟨h4', x, .inl hx, hx2⟩
        · refine .inr ⟨h5, fun x hx h => ?_⟩
          rcases hx with hx | rfl
          · exact hno x hx h
          · exact h4 h.1
      · rcases hx with hx | rfl
        · exact hle x hx hpx
        · rw [hp'] at hpx; cases hpx
theorem bi_all (xs : List St) : BI xs (bestP xs) (bestS xs 0 true) := by
  have key : ∀ ys : List St, BI ys.reverse (bestP ys.reverse) (bestS ys.reverse 0 true) := by
    intro ys
    induction ys with
    | nil => exact .inl ⟨rfl, rfl, by simp⟩
    | cons s ys ih =>
      rw [List.reverse_cons, bestP_snoc, bestS_append]
      exact bi_step _ _ s _ ih
  simpa using key xs.reverse
/-- what the two ways of the search have in common -/
theorem best_inv (xs : List St) :
    (bestP xs = ⟨0, 0, 0⟩ ∧ (bestS xs 0 true) = (0, true) ∧ xs.all (fun s => !prep s) = true) ∨
    ((bestP xs).ph = 4 ∧ bestS xs 0 true = ((bestP xs).att, false) ∧ xs.any (fun s => decide (s.ph = 4 ∧ s.att = (bestP xs).att)) = true) ∨
    ((bestP xs).ph = 5 ∧ bestS xs 0 true = ((bestP xs).att, false) ∧ xs.any (fun s => decide (s.ph = 4 ∧ s.att = (bestP xs).att)) = false) := by
  rcases bi_all xs with ⟨h1, h2, h3⟩ | ⟨h1, h2 | h2, h3⟩
  · exact .inl ⟨h1, h2, by simpa using h3⟩
  · refine .inr (.inl ⟨h2.1, h1, ?_⟩)
    simp only [List.any_eq_true, decide_eq_true_eq]
    exact h2.2
  · refine .inr (.inr ⟨h2.1, h1, ?_⟩)
    rw [List.any_eq_false]
    intro x hx
    simpa using h2.2 x hx
theorem choose_calls (a : Option Addr) (cap : Nat) (xs : List St) (L : Heap) (hR : Rd sc 3 L a xs) (hl : xs.length ≤ 1000000) : HC Tryz.prog 132 [.slice a xs.length cap] L (fun v L' => v = .tuple ⟨[iv (chooseS xs).1, .bool (chooseS xs).2]⟩ ∧ L' = L) := by
  refine Za (fun _ _ => Tryz.call132 _ _) Tryz.func132 rfl Tryz.ntmps132 (Nat.le_of_ble_eq_true rfl) ?_; simp only [args0, Nat.reduceAdd]
  repeat' (first | refine uN ?_ | (refine uB ?_; intro b) | (refine uP ?_ ?_ <;> (intro h; ((try simp only [zs, ne_eq, and_true, true_and, eq_self, reduceCtorEq] at h); try exact zx))) | fail)
  rename_i b1
  refine Zf (σ := Int) (fun j => [(1, pt b1 0), (4, .func (.func 179) #[] ⟨[pt b1 0]⟩), (11, sl b 0 2 2), (12, iv 2), (13, iv j)]) (fun _ => [(b, .cells ⟨[iv 2, iv 3]⟩ 3)] :: [(b1, .cells ⟨[.slice a xs.length cap]⟩ 37)] :: L)
    (fun j => 0 ≤ j ∧ j ≤ 2 ∧ (1 ≤ j → toldS xs 2 = false) ∧ (2 ≤ j → toldS xs 3 = false)) (fun j => (2 - j).toNat) 0 uS (List.Sublist.refl _) ⟨by omega, by omega, by omega, by omega⟩ ?_
  rintro j ⟨h0, h1, h2, h3⟩
  have hj : j = 0 ∨ j = 1 ∨ j = 2 := by omega
  rcases hj with rfl | rfl | rfl
  · repeat' (first | refine uN ?_ | refine g_q (qC (has_calls _ _ _ _ _ _ _ _ (Zd Zh) ((hR.cons _).cons _) hl)) ?_ | (refine uB ?_; intro b) | (refine uP ?_ ?_ <;> (intro h; ((try simp only [zs, ne_eq, and_true, true_and, eq_self, reduceCtorEq] at h); try exact zx))) | fail)
    · (refine fn_ret2 rfl rfl rfl ?_ ⟨?_, rfl⟩; (next => (repeat (first | exact List.Sublist.refl _ | apply List.Sublist.cons))))
      simp [chooseS, *]
    · exact Zg 1 uS (List.Sublist.refl _) ⟨by omega, by omega, fun _ => by assumption, by omega⟩ (by decide)
  · repeat' (first | refine uN ?_ | refine g_q (qC (has_calls _ _ _ _ _ _ _ _ (Zd Zh) ((hR.cons _).cons _) hl)) ?_ | (refine uB ?_; intro b) | (refine uP ?_ ?_ <;> (intro h; ((try simp only [zs, ne_eq, and_true, true_and, eq_self, reduceCtorEq] at h); try exact zx))) | fail)
    · (refine fn_ret2 rfl rfl rfl ?_ ⟨?_, rfl⟩; (next => (repeat (first | exact List.Sublist.refl _ | apply List.Sublist.cons))))
      have e := h2 (by omega)
      simp [chooseS, *]
    · exact Zg 2 uS (List.Sublist.refl _) ⟨by omega, by omega, fun _ => h2 (by omega), fun _ => by assumption⟩ (by decide)
  · have e2 := h2 (by omega)
    have e3 := h3 (by omega)
    repeat' (first | refine uN ?_ | (refine uB ?_; intro b) | (refine uP ?_ ?_ <;> (intro h; ((try simp only [zs, ne_eq, and_true, true_and, eq_self, reduceCtorEq] at h); try exact zx))) | fail)
    clear h0 h1 h2 h3
    refine Zf (σ := Int × St) (fun s => [(7, pt b 0), (22, .slice a xs.length cap), (23, iv xs.length), (24, iv s.1)]) (fun s => [(b, .cells ⟨sc s.2⟩ 43)] :: L)
      (fun s => 0 ≤ s.1 ∧ s.1 ≤ xs.length ∧ bestP (xs.take s.1.toNat) = s.2) (fun s => (xs.length - s.1).toNat) (0, ⟨0, 0, 0⟩) uS (by exact .cons_cons _ (.cons _ (.cons _ (.refl _)))) ⟨by simp, by simp, by simp [bestP]⟩ ?_
    rintro ⟨j, m⟩ ⟨j0, j1, hm⟩
    simp only at j0 j1 hm
    by_cases hlt : j < xs.length
    · obtain ⟨bb, i, l, E, fr, rfl, hb, hg⟩ := hR.at j0 hlt
      have e := bestP_snoc (xs.take j.toNat) (xs[j.toNat]'(by omega))
      rw [← take_succ j0 hlt, hm] at e
      clear hm
      repeat' (first | refine uN ?_ | (refine uB ?_; intro b) | (refine uP ?_ ?_ <;> (intro h; ((try simp only [zs, ne_eq, and_true, true_and, eq_self, reduceCtorEq] at h); try exact zx))) | fail)
      all_goals first
        | ((refine Zg (j + 1, xs[j.toNat]'(by omega)) ?_ ?_ ?_ ?_; (next => (repeat (first | exact trivial | refine ⟨rfl, ?_⟩))); (next => (repeat (first | exact List.Sublist.refl _ | apply List.Sublist.cons)))); (next => refine ⟨?_, ?_, ?_⟩; (next => show 0 ≤ j + 1; omega); (next => show j + 1 ≤ (xs.length : Int); omega); (next => show bestP (List.take (j + 1).toNat xs) = _; rw [e]; simp [stepP, prep, *]; done)); (next => show (xs.length - (j + 1)).toNat < (xs.length - j).toNat; omega))
        | ((refine Zg (j + 1, m) ?_ ?_ ?_ ?_; (next => (repeat (first | exact trivial | refine ⟨rfl, ?_⟩))); (next => (repeat (first | exact List.Sublist.refl _ | apply List.Sublist.cons)))); (next => refine ⟨?_, ?_, ?_⟩; (next => show 0 ≤ j + 1; omega); (next => show j + 1 ≤ (xs.length : Int); omega); (next => show bestP (List.take (j + 1).toNat xs) = _; rw [e]; simp [stepP, prep, *]; done)); (next => show (xs.length - (j + 1)).toNat < (xs.length - j).toNat; omega))
    · rw [take_all hlt] at hm
      have hinv := best_inv xs
      rw [hm] at hinv
      repeat' (first | refine uN ?_ | (refine uB ?_; intro b) | (refine uP ?_ ?_ <;> (intro h; ((try simp only [zs, ne_eq, and_true, true_and, eq_self, reduceCtorEq] at h); try exact zx))) | fail)
      · (refine fn_ret2 rfl rfl rfl ?_ ⟨?_, rfl⟩; (next => (repeat (first | exact List.Sublist.refl _ | apply List.Sublist.cons))))
        have e4 : chooseS xs = (5, false) := by
          unfold chooseS
          rw [if_neg (by simp [*]), if_neg (by simp [*])]
          rcases hinv with ⟨rfl, h5, h6⟩ | ⟨h4, -, -⟩ | ⟨h4, -, -⟩
          · rw [if_neg]
            simp only [List.any_eq_true, not_exists, not_and, decide_eq_true_eq]
            intro x hx h4
            have := List.all_eq_true.1 h6 x hx
            simp [prep, h4] at this
          · simp_all
          · simp_all
        rw [e4]
      · (refine fn_ret2 rfl rfl rfl ?_ ⟨?_, rfl⟩; (next => (repeat (first | exact List.Sublist.refl _ | apply List.Sublist.cons))))
        have e4 : chooseS xs = (m.ph, false) := by
          unfold chooseS
          rw [if_neg (by simp [*]), if_neg (by simp [*])]
          rcases hinv with ⟨rfl, h5, h6⟩ | ⟨h4, h5, h6⟩ | ⟨h4, h5, h6⟩
          · simp_all
          · rw [h5, if_pos h6, h4]
          · rw [h5, if_neg (by rw [h6]; simp), h4]
        rw [e4]
end Go.HL
end

/-! WgA -/
section
namespace Go.HL
open Go Go.Proofs
set_option linter.unusedVariables false
set_option linter.unusedSimpArgs false

def blen (n : Nat) : Nat := if n = 0 then 0 else Nat.log2 n + 1
theorem blen_le {n k : Nat} : blen n ≤ k ↔ n < 2 ^ k := by
  unfold blen
  split
  · rename_i h
    subst h
    simp [Nat.two_pow_pos]
  · rename_i h
    rw [← Nat.log2_lt h]
    omega
theorem blen_div {n k : Nat} (h : 2 ^ k ≤ n) : blen n = blen (n / 2 ^ k) + k := by
  have key : ∀ j, blen n ≤ j ↔ blen (n / 2 ^ k) + k ≤ j := fun j => by
    constructor
    · intro h1
      have h2 := blen_le.1 h1
      have h3 : k < j := by
        rcases Nat.lt_or_ge k j with h3 | h3
        · exact h3
        · have := Nat.pow_le_pow_right (n := 2) (by decide) h3
          omega
      have h4 : blen (n / 2 ^ k) ≤ j - k := blen_le.2 (by
        rw [Nat.div_lt_iff_lt_mul (Nat.two_pow_pos k), ← Nat.pow_add, Nat.sub_add_cancel (by omega)]
        exact h2)
      omega
    · intro h1
      have h4 : blen (n / 2 ^ k) ≤ j - k := by omega
      have h5 := blen_le.1 h4
      rw [Nat.div_lt_iff_lt_mul (Nat.two_pow_pos k), ← Nat.pow_add, Nat.sub_add_cancel (by omega)] at h5
      exact blen_le.2 h5
  have h1 := (key (blen n)).1 (Nat.le_refl _)
  have h2 := (key (blen (n / 2 ^ k) + k)).2 (Nat.le_refl _)
  omega
theorem tab_ok {l : List UInt8} (h : ((List.range 256).all fun i => Nat.beq (l.getD i 0).toNat (blen i)) = true) {i : Nat} (hi : i < 256) : (l.getD i 0).toNat = blen i :=
  Nat.eq_of_beq_eq_true (List.all_eq_true.1 h i (List.mem_range.2 hi))
theorem ho_len8 {P : Program} (S : Tab P) {n : Nat} {ops : List Oper} {Q : Exit → Env → Heap → Prop} {rest : List Oper} {ρ : Env} {L : Heap} {ty : TypeId} {pos : String} {af : Array Edge} {d t : Nat} {l : List UInt8} {k : IntKind} {j : Int} {ti : TyI} {y : Operand} {c : Value}
    (hc : c = bs l) (hy : ev ρ y = some (.int k j)) (ht : lkN S.ty t = some ti) (hk : Nat.beq ti.kind 3 = true) (hn : Nat.blt d n = true) (hl : Nat.beq l.length 256 = true) (htab : ((List.range 256).all fun i => Nat.beq (l.getD i 0).toNat (blen i)) = true) (hj : 0 ≤ j ∧ j < 256)
    (h : ∀ m : Nat, m = blen j.toNat → m ≤ 8 → HO P n ops Q rest ((d, .int .u8 (m : Int)) :: ρ) L) : HO P n ops Q (⟨some d, .index t (.const c) y, ty, pos, af, none⟩ :: rest) ρ L := by
  have h1 := h _ rfl (blen_le.2 (by omega))
  rw [← tab_ok htab (i := j.toNat) (by omega)] at h1
  exact ho_go rfl hn (q_ixT S hc hy ht hk hl hj) h1
set_option maxHeartbeats 2000000 attribute [local irreducible] HW HO HQ HD HC QOp Has Upd Puts Gets seqQ blkQ loopQ fnQ actQ nextP unQ MapF
set_option maxRecDepth 100000 in
theorem len64_calls (n : Nat) (hn : n < 18446744073709551616) (L : Heap) : HC Tryz.prog 286 [.int .u64 n] L (fun v L' => v = iv (blen n) ∧ L' = L) := by
  refine Za (fun _ _ => Tryz.call286 _ _) Tryz.func286 rfl Tryz.ntmps286 (Nat.le_of_ble_eq_true rfl) ?_; simp only [args0, Nat.reduceAdd]
  repeat' (first | refine uN ?_ | (refine uP ?_ ?_ <;> (intro h; ((try simp only [zs, ne_eq, and_true, true_and, eq_self, reduceCtorEq] at h); try exact zx))) | fail)
  all_goals try simp only [Int.reduceToNat, Int.reducePow] at *
  all_goals (apply ho_len8 S; (case hc => exact rfl); (case hy => exact rfl); (case ht => exact rfl); (case hk => exact rfl); (case hn => exact rfl); (case hl => exact rfl); (case htab => decide +kernel); (case hj => omega); (case' h => intro m hm hm8))
  all_goals repeat' (first | refine uN ?_ | (refine uP ?_ ?_ <;> (intro h; ((try simp only [zs, ne_eq, and_true, true_and, eq_self, reduceCtorEq] at h); try exact zx))) | fail)
  all_goals (refine fn_ret1 rfl rfl ?_ ⟨?_, rfl⟩; (next => (repeat (first | exact List.Sublist.refl _ | apply List.Sublist.cons))))
  all_goals refine congrArg iv ?_
  all_goals (have e1 : ∀ x, 4294967296 ≤ x → blen x = blen (x / 4294967296) + 32 := fun x hx => blen_div (k := 32) hx)
  all_goals (have e2 : ∀ x, 65536 ≤ x → blen x = blen (x / 65536) + 16 := fun x hx => blen_div (k := 16) hx)
  all_goals (have e3 : ∀ x, 256 ≤ x → blen x = blen (x / 256) + 8 := fun x hx => blen_div (k := 8) hx)
  all_goals first
    | (have g0 := e1 (n) (by omega); have g1 := e2 (n / 4294967296) (by omega); have g2 := e3 (n / 4294967296 / 65536) (by omega); have g9 : ((n : Int) / 4294967296 / 65536 / 256).toNat = n / 4294967296 / 65536 / 256 := (by omega); rw [g9] at hm; omega)
    | (have g0 := e1 (n) (by omega); have g1 := e2 (n / 4294967296) (by omega); have g9 : ((n : Int) / 4294967296 / 65536).toNat = n / 4294967296 / 65536 := (by omega); rw [g9] at hm; omega)
    | (have g0 := e1 (n) (by omega); have g1 := e3 (n / 4294967296) (by omega); have g9 : ((n : Int) / 4294967296 / 256).toNat = n / 4294967296 / 256 := (by omega); rw [g9] at hm; omega)
    | (have g0 := e1 (n) (by omega); have g9 : ((n : Int) / 4294967296).toNat = n / 4294967296 := (by omega); rw [g9] at hm; omega)
    | (have g0 := e2 (n) (by omega); have g1 := e3 (n / 65536) (by omega); have g9 : ((n : Int) / 65536 / 256).toNat = n / 65536 / 256 := (by omega); rw [g9] at hm; omega)
    | (have g0 := e2 (n) (by omega); have g9 : ((n : Int) / 65536).toNat = n / 65536 := (by omega); rw [g9] at hm; omega)
    | (have g0 := e3 (n) (by omega); have g9 : ((n : Int) / 256).toNat = n / 256 := (by omega); rw [g9] at hm; omega)
    | (have g9 : ((n : Int)).toNat = n := (by omega); rw [g9] at hm; omega)
theorem len_calls (n : Nat) (hn : n < 18446744073709551616) (L : Heap) : HC Tryz.prog 253 [.int .u64 n] L (fun v L' => v = iv (blen n) ∧ L' = L) := by
  refine Za (fun _ _ => Tryz.call253 _ _) Tryz.func253 rfl Tryz.ntmps253 (Nat.le_of_ble_eq_true rfl) ?_; simp only [args0, Nat.reduceAdd]
  repeat' (first | refine uN ?_ | refine uC (len64_calls _ hn _) ?_ | (refine uP ?_ ?_ <;> (intro h; ((try simp only [zs, ne_eq, and_true, true_and, eq_self, reduceCtorEq] at h); try exact zx))) | fail)
  all_goals (refine fn_ret1 rfl rfl ?_ ⟨?_, rfl⟩; (next => (repeat (first | exact List.Sublist.refl _ | apply List.Sublist.cons))))
  all_goals rfl
def mx : List Int → Int
  | [] => 0
  | x :: r => r.foldl max x
theorem mx_snoc {l : List Int} {y : Int} (h : l ≠ []) : mx (l ++ [y]) = max (mx l) y := by
  cases l with
  | nil => exact absurd rfl h
  | cons x r => simp [mx]
theorem max_calls (a : Option Addr) (cap : Nat) (xs : List Int) (L : Heap) (hR : Rd ic 1 L a xs) (h1 : 1 ≤ xs.length) (hl : xs.length ≤ 1000000) :
    HC Tryz.prog 119 [.slice a xs.length cap] L (fun v L' => v = iv (mx xs) ∧ L' = L) := by
  refine Za (fun _ _ => Tryz.call119 _ _) Tryz.func119 rfl Tryz.ntmps119 (Nat.le_of_ble_eq_true rfl) ?_; simp only [args0, Nat.reduceAdd]
  obtain ⟨b, i, l, E, fr, rfl, hb, hg⟩ := hR.at1 (j := 0) (by omega) (by omega)
  repeat' (first | refine uN ?_ | (refine uP ?_ ?_ <;> (intro h; ((try simp only [zs, ne_eq, and_true, true_and, eq_self, reduceCtorEq] at h); try exact zx))) | fail)
  refine Zf (σ := Int × Int) (fun s => [(0, .slice (some ⟨b, i, none⟩) xs.length cap), (3, iv s.2), (4, iv s.1)]) (fun _ => L) (fun s => 1 ≤ s.1 ∧ s.1 ≤ xs.length ∧ mx (xs.take s.1.toNat) = s.2) (fun s => (xs.length - s.1).toNat) (1, xs[Int.toNat 0]) uS (List.Sublist.refl _) ⟨by simp, by simp; omega, ?_⟩ ?_
  · cases xs with
    | nil => simp at h1
    | cons x r => rfl
  clear hb hg
  rintro ⟨j, m⟩ ⟨h0, h2, hm⟩
  simp only at h0 h2 hm
  by_cases hlt : j < xs.length
  · obtain ⟨b', i', l', E', fr', e, hb', hg'⟩ := hR.at1 (j := j) (by omega) hlt
    cases e
    repeat' (first | refine uN ?_ | (refine uP ?_ ?_ <;> (intro h; ((try simp only [zs, ne_eq, and_true, true_and, eq_self, reduceCtorEq] at h); try exact zx))) | fail)
    refine Zg (j + 1, _) uS (List.Sublist.refl _) ⟨by show 1 ≤ j + 1; omega, by show j + 1 ≤ (xs.length : Int); omega, ?_⟩ (by show (xs.length - (j + 1)).toNat < (xs.length - j).toNat; omega)
    show mx (xs.take (j + 1).toNat) = _
    rw [take_succ (by omega) hlt, mx_snoc (by intro e; have h5 : (xs.take j.toNat).length = 0 := (by rw [e]; rfl); rw [List.length_take] at h5; omega), hm]
  · repeat' (first | refine uN ?_ | (refine uP ?_ ?_ <;> (intro h; ((try simp only [zs, ne_eq, and_true, true_and, eq_self, reduceCtorEq] at h); try exact zx))) | fail)
    (refine fn_ret1 rfl rfl ?_ ⟨?_, rfl⟩; (next => (repeat (first | exact List.Sublist.refl _ | apply List.Sublist.cons))))
    rw [take_all hlt] at hm
    rw [hm]
theorem bad_calls (x : Int) (L : Heap) : HC Tryz.prog 118 [iv x] L (fun v L' => v = .bool (decide (x < 0 ∨ 1000 < x)) ∧ L' = L) := by
  refine Za (fun _ _ => Tryz.call118 _ _) Tryz.func118 rfl Tryz.ntmps118 (Nat.le_of_ble_eq_true rfl) ?_; simp only [args0, Nat.reduceAdd]
  repeat' (first | refine uN ?_ | (refine uP ?_ ?_ <;> (intro h; ((try simp only [zs, ne_eq, and_true, true_and, eq_self, reduceCtorEq] at h); try exact zx))) | fail)
  all_goals (refine fn_ret1 rfl rfl ?_ ⟨?_, rfl⟩; (next => (repeat (first | exact List.Sublist.refl _ | apply List.Sublist.cons))))
  all_goals (refine congrArg Value.bool ?_; first | (refine Eq.symm (decide_eq_true ?_); omega) | (refine Eq.symm (decide_eq_false ?_); omega) | (refine decide_eq_decide.2 ?_; omega))
theorem findIdx_takeA {α : Type} {xs : List α} {f : α → Bool} {j : Int} (h0 : 0 ≤ j) (hlt : j < xs.length) (hn : (xs.take j.toNat).any f = false) (h : f (xs[j.toNat]'(by omega)) = true) : xs.any f = true ∧ (xs.findIdx f : Int) = j := by
  have hj : j.toNat < xs.length := by omega
  refine ⟨List.any_eq_true.2 ⟨_, List.getElem_mem hj, h⟩, ?_⟩
  have : xs.findIdx f = j.toNat := by
    rw [List.findIdx_eq hj]
    refine ⟨h, fun k hk => ?_⟩
    rw [List.any_eq_false] at hn
    have hk' : k < (xs.take j.toNat).length := by simp; omega
    have := hn _ (List.getElem_mem hk')
    rw [List.getElem_take] at this
    simpa using this
  omega
theorem indexI_calls (a : Option Addr) (cap : Nat) (xs : List Int) (F : Nat) (cs : List Value) (f : Int → Bool) (L : Heap) (hR : Rd ic 1 L a xs) (hl : xs.length ≤ 1000000)
    (hf : ∀ s, HC Tryz.prog F (iv s :: cs) L (fun v L' => v = .bool (f s) ∧ L' = L)) :
    HC Tryz.prog 175 [.slice a xs.length cap, .func (.func F) #[] ⟨cs⟩] L (fun v L' => v = iv (if xs.any f then (xs.findIdx f : Int) else -1) ∧ L' = L) := by
  refine Za (fun _ _ => Tryz.call175 _ _) Tryz.func175 rfl Tryz.ntmps175 (Nat.le_of_ble_eq_true rfl) ?_; simp only [args0, Nat.reduceAdd]
  repeat' (first | refine uN ?_ | (refine uP ?_ ?_ <;> (intro h; ((try simp only [zs, ne_eq, and_true, true_and, eq_self, reduceCtorEq] at h); try exact zx))) | fail)
  refine Zf (σ := Int) (fun j => [(0, .slice a xs.length cap), (1, .func (.func F) #[] ⟨cs⟩), (6, .slice a xs.length cap), (7, iv xs.length), (8, iv j)]) (fun _ => L) (fun j => 0 ≤ j ∧ j ≤ xs.length ∧ (xs.take j.toNat).any f = false) (fun j => (xs.length - j).toNat) 0 uS (List.Sublist.refl _) ⟨by omega, by omega, by simp⟩ ?_
  rintro j ⟨h0, h1, h2⟩
  by_cases hlt : j < xs.length
  · obtain ⟨b, i, l, E, fr, rfl, hb, hg⟩ := hR.at1 h0 hlt
    repeat' (first | refine uN ?_ | refine uC (hf _) ?_ | (refine uP ?_ ?_ <;> (intro h; ((try simp only [zs, ne_eq, and_true, true_and, eq_self, reduceCtorEq] at h); try exact zx))) | fail)
    · (refine fn_ret1 rfl rfl ?_ ⟨?_, rfl⟩; (next => (repeat (first | exact List.Sublist.refl _ | apply List.Sublist.cons))))
      obtain ⟨e1, e2⟩ := findIdx_takeA h0 hlt h2 (by assumption)
      rw [if_pos e1, e2]
    · exact Zg (j + 1) uS (List.Sublist.refl _) ⟨by omega, by omega, by rw [take_succ h0 hlt, List.any_append, h2]; simp [*]⟩ (by omega)
  · repeat' (first | refine uN ?_ | (refine uP ?_ ?_ <;> (intro h; ((try simp only [zs, ne_eq, and_true, true_and, eq_self, reduceCtorEq] at h); try exact zx))) | fail)
    (refine fn_ret1 rfl rfl ?_ ⟨?_, rfl⟩; (next => (repeat (first | exact List.Sublist.refl _ | apply List.Sublist.cons))))
    rw [take_all hlt] at h2
    rw [if_neg (by simp [h2])]
theorem containsI_calls (a : Option Addr) (cap : Nat) (xs : List Int) (F : Nat) (cs : List Value) (f : Int → Bool) (L : Heap) (hR : Rd ic 1 L a xs) (hl : xs.length ≤ 1000000)
    (hf : ∀ s, HC Tryz.prog F (iv s :: cs) L (fun v L' => v = .bool (f s) ∧ L' = L)) :
    HC Tryz.prog 117 [.slice a xs.length cap, .func (.func F) #[] ⟨cs⟩] L (fun v L' => v = .bool (xs.any f) ∧ L' = L) := by
  refine Za (fun _ _ => Tryz.call117 _ _) Tryz.func117 rfl Tryz.ntmps117 (Nat.le_of_ble_eq_true rfl) ?_; simp only [args0, Nat.reduceAdd]
  repeat' (first | refine uN ?_ | refine uC (indexI_calls _ _ _ _ _ f _ hR hl hf) ?_ | fail)
  (refine fn_ret1 rfl rfl ?_ ⟨?_, rfl⟩; (next => (repeat (first | exact List.Sublist.refl _ | apply List.Sublist.cons))))
  refine congrArg Value.bool ?_
  cases hx : xs.any f <;> simp
  done
def badW (x : Int) : Bool := decide (x < 0 ∨ 1000 < x)
/-- which error a list of weights has: by its variable's number -/
def checkW (ws : List Int) : Option Nat := if ws.length < 1 ∨ 7 < ws.length then some 3 else if ws.any badW then some 2 else if mx ws = 0 then some 4 else none
theorem check_calls (T : Nat) (E : Nat → Addr) (a : Option Addr) (cap : Nat) (xs : List Int) (L : Heap) (hG : Er T E [2, 3, 4] L) (hR : Rd ic 1 L a xs) (hl : xs.length ≤ 1000000) :
    HC Tryz.prog 62 [.slice a xs.length cap] L (fun v L' => v = eV T E (checkW xs) ∧ L' = L) := by
  refine Za (fun _ _ => Tryz.call62 _ _) Tryz.func62 rfl Tryz.ntmps62 (Nat.le_of_ble_eq_true rfl) ?_; simp only [args0, Nat.reduceAdd]
  repeat' (first | refine uN ?_ | refine g_q (qC (containsI_calls _ _ _ _ _ badW _ hR hl (fun s => bad_calls s _))) ?_ | refine g_q (qC (max_calls _ _ _ _ hR (by omega) hl)) ?_ | (refine uP ?_ ?_ <;> (intro h; ((try simp only [zs, ne_eq, and_true, true_and, eq_self, reduceCtorEq] at h); try exact zx))) | fail)
  all_goals (refine fn_ret1 rfl rfl ?_ ⟨?_, rfl⟩; (next => (repeat (first | exact List.Sublist.refl _ | apply List.Sublist.cons))))
  all_goals (unfold checkW)
  all_goals first
    | (rw [if_pos (by omega)]; rfl)
    | (rw [if_neg (by omega), if_pos (by assumption)]; rfl)
    | (rw [if_neg (by omega), if_neg (by simp [*]), if_pos (by assumption)]; rfl)
    | (rw [if_neg (by omega), if_neg (by simp [*]), if_neg (by assumption)]; rfl)
end Go.HL
end

/-! WgB -/
section
namespace Go.HL
open Go Go.Proofs
set_option linter.unusedVariables false
set_option linter.unusedSimpArgs false
set_option maxHeartbeats 2000000 attribute [local irreducible] HW HO HQ HD HC QOp Has Upd Puts Gets seqQ blkQ loopQ fnQ actQ nextP unQ MapF

def wsum : List Int → Nat → Int
  | [], _ => 0
  | x :: r, s => (if s % 2 = 1 then x else 0) + wsum r (s / 2)
theorem wsum_snoc (y : Int) : ∀ (l : List Int) (s : Nat), wsum (l ++ [y]) s = wsum l s + (if s / 2 ^ l.length % 2 = 1 then y else 0)
  | [], s => by simp [wsum]
  | x :: r, s => by
    simp only [List.cons_append, wsum, wsum_snoc y r (s / 2), List.length_cons, Nat.div_div_eq_div_mul, Nat.pow_succ, Nat.mul_comm 2]
    omega
theorem wsum_le : ∀ (l : List Int) (s : Nat), (∀ x ∈ l, 0 ≤ x ∧ x ≤ 1000) → 0 ≤ wsum l s ∧ wsum l s ≤ 1000 * l.length
  | [], s, _ => by simp [wsum]
  | x :: r, s, h => by
    have h1 := wsum_le r (s / 2) (fun y hy => h y (by simp [hy]))
    have h2 := h x (by simp)
    simp only [wsum, List.length_cons]
    split <;> omega
def sumW (ws : List Int) (set : Int) : Int × Option Nat :=
  match checkW ws with
  | some e => (0, some e)
  | none => if set < 0 ∨ ws.length < blen set.toNat then (0, some 2) else (wsum ws set.toNat, none)
theorem check_none {ws : List Int} (h : checkW ws = none) : 1 ≤ ws.length ∧ ws.length ≤ 7 ∧ (∀ x ∈ ws, 0 ≤ x ∧ x ≤ 1000) ∧ mx ws ≠ 0 := by
  unfold checkW at h
  split at h
  · cases h
  · split at h
    · cases h
    · split at h
      · cases h
      · rename_i h1 h2 h3
        refine ⟨by omega, by omega, fun x hx => ?_, h3⟩
        simp only [Bool.not_eq_true, List.any_eq_false, badW, decide_eq_true_eq] at h2
        have := h2 x hx
        omega
theorem bit_iff (n k : Nat) : (((((n : Int) / 2 ^ k).toNat &&& Int.toNat 1 : Nat) : Int) = 1) ↔ n / 2 ^ k % 2 = 1 := by
  have e : ((n : Int) / 2 ^ k).toNat = n / 2 ^ k := by
    have : ((n : Int) / 2 ^ k) = ((n / 2 ^ k : Nat) : Int) := by simp
    rw [this]; rfl
  rw [e, show Int.toNat 1 = 1 from rfl, Nat.and_one_is_mod]
  omega
theorem bit_ok (n k : Nat) (h : (n : Int) ≤ 9223372036854775807) : 0 ≤ (n : Int) / 2 ^ k ∧ (n : Int) / 2 ^ k ≤ hiE .i64 ∧ (0 : Int) ≤ 1 ∧ (1 : Int) ≤ hiE .i64 := by
  have : ((n : Int) / 2 ^ k) = ((n / 2 ^ k : Nat) : Int) := by simp
  have h2 : n / 2 ^ k ≤ n := Nat.div_le_self _ _
  rw [this]
  clear this
  generalize n / 2 ^ k = q at h2 ⊢
  simp only [hiE]
  omega
theorem sum_calls (T : Nat) (E : Nat → Addr) (a : Option Addr) (cap : Nat) (xs : List Int) (set : Int) (L : Heap) (hG : Er T E [2, 3, 4] L) (hR : Rd ic 1 L a xs) (hl : xs.length ≤ 1000000) (hs : set ≤ 9223372036854775807) :
    HC Tryz.prog 178 [.slice a xs.length cap, iv set] L (fun v L' => v = .tuple ⟨[iv (sumW xs set).1, eV T E (sumW xs set).2]⟩ ∧ L' = L) := by
  refine Za (fun _ _ => Tryz.call178 _ _) Tryz.func178 rfl Tryz.ntmps178 (Nat.le_of_ble_eq_true rfl) ?_; simp only [args0, Nat.reduceAdd]
  have hk := check_calls T E a cap xs L hG hR hl
  cases hc : checkW xs with
  | some e =>
    rw [hc] at hk
    repeat' (first | refine uN ?_ | refine g_k S ?_ | refine uC (hk) ?_ | (refine uP ?_ ?_ <;> (intro h; ((try simp only [zs, ne_eq, and_true, true_and, eq_self, reduceCtorEq] at h); try exact zx))) | fail)
    (refine fn_ret2 rfl rfl rfl ?_ ⟨?_, rfl⟩; (next => (repeat (first | exact List.Sublist.refl _ | apply List.Sublist.cons))))
    simp [sumW, hc]
  | none =>
    rw [hc] at hk
    obtain ⟨c1, c2, c3, c4⟩ := check_none hc
    by_cases h0 : 0 ≤ set
    · obtain ⟨n, rfl⟩ := Int.eq_ofNat_of_zero_le h0
      have hb := len_calls n (by omega) L
      repeat' (first | refine uN ?_ | refine g_k S ?_ | refine uC (hk) ?_ | refine uC (hb) ?_ | (refine uP ?_ ?_ <;> (intro h; ((try simp only [zs, ne_eq, and_true, true_and, eq_self, reduceCtorEq] at h); try exact zx))) | fail)
      · (refine fn_ret2 rfl rfl rfl ?_ ⟨?_, rfl⟩; (next => (repeat (first | exact List.Sublist.refl _ | apply List.Sublist.cons))))
        simp only [sumW, hc]
        rw [if_pos (by simp; omega)]
        rfl
      · refine Zf (σ := Int × Int) (fun s => [(1, iv n), (7, iv s.2), (26, .slice a xs.length cap), (27, iv xs.length), (28, iv s.1)]) (fun _ => L) (fun s => 0 ≤ s.1 ∧ s.1 ≤ xs.length ∧ wsum (xs.take s.1.toNat) n = s.2) (fun s => (xs.length - s.1).toNat) (0, 0) uS (List.Sublist.refl _) ⟨by simp, by simp, by simp [wsum]⟩ ?_
        rintro ⟨j, m⟩ ⟨j0, j1, hm⟩
        simp only at j0 j1 hm
        by_cases hlt : j < xs.length
        · obtain ⟨b, i, l, E', fr, rfl, hb', hg'⟩ := hR.at1 j0 hlt
          have hm2 := wsum_le (xs.take j.toNat) n (fun x hx => c3 x (List.mem_of_mem_take hx))
          have hx := c3 (xs[j.toNat]'(by omega)) (List.getElem_mem _)
          have hn := wsum_snoc (xs[j.toNat]'(by omega)) (xs.take j.toNat) n
          rw [← take_succ j0 hlt] at hn
          rw [hm] at hm2 hn
          rw [List.length_take] at hm2 hn
          rw [Nat.min_eq_left (by omega)] at hn
          have hb1 := bit_ok n j.toNat hs
          have hb2 := bit_iff n j.toNat
          repeat' (first | refine uN ?_ | refine g_k S ?_ | (refine uP ?_ ?_ <;> (intro h; ((try simp only [zs, ne_eq, and_true, true_and, eq_self, reduceCtorEq] at h); try exact zx))) | fail)
          all_goals (refine Zg (j + 1, _) uS (List.Sublist.refl _) ⟨by show 0 ≤ j + 1; omega, by show j + 1 ≤ (xs.length : Int); omega, ?_⟩ (by show (xs.length - (j + 1)).toNat < (xs.length - j).toNat; omega))
          all_goals (show wsum (xs.take (j + 1).toNat) n = _; rw [hn])
          · rw [if_pos (hb2.1 (by assumption))]
          · rw [if_neg (fun e => by have := hb2.2 e; contradiction)]; omega
        · repeat' (first | refine uN ?_ | refine g_k S ?_ | (refine uP ?_ ?_ <;> (intro h; ((try simp only [zs, ne_eq, and_true, true_and, eq_self, reduceCtorEq] at h); try exact zx))) | fail)
          (refine fn_ret2 rfl rfl rfl ?_ ⟨?_, rfl⟩; (next => (repeat (first | exact List.Sublist.refl _ | apply List.Sublist.cons))))
          rw [take_all hlt] at hm
          simp only [sumW, hc]
          rw [if_neg (by simp; omega), ← hm]
          rfl
    · repeat' (first | refine uN ?_ | refine g_k S ?_ | refine uC (hk) ?_ | (refine uP ?_ ?_ <;> (intro h; ((try simp only [zs, ne_eq, and_true, true_and, eq_self, reduceCtorEq] at h); try exact zx))) | fail)
      (refine fn_ret2 rfl rfl rfl ?_ ⟨?_, rfl⟩; (next => (repeat (first | exact List.Sublist.refl _ | apply List.Sublist.cons))))
      simp only [sumW, hc]
      rw [if_pos (by omega)]
      rfl
theorem one_shl {k : Nat} (h : k ≤ 30) : 0 ≤ (k : Int) ∧ (k : Int) ≤ 64 ∧ -9223372036854775808 ≤ (1 : Int) * 2 ^ (k : Int).toNat ∧ (1 : Int) * 2 ^ (k : Int).toNat ≤ 9223372036854775807 := by
  have h1 : (2 : Nat) ^ k ≤ 2 ^ 30 := Nat.pow_le_pow_right (by decide) h
  have e : (1 : Int) * 2 ^ (k : Int).toNat = ((2 ^ k : Nat) : Int) := by simp
  rw [e]
  have h2 := Nat.two_pow_pos k
  generalize (2 : Nat) ^ k = q at *
  omega
def enoughW (ws : List Int) (set : Int) : Bool × Option Nat :=
  match sumW ws set with
  | (_, some e) => (false, some e)
  | (n, none) => (decide ((sumW ws (2 ^ ws.length - 1)).1 < 2 * n), (sumW ws (2 ^ ws.length - 1)).2)
theorem sumW_none {ws : List Int} {set : Int} (h : (sumW ws set).2 = none) : checkW ws = none ∧ 0 ≤ set ∧ blen set.toNat ≤ ws.length ∧ (sumW ws set).1 = wsum ws set.toNat := by
  unfold sumW at *
  cases hc : checkW ws with
  | some e => rw [hc] at h; cases h
  | none =>
    rw [hc] at h
    simp only at *
    split at h
    · cases h
    · rename_i h1
      rw [if_neg h1]
      refine ⟨trivial, ?_, ?_, rfl⟩ <;> omega
theorem all_none {ws : List Int} (h : checkW ws = none) : sumW ws (2 ^ ws.length - 1) = (wsum ws (2 ^ ws.length - 1), none) := by
  have e : ((2 : Int) ^ ws.length - 1) = ((2 ^ ws.length - 1 : Nat) : Int) := by
    have := Nat.two_pow_pos ws.length
    rw [Int.ofNat_sub (by omega)]
    simp
  have h2 : blen (2 ^ ws.length - 1) ≤ ws.length := blen_le.2 (by have := Nat.two_pow_pos ws.length; omega)
  unfold sumW
  rw [h, e]
  simp only [Int.toNat_natCast]
  rw [if_neg (by omega)]
theorem enough_calls (T : Nat) (E : Nat → Addr) (a : Option Addr) (cap : Nat) (xs : List Int) (set : Int) (L : Heap) (hG : Er T E [2, 3, 4] L) (hR : Rd ic 1 L a xs) (hl : xs.length ≤ 1000000) (hs : set ≤ 9223372036854775807) :
    HC Tryz.prog 128 [.slice a xs.length cap, iv set] L (fun v L' => v = .tuple ⟨[.bool (enoughW xs set).1, eV T E (enoughW xs set).2]⟩ ∧ L' = L) := by
  refine Za (fun _ _ => Tryz.call128 _ _) Tryz.func128 rfl Tryz.ntmps128 (Nat.le_of_ble_eq_true rfl) ?_; simp only [args0, Nat.reduceAdd]
  have hk := sum_calls T E a cap xs set L hG hR hl hs
  cases hc : (sumW xs set).2 with
  | some e =>
    rw [hc] at hk
    repeat' (first | refine uN ?_ | refine uC (hk) ?_ | (refine uP ?_ ?_ <;> (intro h; ((try simp only [zs, ne_eq, and_true, true_and, eq_self, reduceCtorEq] at h); try exact zx))) | fail)
    (refine fn_ret2 rfl rfl rfl ?_ ⟨?_, rfl⟩; (next => (repeat (first | exact List.Sublist.refl _ | apply List.Sublist.cons))))
    have : enoughW xs set = (false, some e) := by
      unfold enoughW
      split
      · rename_i h; rw [h] at hc; cases hc; rfl
      · rename_i h; rw [h] at hc; cases hc
    rw [this]
  | none =>
    rw [hc] at hk
    obtain ⟨h1, h2, h3, h4⟩ := sumW_none hc
    obtain ⟨c1, c2, c3, c4⟩ := check_none h1
    have hsh := one_shl (k := xs.length) (by omega)
    have e2 : (1 : Int) * 2 ^ (xs.length : Int).toNat = 2 ^ xs.length := by simp
    have hp : 1 ≤ (1 : Int) * 2 ^ (xs.length : Int).toNat := by
      rw [e2]
      have e3 : (2 : Int) ^ xs.length = ((2 ^ xs.length : Nat) : Int) := by simp
      rw [e3]
      have := Nat.two_pow_pos xs.length
      generalize (2 : Nat) ^ xs.length = q at *
      omega
    have hk2 := sum_calls T E a cap xs (1 * 2 ^ (xs.length : Int).toNat - 1) L hG hR hl (by omega)
    have hb := wsum_le xs set.toNat c3
    rw [← h4] at hb
    repeat' (first | refine uN ?_ | refine uC (hk) ?_ | refine uC (hk2) ?_ | (refine uP ?_ ?_ <;> (intro h; ((try simp only [zs, ne_eq, and_true, true_and, eq_self, reduceCtorEq] at h); try exact zx))) | fail)
    (refine fn_ret2 rfl rfl rfl ?_ ⟨?_, rfl⟩; (next => (repeat (first | exact List.Sublist.refl _ | apply List.Sublist.cons))))
    rw [e2]
    have : enoughW xs set = (decide ((sumW xs (2 ^ xs.length - 1)).1 < 2 * (sumW xs set).1), (sumW xs (2 ^ xs.length - 1)).2) := by
      unfold enoughW
      split
      · rename_i h; rw [h] at hc; cases hc
      · rename_i h; rw [h]
    rw [this]
end Go.HL
end

/-! LdB -/
section
namespace Go.HL
open Go Go.Proofs
set_option linter.unusedVariables false
set_option linter.unusedSimpArgs false
theorem Rd.inn {α : Type} {enc : α → List Value} {sz : Nat} {L : Heap} {c : List Blk} {a : Option Addr} {xs : List α} (e : Blk) (h : Rd enc sz (c :: L) a xs) : Rd enc sz ((e :: c) :: L) a xs := by
  rcases h with h | ⟨b, i, l, E, fr, h1, h2, h3⟩
  · exact .inl h
  · exact .inr ⟨b, i, l, E, fr, h1, has_in h2, h3⟩
theorem bit_iff0 (n k : Nat) : (((((n : Int) / 2 ^ k).toNat &&& Int.toNat 1 : Nat) : Int) = 0) ↔ n / 2 ^ k % 2 = 0 := by
  have e : ((n : Int) / 2 ^ k).toNat = n / 2 ^ k := by
    have : ((n : Int) / 2 ^ k) = ((n / 2 ^ k : Nat) : Int) := by simp
    rw [this]; rfl
  rw [e, show Int.toNat 1 = 1 from rfl, Nat.and_one_is_mod]
  omega
def fitsM (m : Ld) (f : Fr) : Prop := f.kd = m.wait ∧ f.dl = m.deal ∧ f.att = m.att ∧ f.to = m.id ∧ 0 ≤ f.fr ∧ f.fr < m.w.length ∧ m.heard / 2 ^ f.fr.toNat % 2 = 0
instance (m : Ld) (f : Fr) : Decidable (fitsM m f) := by unfold fitsM; infer_instance
def stOf (m : Ld) (i : Nat) : List St := if m.heard / 2 ^ i % 2 = 1 then [m.told.getD i zeroS] else []
def statesM (m : Ld) : List St := (List.range m.w.length).flatMap (stOf m)
def m1M (m : Ld) (f : Fr) : Ld := if f.kd = 2 then m else { m with seen := max m.seen f.s.pr }
def m2M (m : Ld) (f : Fr) : Ld := { m1M m f with heard := m.heard ||| 2 ^ f.fr.toNat, told := m.told.set f.fr.toNat f.s }
def decdM (m : Ld) (p : Int) : Ld × List Fr := (doneM m, allM (doneM m) 7 p)
def preM (m : Ld) (p : Int) : Ld × List Fr := (prepM m p, allM (prepM m p) 5 p)
/-- behind an answer that counts -/
def countM (m : Ld) : Ld × List Fr :=
  if m.wait = 2 ∧ m.heard = 2 ^ m.w.length - 1 then preM m 4 else
  if m.wait = 2 ∨ (enoughW m.w m.heard).1 = false then (m, []) else
  if m.wait = 6 then decdM m (afterS m.phase) else
  if (chooseS (statesM m)).2 then decdM m (chooseS (statesM m)).1 else preM m (chooseS (statesM m)).1
def hearM (m : Ld) (f : Fr) : Ld × List Fr :=
  if m.wait = 0 ∨ ¬ fitsM m f then (m, []) else
  if f.yes = false then noM (m1M m f) else countM (m2M m f)
theorem range_flatS (f : Nat → List St) (i : Nat) : (List.range (i + 1)).flatMap f = (List.range i).flatMap f ++ f i := by
  rw [List.range_succ, List.flatMap_append]; simp
theorem flat_len_leS (f : Nat → List St) (hf : ∀ i, (f i).length ≤ 1) : ∀ i, ((List.range i).flatMap f).length ≤ i
  | 0 => by simp
  | i + 1 => by rw [range_flatS, List.length_append]; have := flat_len_leS f hf i; have := hf i; omega
theorem stOf_le (m : Ld) (i : Nat) : (stOf m i).length ≤ 1 := by unfold stOf; split <;> simp
theorem heard_lt {a : Nat} {k n : Nat} (h : a < 2 ^ n) (hk : k < n) : a ||| 2 ^ k < 2 ^ n := Nat.or_lt_two_pow h (Nat.pow_lt_pow_right (by decide) hk)
set_option maxHeartbeats 2000000 attribute [local irreducible] HW HO HQ HD HC QOp Has Upd Puts Gets seqQ blkQ loopQ fnQ actQ nextP unQ MapF
attribute [local irreducible] ldL
theorem states_calls (lp : Nat) (wv : Value) (wc : List Blk) (m : Ld) (L : Heap) (hm : LdOk wv wc m) (hh : m.heard < 128) : HC Tryz.prog 133 [pt lp 0] (ldC lp wv wc m :: L)
    (fun v L' => ∃ c, Vec 43 3 sc v (statesM m) c ∧ L' = c :: ldC lp wv wc m :: L) := by
  obtain ⟨a, cap, rfl, hcap, hR⟩ := hm.vec.rd ic_len
  have hlen := hm.len
  have htl := hm.told
  generalize hwv : Value.slice a m.w.length cap = wv at *
  have g3 : (ldL wv m)[0 + 3]? = some (.slice a m.w.length cap) := by rw [hwv]; exact ld_pre rfl
  have g6 : (ldL wv m)[0 + 6]? = some (iv m.heard) := ld_pre rfl
  refine Za (fun _ _ => Tryz.call133 _ _) Tryz.func133 rfl Tryz.ntmps133 (Nat.le_of_ble_eq_true rfl) ?_; simp only [args0, Nat.reduceAdd]
  repeat' (first | refine uN ?_ | (refine uB ?_; intro b) | (refine uP ?_ ?_ <;> (intro h; ((try simp only [zs, ne_eq, and_true, true_and, eq_self, reduceCtorEq] at h); try exact zx))) | fail)
  refine hw_nilc ?_
  refine Zf (σ := Nat × Value × List Blk) (fun q => [(0, pt lp 0), (3, q.2.1), (9, iv m.w.length), (10, iv q.1)]) (fun q => q.2.2 :: ldC lp wv wc m :: L) (fun q => q.1 ≤ m.w.length ∧ Vec 43 3 sc q.2.1 ((List.range q.1).flatMap (stOf m)) q.2.2) (fun q => m.w.length - q.1) (0, nilS, []) uS (List.Sublist.refl _) ⟨by simp, vec_nil⟩ ?_
  rintro ⟨i, v, c⟩ ⟨hi, hv⟩
  simp only at hi hv ⊢
  have hle := flat_len_leS (stOf m) (stOf_le m) i
  by_cases hlt : i < m.w.length
  · have hb1 := bit_ok m.heard (i : Int).toNat (by omega)
    have hb2 := bit_iff m.heard (i : Int).toNat
    have ht : m.told[i]? = some (m.told.getD i zeroS) := by rw [List.getD, List.getElem?_eq_getElem (by omega)]; rfl
    have gt := ld_told (wv := wv) ht
    by_cases hbit : m.heard / 2 ^ i % 2 = 1
    · have e : stOf m i = [m.told.getD i zeroS] := if_pos hbit
      have hb3 := hb2.2 hbit
      repeat' (first | refine uN ?_ | refine g_d S ?_ | (refine uB ?_; intro b) | (refine uP ?_ ?_ <;> (intro h; ((try simp only [zs, ne_eq, and_true, true_and, eq_self, reduceCtorEq] at h); try exact zx))) | refine da 101 ?_ | fail)
      refine fo 1 ?_
      refine wp1 S (m.told.getD i zeroS) hv sc_len sc_one ?_
      intro v' c' hv'
      repeat' (first | refine uN ?_ | refine g_d S ?_ | (refine uB ?_; intro b) | (refine uP ?_ ?_ <;> (intro h; ((try simp only [zs, ne_eq, and_true, true_and, eq_self, reduceCtorEq] at h); try exact zx))) | refine da 101 ?_ | fail)
      refine Zg (i + 1, v', c') uS (.cons_cons _ (.cons _ (.refl _))) ⟨by simp only; omega, ?_⟩ (by simp only; omega)
      simp only
      rw [range_flatS, e]
      exact hv'
    · have e : stOf m i = [] := if_neg hbit
      have hb3 : ¬ _ := fun h => hbit (hb2.1 h)
      repeat' (first | refine uN ?_ | refine g_d S ?_ | (refine uB ?_; intro b) | (refine uP ?_ ?_ <;> (intro h; ((try simp only [zs, ne_eq, and_true, true_and, eq_self, reduceCtorEq] at h); try exact zx))) | refine da 101 ?_ | fail)
      refine Zg (i + 1, v, c) uS (List.Sublist.refl _) ⟨by simp only; omega, ?_⟩ (by simp only; omega)
      simp only
      rw [range_flatS, e, List.append_nil]
      exact hv
  · repeat' (first | refine uN ?_ | refine g_d S ?_ | (refine uB ?_; intro b) | (refine uP ?_ ?_ <;> (intro h; ((try simp only [zs, ne_eq, and_true, true_and, eq_self, reduceCtorEq] at h); try exact zx))) | refine da 101 ?_ | fail)
    have hi2 : i = m.w.length := by omega
    subst hi2
    exact sp1 (LS.refl _) ⟨c, hv, rfl⟩
theorem fits_calls (lp : Nat) (wv : Value) (wc : List Blk) (m : Ld) (f : Fr) (L : Heap) (hm : LdOk wv wc m) (hh : m.heard < 128) : HC Tryz.prog 126 [pt lp 0, .agg ⟨fc f⟩] (ldC lp wv wc m :: L)
    (fun v L' => v = .bool (decide (fitsM m f)) ∧ L' = ldC lp wv wc m :: L) := by
  obtain ⟨a, cap, rfl, hcap, hR⟩ := hm.vec.rd ic_len
  have hlen := hm.len
  generalize hwv : Value.slice a m.w.length cap = wv at *
  have g0 : (ldL wv m)[0 + 0]? = some (iv m.id) := ld_pre rfl
  have g1 : (ldL wv m)[0 + 1]? = some (iv m.deal) := ld_pre rfl
  have g2 : (ldL wv m)[0 + 2]? = some (iv m.att) := ld_pre rfl
  have g3 : (ldL wv m)[0 + 3]? = some (.slice a m.w.length cap) := by rw [hwv]; exact ld_pre rfl
  have g5 : (ldL wv m)[0 + 5]? = some (iv m.wait) := ld_pre rfl
  have g6 : (ldL wv m)[0 + 6]? = some (iv m.heard) := ld_pre rfl
  have hb1 := bit_ok m.heard f.fr.toNat (by omega)
  have hb2 := bit_iff0 m.heard f.fr.toNat
  refine Za (fun _ _ => Tryz.call126 _ _) Tryz.func126 rfl Tryz.ntmps126 (Nat.le_of_ble_eq_true rfl) ?_; simp only [args0, Nat.reduceAdd]
  repeat' (first | refine uN ?_ | refine g_k S ?_ | (refine uB ?_; intro b) | (refine uP ?_ ?_ <;> (intro h; ((try simp only [zs, ne_eq, and_true, true_and, eq_self, reduceCtorEq] at h); try exact zx))) | fail)
  all_goals refine sp1 (LS.skip _ (LS.refl _)) ⟨congrArg Value.bool ?_, rfl⟩
  all_goals first
    | (refine (decide_eq_false (fun h => ?_)).symm; obtain ⟨h1, h2, h3, h4, h5, h6, h7⟩ := h; omega)
    | (refine decide_eq_decide.2 ⟨fun h => ⟨?_, ?_, ?_, ?_, ?_, ?_, hb2.1 h⟩, fun h => hb2.2 h.2.2.2.2.2.2⟩ <;> assumption)
theorem hear_wait {m : Ld} {f : Fr} (h : m.wait = 0 ∨ ¬ fitsM m f) : hearM m f = (m, []) := if_pos h
theorem LdOk.m1 {wv : Value} {wc : List Blk} {m : Ld} (h : LdOk wv wc m) (f : Fr) : LdOk wv wc (m1M m f) := by
  unfold m1M; split
  · exact h
  · exact h.of rfl rfl
theorem LdOk.m2 {wv : Value} {wc : List Blk} {m : Ld} (h : LdOk wv wc m) (f : Fr) : LdOk wv wc (m2M m f) := by
  refine h.of ?_ ?_
  · unfold m2M m1M; split <;> rfl
  · simp [m2M]
theorem fitsM_heard {m : Ld} {f : Fr} (h : fitsM m f) : 0 ≤ f.fr ∧ f.fr < m.w.length ∧ f.kd = m.wait := ⟨h.2.2.2.2.1, h.2.2.2.2.2.1, h.1⟩
theorem or_int (a k : Nat) : (((a : Int).toNat ||| ((1 : Int) * 2 ^ (k : Int).toNat).toNat : Nat) : Int) = ((a ||| 2 ^ k : Nat) : Int) := by
  have : ((1 : Int) * 2 ^ (k : Int).toNat) = ((2 ^ k : Nat) : Int) := by simp
  rw [this]; rfl
theorem or_ok {a k : Nat} (ha : a < 128) (hk : k < 7) : 0 ≤ (a : Int) ∧ (a : Int) ≤ hiE .i64 ∧ 0 ≤ (1 : Int) * 2 ^ (k : Int).toNat ∧ (1 : Int) * 2 ^ (k : Int).toNat ≤ hiE .i64 := by
  have e : ((1 : Int) * 2 ^ (k : Int).toNat) = ((2 ^ k : Nat) : Int) := by simp
  have : 2 ^ k < 2 ^ 7 := Nat.pow_lt_pow_right (by decide) hk
  rw [e]
  simp only [hiE]
  generalize 2 ^ k = q at *
  omega
theorem full_int (n : Nat) : ((1 : Int) * 2 ^ (n : Int).toNat - 1) = ((2 ^ n - 1 : Nat) : Int) := by
  have e : ((1 : Int) * 2 ^ (n : Int).toNat) = ((2 ^ n : Nat) : Int) := by simp
  have := Nat.two_pow_pos n
  rw [e]; generalize 2 ^ n = q at *; omega
theorem shl_le {n : Nat} (h : n ≤ 7) : 1 ≤ (1 : Int) * 2 ^ (n : Int).toNat ∧ (1 : Int) * 2 ^ (n : Int).toNat ≤ 128 := by
  have e : ((1 : Int) * 2 ^ (n : Int).toNat) = ((2 ^ n : Nat) : Int) := by simp
  have := Nat.two_pow_pos n
  have : 2 ^ n ≤ 2 ^ 7 := Nat.pow_le_pow_right (by decide) h
  rw [e]; generalize 2 ^ n = q at *; omega
end Go.HL
end

/-! LdC -/
section
namespace Go.HL
open Go Go.Proofs
set_option linter.unusedVariables false
set_option linter.unusedSimpArgs false
set_option maxHeartbeats 2000000 attribute [local irreducible] HW HO HQ HD HC QOp Has Upd Puts Gets seqQ blkQ loopQ fnQ actQ nextP unQ MapF
attribute [local irreducible] ldL
theorem countV_calls (T : Nat) (E : Nat → Addr) (lp : Nat) (wv : Value) (wc : List Blk) (m : Ld) (f : Fr) (L : Heap) (hG : Er T E [2, 3, 4] L) (hm : LdOk wv wc m) (hh : m.heard < 2 ^ m.w.length) (hw : m.wait ≠ 0) (hfit : fitsM m f) (hy : f.yes = true) (hkd : f.kd = 2) :
    HC Tryz.prog 74 [pt lp 0, .agg ⟨fc f⟩] (ldC lp wv wc m :: L) (fun v L' => ∃ c, FrVec v (countM (m2M m f)).2 c ∧ L' = c :: ldC lp wv wc (countM (m2M m f)).1 :: L) := by
  have hm2 := hm.m2 f
  have hlen := hm.len
  have htl := hm.told
  have hh7 : m.heard < 128 := Nat.lt_of_lt_of_le hh (Nat.pow_le_pow_right (by decide) hlen)
  have kf : ∀ L, _ := fun L => fits_calls lp wv wc m f L hm hh7
  obtain ⟨a, cap, rfl, hcap, hR⟩ := hm.vec.rd ic_len
  generalize hwv : Value.slice a m.w.length cap = wv at *
  obtain ⟨hfr, hfr2, hk0⟩ := fitsM_heard hfit
  rw [decide_eq_true hfit] at kf
  clear hfit
  obtain ⟨fr, to, dl0, kd, att, yes, s⟩ := f
  simp only at hy hfr hfr2 hkd hk0
  subst hy hkd
  obtain ⟨k, rfl⟩ := Int.eq_ofNat_of_zero_le hfr
  have hk7 : k < m.w.length := by omega
  generalize hM : m2M m ⟨k, to, dl0, 2, att, true, s⟩ = M at *
  have eM : M = { m with heard := m.heard ||| 2 ^ k, told := m.told.set k s } := by rw [← hM]; rfl
  have e1 : M.w = m.w := by rw [eM]
  have e2 : M.wait = 2 := by rw [eM]; exact hk0.symm
  have e3 : M.heard < 128 := by rw [eM]; exact heard_lt (n := 7) hh7 (by omega)
  have g3 : (ldL wv M)[0 + 3]? = some (.slice a m.w.length cap) := by rw [hwv]; exact ld_pre rfl
  have g5 : (ldL wv m)[0 + 5]? = some (iv m.wait) := ld_pre rfl
  have g5' : (ldL wv M)[0 + 5]? = some (iv 2) := by rw [← e2]; exact ld_pre rfl
  have g6 : (ldL wv m)[0 + 6]? = some (iv m.heard) := ld_pre rfl
  have g6' : (ldL wv M)[0 + 6]? = some (iv M.heard) := ld_pre rfl
  have p6 : Puts (ldL wv m) (0 + 6) [iv (((m.heard : Int).toNat ||| ((1 : Int) * 2 ^ (k : Int).toNat).toNat : Nat) : Int)] (ldL wv { m with heard := m.heard ||| 2 ^ k }) := by
    rw [or_int]; exact ld_pput rfl (by decide) rfl rfl rfl
  have pT : Puts (ldL wv { m with heard := m.heard ||| 2 ^ k }) (0 + 7 + (k : Int).toNat * 3) (sc s) (ldL wv M) := by
    rw [eM]; exact ld_putT (m := { m with heard := m.heard ||| 2 ^ k }) s (by show k < m.told.length; omega)
  have hsh := one_shl (k := k) (by omega)
  have hor := or_ok hh7 (show k < 7 by omega)
  have hsh2 := one_shl (k := m.w.length) (by omega)
  have hsh3 := shl_le hlen
  have hfull := full_int m.w.length
  have ke : ∀ b o, HC Tryz.prog 128 [.slice a m.w.length cap, iv M.heard] ([(b, o)] :: ldC lp wv wc M :: L) (fun v L' => v = .tuple ⟨[.bool (enoughW m.w M.heard).1, eV T E (enoughW m.w M.heard).2]⟩ ∧ L' = [(b, o)] :: ldC lp wv wc M :: L) := fun b o =>
    enough_calls T E a cap m.w M.heard _ ((hG.cons _).cons _) (((hR L).inn _).cons _) (by omega) (by omega)
  have kp := prepare_calls lp wv wc M 4
  have hc1 : M.heard = 2 ^ M.w.length - 1 → countM M = preM M 4 := fun h => if_pos ⟨e2, h⟩
  have hc2 : ¬ M.heard = 2 ^ M.w.length - 1 → countM M = (M, []) := fun h => by unfold countM; rw [if_neg (fun h2 => h h2.2), if_pos (.inl e2)]
  clear eM hM
  refine Za (fun _ _ => Tryz.call74 _ _) Tryz.func74 rfl Tryz.ntmps74 (Nat.le_of_ble_eq_true rfl) ?_; simp only [args0, Nat.reduceAdd]
  repeat' (first | refine uN ?_ | refine g_k S ?_ | refine g_w S ?_ | refine g_q (qC (hq1 kf 1)) ?_ | refine k_q (qC (hq1 kf 1)) ?_ | refine uC (ke _ _) ?_ | refine uD0 (fun _ => hq1 kf 1) ?_ | refine uD1 (fun _ => hq1 kf 1) ?_ | refine uD2 (fun _ => hq1 kf 1) ?_ | refine uD3 (fun _ => hq1 kf 1) ?_ | refine uD0 (fun _ => ke _ _) ?_ | refine uD1 (fun _ => ke _ _) ?_ | refine uD2 (fun _ => ke _ _) ?_ | refine uD3 (fun _ => ke _ _) ?_ | (refine uB ?_; intro b) | (refine uP ?_ ?_ <;> (intro h; ((try simp only [zs, ne_eq, and_true, true_and, eq_self, reduceCtorEq] at h); try exact zx))) | refine da 101 ?_ | fail)
  · rw [hc1 (by rw [e1]; omega)]
    refine fo 1 ?_
    refine gc (kp _ hm2) ?_
    rintro v L' ⟨c, hv, rfl⟩
    repeat' (first | refine uN ?_ | refine g_k S ?_ | refine g_w S ?_ | (refine uB ?_; intro b) | (refine uP ?_ ?_ <;> (intro h; ((try simp only [zs, ne_eq, and_true, true_and, eq_self, reduceCtorEq] at h); try exact zx))) | refine da 101 ?_ | fail)
    exact sp1 uZ ⟨c, hv, rfl⟩
  · rw [hc2 (by rw [e1]; omega)]
    exact sp1 (L' := [] :: ldC lp wv wc M :: L) (LS.skip _ (LS.refl _)) ⟨[], vec_nil, rfl⟩
theorem countN_calls (T : Nat) (E : Nat → Addr) (lp : Nat) (wv : Value) (wc : List Blk) (m : Ld) (f : Fr) (L : Heap) (hG : Er T E [2, 3, 4] L) (hm : LdOk wv wc m) (hh : m.heard < 2 ^ m.w.length) (hw : m.wait ≠ 0) (hfit : fitsM m f) (hy : f.yes = true) (hkd : f.kd ≠ 2) :
    HC Tryz.prog 74 [pt lp 0, .agg ⟨fc f⟩] (ldC lp wv wc m :: L) (fun v L' => ∃ c, FrVec v (countM (m2M m f)).2 c ∧ L' = c :: ldC lp wv wc (countM (m2M m f)).1 :: L) := by
  have hm2 := hm.m2 f
  have hlen := hm.len
  have htl := hm.told
  have hh7 : m.heard < 128 := Nat.lt_of_lt_of_le hh (Nat.pow_le_pow_right (by decide) hlen)
  have kf : ∀ L, _ := fun L => fits_calls lp wv wc m f L hm hh7
  obtain ⟨a, cap, rfl, hcap, hR⟩ := hm.vec.rd ic_len
  generalize hwv : Value.slice a m.w.length cap = wv at *
  obtain ⟨hfr, hfr2, hk0⟩ := fitsM_heard hfit
  rw [decide_eq_true hfit] at kf
  clear hfit
  obtain ⟨fr, to, dl0, kd, att, yes, s⟩ := f
  simp only at hy hfr hfr2 hkd hk0
  subst hy
  obtain ⟨k, rfl⟩ := Int.eq_ofNat_of_zero_le hfr
  have hk7 : k < m.w.length := by omega
  generalize hM : m2M m ⟨k, to, dl0, kd, att, true, s⟩ = M at *
  have eM : M = { m with seen := max m.seen s.pr, heard := m.heard ||| 2 ^ k, told := m.told.set k s } := by rw [← hM]; simp only [m2M, m1M, if_neg hkd]; rfl
  have e1 : M.w = m.w := by rw [eM]
  have e2 : M.wait = kd := by rw [eM]; exact hk0.symm
  have e3 : M.heard < 128 := by rw [eM]; exact heard_lt (n := 7) hh7 (by omega)
  have g3 : (ldL wv M)[0 + 3]? = some (.slice a m.w.length cap) := by rw [hwv]; exact ld_pre rfl
  have g5 : (ldL wv m)[0 + 5]? = some (iv m.wait) := ld_pre rfl
  have g5' : (ldL wv M)[0 + 5]? = some (iv kd) := by rw [← e2]; exact ld_pre rfl
  have g6 : (ldL wv { m with seen := max m.seen s.pr })[0 + 6]? = some (iv m.heard) := ld_pre rfl
  have g6' : (ldL wv M)[0 + 6]? = some (iv M.heard) := ld_pre rfl
  have g8' : (ldL wv M)[0 + 28]? = some (iv M.phase) := ld_phase hm2.told
  have g9 : (ldL wv m)[0 + 29]? = some (iv m.seen) := ld_seen htl
  have p9 : Puts (ldL wv m) (0 + 29) [iv (max m.seen s.pr)] (ldL wv { m with seen := max m.seen s.pr }) := ld_put29 htl _
  have p6 : Puts (ldL wv { m with seen := max m.seen s.pr }) (0 + 6) [iv (((m.heard : Int).toNat ||| ((1 : Int) * 2 ^ (k : Int).toNat).toNat : Nat) : Int)] (ldL wv { m with seen := max m.seen s.pr, heard := m.heard ||| 2 ^ k }) := by
    rw [or_int]; exact ld_pput rfl (by decide) rfl rfl rfl
  have pT : Puts (ldL wv { m with seen := max m.seen s.pr, heard := m.heard ||| 2 ^ k }) (0 + 7 + (k : Int).toNat * 3) (sc s) (ldL wv M) := by
    rw [eM]; exact ld_putT (m := { m with seen := max m.seen s.pr, heard := m.heard ||| 2 ^ k }) s (by show k < m.told.length; omega)
  have hsh := one_shl (k := k) (by omega)
  have hor := or_ok hh7 (show k < 7 by omega)
  have ke : ∀ b o, HC Tryz.prog 128 [.slice a m.w.length cap, iv M.heard] ([(b, o)] :: ldC lp wv wc M :: L) (fun v L' => v = .tuple ⟨[.bool (enoughW m.w M.heard).1, eV T E (enoughW m.w M.heard).2]⟩ ∧ L' = [(b, o)] :: ldC lp wv wc M :: L) := fun b o =>
    enough_calls T E a cap m.w M.heard _ ((hG.cons _).cons _) (((hR L).inn _).cons _) (by omega) (by omega)
  have kd1 := decide_calls lp wv wc M (afterS M.phase)
  have kd2 := decide_calls lp wv wc M (chooseS (statesM M)).1
  have kp := prepare_calls lp wv wc M (chooseS (statesM M)).1
  have ks := fun L => states_calls lp wv wc M L hm2 e3
  have hst : (statesM M).length ≤ 7 := by
    have := flat_len_leS (stOf M) (stOf_le M) M.w.length
    have e9 : M.w.length = m.w.length := by rw [e1]
    show ((List.range M.w.length).flatMap (stOf M)).length ≤ 7
    omega
  have hc0 : ¬ (M.wait = 2 ∧ M.heard = 2 ^ M.w.length - 1) := by rw [e2]; exact fun h => hkd h.1
  have hc1 : (enoughW m.w M.heard).1 = false → countM M = (M, []) := fun h => by unfold countM; rw [if_neg hc0, e1, if_pos (.inr h)]
  have hc2 : (enoughW m.w M.heard).1 = true → kd = 6 → countM M = decdM M (afterS M.phase) := fun h h6 => by unfold countM; rw [if_neg hc0, e1, if_neg (by rw [h, e2]; simp [hkd]), e2, if_pos h6]
  have hc3 : (enoughW m.w M.heard).1 = true → kd ≠ 6 → countM M = if (chooseS (statesM M)).2 then decdM M (chooseS (statesM M)).1 else preM M (chooseS (statesM M)).1 := fun h h6 => by unfold countM; rw [if_neg hc0, e1, if_neg (by rw [h, e2]; simp [hkd]), e2, if_neg h6]
  generalize (enoughW m.w M.heard).1 = en at *
  clear eM hM hc0
  refine Za (fun _ _ => Tryz.call74 _ _) Tryz.func74 rfl Tryz.ntmps74 (Nat.le_of_ble_eq_true rfl) ?_; simp only [args0, Nat.reduceAdd]
  repeat' (first | refine uN ?_ | refine g_k S ?_ | refine g_w S ?_ | refine g_q (qC (hq1 kf 1)) ?_ | refine k_q (qC (hq1 kf 1)) ?_ | refine uC (ke _ _) ?_ | refine uC (after_calls _ _) ?_ | refine uD0 (fun _ => hq1 kf 1) ?_ | refine uD1 (fun _ => hq1 kf 1) ?_ | refine uD2 (fun _ => hq1 kf 1) ?_ | refine uD3 (fun _ => hq1 kf 1) ?_ | refine uD0 (fun _ => ke _ _) ?_ | refine uD1 (fun _ => ke _ _) ?_ | refine uD2 (fun _ => ke _ _) ?_ | refine uD3 (fun _ => ke _ _) ?_ | refine uD0 (fun _ => after_calls _ _) ?_ | refine uD1 (fun _ => after_calls _ _) ?_ | refine uD2 (fun _ => after_calls _ _) ?_ | refine uD3 (fun _ => after_calls _ _) ?_ | (refine uB ?_; intro b) | (refine uP ?_ ?_ <;> (intro h; ((try simp only [zs, ne_eq, and_true, true_and, eq_self, reduceCtorEq] at h); try exact zx))) | refine da 101 ?_ | fail)
  · rw [hc1 h]
    exact sp1 (L' := [] :: ldC lp wv wc M :: L) (LS.skip _ (LS.refl _)) ⟨[], vec_nil, rfl⟩
  · rename_i hen
    rw [hc2 hen h]
    refine fo 1 ?_
    refine gc (kd1 _ hm2) ?_
    rintro v L' ⟨c, hv, rfl⟩
    repeat' (first | refine uN ?_ | refine g_k S ?_ | refine g_w S ?_ | (refine uB ?_; intro b) | (refine uP ?_ ?_ <;> (intro h; ((try simp only [zs, ne_eq, and_true, true_and, eq_self, reduceCtorEq] at h); try exact zx))) | refine da 101 ?_ | fail)
    exact sp1 uZ ⟨c, hv, rfl⟩
  · rename_i hen
    rw [hc3 hen h]
    refine fo 1 ?_
    refine gc (ks _) ?_
    rintro v L' ⟨c, hv, rfl⟩
    obtain ⟨a2, cap2, rfl, hcap2, hR2⟩ := hv.rd sc_len
    have kc := fun L => choose_calls a2 cap2 (statesM M) (c :: L) (hR2 L) (by omega)
    repeat' (first | refine uN ?_ | refine g_k S ?_ | refine g_w S ?_ | refine uC (kc _) ?_ | refine uD0 (fun _ => kc _) ?_ | refine uD1 (fun _ => kc _) ?_ | refine uD2 (fun _ => kc _) ?_ | refine uD3 (fun _ => kc _) ?_ | (refine uB ?_; intro b) | (refine uP ?_ ?_ <;> (intro h; ((try simp only [zs, ne_eq, and_true, true_and, eq_self, reduceCtorEq] at h); try exact zx))) | refine da 101 ?_ | fail)
    · rename_i hfin
      rw [if_pos h]
      refine fo 1 ?_
      refine gc (kd2 _ hm2) ?_
      rintro v L' ⟨c3, hv3, rfl⟩
      repeat' (first | refine uN ?_ | refine g_k S ?_ | refine g_w S ?_ | (refine uB ?_; intro b) | (refine uP ?_ ?_ <;> (intro h; ((try simp only [zs, ne_eq, and_true, true_and, eq_self, reduceCtorEq] at h); try exact zx))) | refine da 101 ?_ | fail)
      exact sp1 uZ ⟨c3, hv3, rfl⟩
    · rename_i hfin
      rw [if_neg (by simp [h])]
      refine fo 1 ?_
      refine gc (kp _ hm2) ?_
      rintro v L' ⟨c3, hv3, rfl⟩
      repeat' (first | refine uN ?_ | refine g_k S ?_ | refine g_w S ?_ | (refine uB ?_; intro b) | (refine uP ?_ ?_ <;> (intro h; ((try simp only [zs, ne_eq, and_true, true_and, eq_self, reduceCtorEq] at h); try exact zx))) | refine da 101 ?_ | fail)
      exact sp1 uZ ⟨c3, hv3, rfl⟩
theorem hear_calls (T : Nat) (E : Nat → Addr) (lp : Nat) (wv : Value) (wc : List Blk) (m : Ld) (f : Fr) (L : Heap) (hG : Er T E [2, 3, 4] L) (hm : LdOk wv wc m) (hh : m.heard < 2 ^ m.w.length) :
    HC Tryz.prog 74 [pt lp 0, .agg ⟨fc f⟩] (ldC lp wv wc m :: L) (fun v L' => ∃ c, FrVec v (hearM m f).2 c ∧ L' = c :: ldC lp wv wc (hearM m f).1 :: L) := by
  have hh7 : m.heard < 128 := Nat.lt_of_lt_of_le hh (Nat.pow_le_pow_right (by decide) hm.len)
  have kf : ∀ L, _ := fun L => fits_calls lp wv wc m f L hm hh7
  have g5 : (ldL wv m)[0 + 5]? = some (iv m.wait) := ld_pre rfl
  by_cases hw : m.wait = 0 ∨ ¬ fitsM m f
  · rw [hear_wait hw]
    by_cases h0 : m.wait = 0
    · refine Za (fun _ _ => Tryz.call74 _ _) Tryz.func74 rfl Tryz.ntmps74 (Nat.le_of_ble_eq_true rfl) ?_; simp only [args0, Nat.reduceAdd]
      repeat' (first | refine uN ?_ | refine g_k S ?_ | refine g_w S ?_ | (refine uB ?_; intro b) | (refine uP ?_ ?_ <;> (intro h; ((try simp only [zs, ne_eq, and_true, true_and, eq_self, reduceCtorEq] at h); try exact zx))) | refine da 101 ?_ | fail)
      exact sp1 (L' := [] :: ldC lp wv wc m :: L) (LS.skip _ (LS.refl _)) ⟨[], vec_nil, rfl⟩
    · rw [decide_eq_false (by rcases hw with h | h; exact absurd h h0; exact h)] at kf
      refine Za (fun _ _ => Tryz.call74 _ _) Tryz.func74 rfl Tryz.ntmps74 (Nat.le_of_ble_eq_true rfl) ?_; simp only [args0, Nat.reduceAdd]
      repeat' (first | refine uN ?_ | refine g_k S ?_ | refine g_w S ?_ | refine g_q (qC (hq1 kf 1)) ?_ | refine k_q (qC (hq1 kf 1)) ?_ | refine uD0 (fun _ => hq1 kf 1) ?_ | refine uD1 (fun _ => hq1 kf 1) ?_ | refine uD2 (fun _ => hq1 kf 1) ?_ | refine uD3 (fun _ => hq1 kf 1) ?_ | (refine uB ?_; intro b) | (refine uP ?_ ?_ <;> (intro h; ((try simp only [zs, ne_eq, and_true, true_and, eq_self, reduceCtorEq] at h); try exact zx))) | refine da 101 ?_ | fail)
      exact sp1 (L' := [] :: ldC lp wv wc m :: L) (LS.skip _ (LS.refl _)) ⟨[], vec_nil, rfl⟩
  · have hfit : fitsM m f := by
      by_cases h : fitsM m f
      · exact h
      · exact absurd (.inr h) hw
    have hw0 : m.wait ≠ 0 := fun h => hw (.inl h)
    by_cases hy : f.yes = true
    · have e : hearM m f = countM (m2M m f) := by unfold hearM; rw [if_neg hw, if_neg (by simp [hy])]
      rw [e]
      by_cases hkd : f.kd = 2
      · exact countV_calls T E lp wv wc m f L hG hm hh hw0 hfit hy hkd
      · exact countN_calls T E lp wv wc m f L hG hm hh hw0 hfit hy hkd
    · have hy' : f.yes = false := by simpa using hy
      have e : hearM m f = noM (m1M m f) := by unfold hearM; rw [if_neg hw, if_pos hy']
      rw [e]
      rw [decide_eq_true hfit] at kf
      clear hw hfit e
      have kn := no_calls lp wv wc (m1M m f)
      have hm1 := hm.m1 f
      have g9 : (ldL wv m)[0 + 29]? = some (iv m.seen) := ld_seen hm.told
      by_cases hkd : f.kd = 2
      · have e1 : m1M m f = m := if_pos hkd
        rw [e1] at kn hm1 ⊢
        refine Za (fun _ _ => Tryz.call74 _ _) Tryz.func74 rfl Tryz.ntmps74 (Nat.le_of_ble_eq_true rfl) ?_; simp only [args0, Nat.reduceAdd]
        repeat' (first | refine uN ?_ | refine g_k S ?_ | refine g_w S ?_ | refine g_q (qC (hq1 kf 1)) ?_ | refine k_q (qC (hq1 kf 1)) ?_ | refine uD0 (fun _ => hq1 kf 1) ?_ | refine uD1 (fun _ => hq1 kf 1) ?_ | refine uD2 (fun _ => hq1 kf 1) ?_ | refine uD3 (fun _ => hq1 kf 1) ?_ | (refine uB ?_; intro b) | (refine uP ?_ ?_ <;> (intro h; ((try simp only [zs, ne_eq, and_true, true_and, eq_self, reduceCtorEq] at h); try exact zx))) | refine da 101 ?_ | fail)
        refine fo 1 ?_
        refine gc (kn _ hm1) ?_
        rintro v L' ⟨c, hv, rfl⟩
        repeat' (first | refine uN ?_ | refine g_k S ?_ | refine g_w S ?_ | (refine uB ?_; intro b) | (refine uP ?_ ?_ <;> (intro h; ((try simp only [zs, ne_eq, and_true, true_and, eq_self, reduceCtorEq] at h); try exact zx))) | refine da 101 ?_ | fail)
        exact sp1 uZ ⟨c, hv, rfl⟩
      · have p9 : Puts (ldL wv m) (0 + 29) [iv (max m.seen f.s.pr)] (ldL wv (m1M m f)) := by
          unfold m1M; rw [if_neg hkd]; exact ld_put29 hm.told _
        refine Za (fun _ _ => Tryz.call74 _ _) Tryz.func74 rfl Tryz.ntmps74 (Nat.le_of_ble_eq_true rfl) ?_; simp only [args0, Nat.reduceAdd]
        repeat' (first | refine uN ?_ | refine g_k S ?_ | refine g_w S ?_ | refine g_q (qC (hq1 kf 1)) ?_ | refine k_q (qC (hq1 kf 1)) ?_ | refine uD0 (fun _ => hq1 kf 1) ?_ | refine uD1 (fun _ => hq1 kf 1) ?_ | refine uD2 (fun _ => hq1 kf 1) ?_ | refine uD3 (fun _ => hq1 kf 1) ?_ | (refine uB ?_; intro b) | (refine uP ?_ ?_ <;> (intro h; ((try simp only [zs, ne_eq, and_true, true_and, eq_self, reduceCtorEq] at h); try exact zx))) | refine da 101 ?_ | fail)
        refine fo 1 ?_
        refine gc (kn _ hm1) ?_
        rintro v L' ⟨c, hv, rfl⟩
        repeat' (first | refine uN ?_ | refine g_k S ?_ | refine g_w S ?_ | (refine uB ?_; intro b) | (refine uP ?_ ?_ <;> (intro h; ((try simp only [zs, ne_eq, and_true, true_and, eq_self, reduceCtorEq] at h); try exact zx))) | refine da 101 ?_ | fail)
        exact sp1 uZ ⟨c, hv, rfl⟩
end Go.HL
end

/-! WgC -/
section
namespace Go.HL
open Go Go.Proofs
set_option linter.unusedVariables false
set_option linter.unusedSimpArgs false
set_option maxHeartbeats 2000000 attribute [local irreducible] HW HO HQ HD HC QOp Has Upd Puts Gets seqQ blkQ loopQ fnQ actQ nextP unQ MapF

theorem ownInts_calls (a : Option Addr) (cap : Nat) (xs : List Int) (L : Heap) (hR : Rd ic 1 L a xs) (hl : xs.length ≤ 1000000) :
    HC Tryz.prog 18 [.slice a xs.length cap] L (fun v L' => ∃ c, Own 3 1 v xs.length (xs.map ic).flatten c ∧ L' = c :: L) := by
  refine Za (fun _ _ => Tryz.call18 _ _) Tryz.func18 rfl Tryz.ntmps18 (Nat.le_of_ble_eq_true rfl) ?_; simp only [args0, Nat.reduceAdd]
  repeat' (first | refine uN ?_)
  refine ho_nilc ?_
  (apply o_append S; (case hx => exact rfl); (case hy => exact rfl); (case ht => exact rfl); (case he => exact rfl); (case hz => exact rfl); (case hzs => exact rfl); (case hzl => exact rfl); (case hn => exact rfl))
  (case ho => exact own_nil)
  (case hs => exact src_of_rd (fun _ => rfl) (hR.cons _))
  (case h1 => exact cells_flat (fun _ => rfl) xs)
  (case hby => omega)
  (case hmax => omega)
  intro v' c' ho
  repeat' (first | refine uN ?_)
  refine fn_ret1 rfl rfl (List.Sublist.refl _) ⟨c', by simpa using ho, rfl⟩
theorem pow_le30 {n : Nat} (h : n ≤ 30) : (2 : Int) ^ n ≤ 1073741824 ∧ 1 ≤ (2 : Int) ^ n := by
  have h1 : (2 : Nat) ^ n ≤ 2 ^ 30 := Nat.pow_le_pow_right (by decide) h
  have h2 := Nat.two_pow_pos n
  have e : (2 : Int) ^ n = ((2 ^ n : Nat) : Int) := by simp
  rw [e]
  generalize (2 : Nat) ^ n = q at *
  omega
theorem two_calls (n : Nat) (hn : n ≤ 30) (L : Heap) : HC Tryz.prog 16 [iv n] L (fun v L' => v = iv (2 ^ n) ∧ L' = L) := by
  refine Za (fun _ _ => Tryz.call16 _ _) Tryz.func16 rfl Tryz.ntmps16 (Nat.le_of_ble_eq_true rfl) ?_; simp only [args0, Nat.reduceAdd]
  repeat' (first | refine uN ?_ | (refine uP ?_ ?_ <;> (intro h; ((try simp only [zs, ne_eq, and_true, true_and, eq_self, reduceCtorEq] at h); try exact zx))) | fail)
  refine Zf (σ := Int × Int) (fun s => [(0, iv n), (3, iv s.2), (4, iv s.1)]) (fun _ => L) (fun s => 0 ≤ s.1 ∧ s.1 ≤ n ∧ s.2 = 2 ^ s.1.toNat) (fun s => (n - s.1).toNat) (0, 1) uS (List.Sublist.refl _) ⟨by simp, by simp, by simp⟩ ?_
  rintro ⟨j, m⟩ ⟨j0, j1, hm⟩
  simp only at j0 j1 hm
  have hp := pow_le30 (n := j.toNat) (by omega)
  rw [← hm] at hp
  by_cases hlt : j < n
  · repeat' (first | refine uN ?_ | (refine uP ?_ ?_ <;> (intro h; ((try simp only [zs, ne_eq, and_true, true_and, eq_self, reduceCtorEq] at h); try exact zx))) | fail)
    refine Zg (j + 1, _) uS (List.Sublist.refl _) ⟨by show 0 ≤ j + 1; omega, by show j + 1 ≤ (n : Int); omega, ?_⟩ (by show (n - (j + 1)).toNat < (n - j).toNat; omega)
    show 2 * m = 2 ^ (j + 1).toNat
    rw [show (j + 1).toNat = j.toNat + 1 by omega, Int.pow_succ, hm]
    omega
  · repeat' (first | refine uN ?_ | (refine uP ?_ ?_ <;> (intro h; ((try simp only [zs, ne_eq, and_true, true_and, eq_self, reduceCtorEq] at h); try exact zx))) | fail)
    (refine fn_ret1 rfl rfl ?_ ⟨?_, rfl⟩; (next => (repeat (first | exact List.Sublist.refl _ | apply List.Sublist.cons))))
    rw [hm, show j.toNat = n by omega]
end Go.HL
end

/-! LdD -/
section
namespace Go.HL
open Go Go.Proofs
set_option linter.unusedVariables false
set_option linter.unusedSimpArgs false
def newLd (id deal : Int) (w : List Int) (att wait : Int) : Ld := ⟨id, deal, att, w, sAsking, wait, 0, List.replicate 7 zeroS, 0, 0⟩
def leadE (id deal : Int) (w : List Int) (att : Int) : Option Nat := match checkW w with
  | some e => some e
  | none => if id < 0 ∨ w.length ≤ id ∨ deal < 0 ∨ 6 ≤ deal ∨ 1048576 < att then some 2 else none
/-- a new lead, or an error -/
def LdRes (T : Nat) (E : Nat → Addr) (e : Option Nat) (m : Ld) (L : Heap) (v : Value) (L' : Heap) : Prop := match e with
  | some x => v = .tuple ⟨[.pointer none, eV T E (some x)]⟩ ∧ L' = L
  | none => ∃ lp wv wc, v = .tuple ⟨[pt lp 0, .nilIface]⟩ ∧ LdOk wv wc m ∧ L' = ldC lp wv wc m :: L
def tryE (id deal : Int) (w : List Int) (att : Int) : Option Nat := match leadE id deal w att with
  | some e => some e
  | none => if att < 1 then some 2 else none
set_option maxHeartbeats 2000000 attribute [local irreducible] HW HO HQ HD HC QOp Has Upd Puts Gets seqQ blkQ loopQ fnQ actQ nextP unQ MapF
theorem lead_calls (T : Nat) (E : Nat → Addr) (id deal : Int) (a : Option Addr) (cap : Nat) (w : List Int) (att wait : Int) (L : Heap) (hG : Er T E [2, 3, 4] L) (hR : Rd ic 1 L a w) (hl : w.length ≤ 1000000) :
    HC Tryz.prog 124 [iv id, iv deal, .slice a w.length cap, iv att, iv wait] L (LdRes T E (leadE id deal w att) (newLd id deal w att wait) L) := by
  have kc := check_calls T E a cap w L hG hR hl
  cases hc : checkW w with
  | some e =>
    rw [hc] at kc
    rw [show leadE id deal w att = some e by unfold leadE; rw [hc]]
    refine Za (fun _ _ => Tryz.call124 _ _) Tryz.func124 rfl Tryz.ntmps124 (Nat.le_of_ble_eq_true rfl) ?_; simp only [args0, Nat.reduceAdd]
    repeat' (first | refine uN ?_ | refine g_d S ?_ | refine uC (kc) ?_ | refine uD0 (fun _ => kc) ?_ | refine uD1 (fun _ => kc) ?_ | refine uD2 (fun _ => kc) ?_ | refine uD3 (fun _ => kc) ?_ | (refine uB ?_; intro b) | refine dg S 100 (fun _ _ => ?_) | (refine uP ?_ ?_ <;> (intro h; ((try simp only [zs, ne_eq, and_true, true_and, eq_self, reduceCtorEq] at h); try exact zx))) | refine da 101 ?_ | fail)
    exact sp2 (LS.refl _) ⟨rfl, rfl⟩
  | none =>
    rw [hc] at kc
    obtain ⟨c1, c2, c3, c4⟩ := check_none hc
    have hle : leadE id deal w att = if id < 0 ∨ w.length ≤ id ∨ deal < 0 ∨ 6 ≤ deal ∨ 1048576 < att then some 2 else none := by unfold leadE; rw [hc]
    refine Za (fun _ _ => Tryz.call124 _ _) Tryz.func124 rfl Tryz.ntmps124 (Nat.le_of_ble_eq_true rfl) ?_; simp only [args0, Nat.reduceAdd]
    repeat' (first | refine uN ?_ | refine g_d S ?_ | refine uC (kc) ?_ | refine uD0 (fun _ => kc) ?_ | refine uD1 (fun _ => kc) ?_ | refine uD2 (fun _ => kc) ?_ | refine uD3 (fun _ => kc) ?_ | (refine uB ?_; intro b) | refine dg S 100 (fun _ _ => ?_) | (refine uP ?_ ?_ <;> (intro h; ((try simp only [zs, ne_eq, and_true, true_and, eq_self, reduceCtorEq] at h); try exact zx))) | refine da 101 ?_ | fail)
    all_goals first | (rw [hle, if_pos (by omega)]; exact sp2 (LS.refl _) ⟨rfl, rfl⟩; done) | skip
    rw [hle, if_neg (by omega)]
    refine ho_nilc ?_
    refine wpA S (enc := ic) (xs := []) (ys := w) vec_nil ((hR.cons _).cons _) ic_len ic_one ?_ (by rfl) (by rfl) (by rfl) (by rfl) (by rfl) (by rfl) (by rfl) (by rfl) (by rfl) (by simp only [List.length_nil]; omega) (by simp only [List.length_nil]; omega)
    intro v' c' hv
    rw [List.nil_append] at hv
    obtain ⟨a', cap', rfl, -⟩ := hv.rd ic_len
    repeat' (first | refine uN ?_ | refine g_d S ?_ | refine uC (kc) ?_ | refine uD0 (fun _ => kc) ?_ | refine uD1 (fun _ => kc) ?_ | refine uD2 (fun _ => kc) ?_ | refine uD3 (fun _ => kc) ?_ | (refine uB ?_; intro b) | refine dg S 100 (fun _ _ => ?_) | (refine uP ?_ ?_ <;> (intro h; ((try simp only [zs, ne_eq, and_true, true_and, eq_self, reduceCtorEq] at h); try exact zx))) | refine da 101 ?_ | fail)
    refine sp2 (L' := ldC b (.slice a' w.length cap') c' (newLd id deal w att wait) :: L) ?_ ⟨_, _, _, rfl, ⟨hv, rfl, c2⟩, rfl⟩
    refine LS.of_perm ?_
    simp only [ldC, List.flatten_cons, List.cons_append, List.nil_append]
    exact List.perm_middle.symm
theorem begin_calls (T : Nat) (E : Nat → Addr) (id deal : Int) (a : Option Addr) (cap : Nat) (w : List Int) (L : Heap) (hG : Er T E [2, 3, 4] L) (hR : Rd ic 1 L a w) (hl : w.length ≤ 1000000) :
    HC Tryz.prog 69 [iv id, iv deal, .slice a w.length cap] L (LdRes T E (leadE id deal w 0) (newLd id deal w 0 2) L) := by
  have kc := lead_calls T E id deal a cap w 0 2 L hG hR hl
  cases hc : leadE id deal w 0 with
  | some e =>
    rw [hc] at kc
    refine Za (fun _ _ => Tryz.call69 _ _) Tryz.func69 rfl Tryz.ntmps69 (Nat.le_of_ble_eq_true rfl) ?_; simp only [args0, Nat.reduceAdd]
    repeat' (first | refine uN ?_)
    refine gc kc ?_
    rintro v L' ⟨rfl, rfl⟩
    repeat' (first | refine uN ?_)
    exact sp2 (LS.refl _) ⟨rfl, rfl⟩
  | none =>
    rw [hc] at kc
    refine Za (fun _ _ => Tryz.call69 _ _) Tryz.func69 rfl Tryz.ntmps69 (Nat.le_of_ble_eq_true rfl) ?_; simp only [args0, Nat.reduceAdd]
    repeat' (first | refine uN ?_)
    refine gc kc ?_
    rintro v L' ⟨lp, wv, wc, rfl, hv, rfl⟩
    repeat' (first | refine uN ?_)
    exact sp2 (LS.refl _) ⟨_, _, _, rfl, hv, rfl⟩
theorem try_calls (T : Nat) (E : Nat → Addr) (id deal : Int) (a : Option Addr) (cap : Nat) (w : List Int) (att : Int) (L : Heap) (hG : Er T E [2, 3, 4] L) (hR : Rd ic 1 L a w) (hl : w.length ≤ 1000000) :
    HC Tryz.prog 192 [iv id, iv deal, .slice a w.length cap, iv att] L (LdRes T E (tryE id deal w att) (newLd id deal w att 4) L) := by
  have kc := lead_calls T E id deal a cap w att 4 L hG hR hl
  unfold tryE
  cases hc : leadE id deal w att with
  | some e =>
    rw [hc] at kc
    refine Za (fun _ _ => Tryz.call192 _ _) Tryz.func192 rfl Tryz.ntmps192 (Nat.le_of_ble_eq_true rfl) ?_; simp only [args0, Nat.reduceAdd]
    repeat' (first | refine uN ?_ | refine g_k S ?_ | (refine uP ?_ ?_ <;> (intro h; ((try simp only [zs, ne_eq, and_true, true_and, eq_self, reduceCtorEq] at h); try exact zx))) | fail)
    refine gc kc ?_
    rintro v L' ⟨rfl, rfl⟩
    repeat' (first | refine uN ?_ | refine g_d S ?_ | refine dg S 100 (fun _ _ => ?_) | (refine uP ?_ ?_ <;> (intro h; ((try simp only [zs, ne_eq, and_true, true_and, eq_self, reduceCtorEq] at h); try exact zx))) | refine da 101 ?_ | fail)
    exact sp2 (LS.refl _) ⟨rfl, rfl⟩
  | none =>
    rw [hc] at kc
    refine Za (fun _ _ => Tryz.call192 _ _) Tryz.func192 rfl Tryz.ntmps192 (Nat.le_of_ble_eq_true rfl) ?_; simp only [args0, Nat.reduceAdd]
    repeat' (first | refine uN ?_ | refine g_k S ?_ | (refine uP ?_ ?_ <;> (intro h; ((try simp only [zs, ne_eq, and_true, true_and, eq_self, reduceCtorEq] at h); try exact zx))) | fail)
    refine gc kc ?_
    rintro v L' ⟨lp, wv, wc, rfl, hv, rfl⟩
    have hG2 := hG.cons (ldC lp wv wc (newLd id deal w att 4))
    repeat' (first | refine uN ?_ | refine g_d S ?_ | refine dg S 100 (fun _ _ => ?_) | (refine uP ?_ ?_ <;> (intro h; ((try simp only [zs, ne_eq, and_true, true_and, eq_self, reduceCtorEq] at h); try exact zx))) | refine da 101 ?_ | fail)
    · rw [if_pos h]
      exact sp2 (LS.skips _ (LS.refl _)) ⟨rfl, rfl⟩
    · rw [if_neg h]
      exact sp2 (LS.refl _) ⟨_, _, _, rfl, hv, rfl⟩
end Go.HL
end

/-! WoC -/
section
namespace Go.HL
open Go Go.Proofs
set_option linter.unusedVariables false
set_option linter.unusedSimpArgs false
/-- a node: its plate, its site (none: it is down), its leads, what it has told -/
structure Nd where
  pl : Pl
  site : Option (Jn × (Int → Bool))
  leads : List (Option Ld)
  done : List Bool
structure Wm where
  w : List Int
  n : List Nd
  br : Int × Int → Bool
  l : List Fr
  ev : List Evt
/-- where a node lies -/
structure NdG where
  np : Nat
  bp : Nat
  ba : Nat
  sp : Nat
  bj : Nat
  mb : Nat
  es : List MapEntry
  ck : Nat
  ld : List (Nat × Value × List Blk)
def ldV : Option Ld → Nat × Value × List Blk → Value
  | none, _ => .pointer none
  | some _, g => pt g.1 0
def ldB : Option Ld → Nat × Value × List Blk → List Blk
  | none, _ => []
  | some m, g => ldC g.1 g.2.1 g.2.2 m
def stV (g : NdG) : Option (Jn × (Int → Bool)) → Value
  | none => .pointer none
  | some _ => pt g.sp 0
def siB (g : NdG) (i : Int) : Option (Jn × (Int → Bool)) → List Blk
  | none => []
  | some (j, _) => siC g.sp g.bj g.mb i ++ mpC g.mb g.es g.ck ++ jC g.bj g.bp j
def ndL (sv : Value) (bp : Nat) (lv : List Value) (dn : List Bool) : List Value := [sv, pt bp 0] ++ lv ++ dn.map Value.bool
def ldVs (g : NdG) (m : Nd) : List Value := List.zipWith ldV m.leads g.ld
def ldBs (g : NdG) (m : Nd) : List Blk := (List.zipWith ldB m.leads g.ld).flatten
def ndO (g : NdG) (m : Nd) : Obj := .cells ⟨ndL (stV g m.site) g.bp (ldVs g m) m.done⟩ 122
def ndB (g : NdG) (m : Nd) : List Blk := [(g.np, ndO g m)]
/-- all blocks of a node -/
def ndA (g : NdG) (i : Int) (m : Nd) : List Blk := ndB g m ++ plC g.bp g.ba m.pl ++ siB g i m.site ++ ldBs g m
def ndsB : List NdG → List Nd → Nat → List Blk
  | g :: gs, m :: ms, i => ndA g i m ++ ndsB gs ms (i + 1)
  | _, _, _ => []
/-- all nodes' blocks but one's -/
def ndsX : List NdG → List Nd → Nat → Nat → List Blk
  | g :: gs, m :: ms, i, 0 => ndsB gs ms (i + 1)
  | g :: gs, m :: ms, i, s + 1 => ndA g i m ++ ndsX gs ms (i + 1) s
  | _, _, _, _ => []
theorem nds_open : ∀ {gs : List NdG} {ms : List Nd} {i s : Nat} {g : NdG} {m : Nd}, gs[s]? = some g → ms[s]? = some m → List.Perm (ndsB gs ms i) (ndA g ((i + s : Nat) : Int) m ++ ndsX gs ms i s)
  | [], _, _, _, _, _, h, _ => by simp at h
  | _ :: _, [], _, _, _, _, _, h => by simp at h
  | g0 :: gs, m0 :: ms, i, 0, g, m, h, h2 => by
    simp at h h2; subst h; subst h2
    exact .refl _
  | g0 :: gs, m0 :: ms, i, s + 1, g, m, h, h2 => by
    have ih := nds_open (gs := gs) (ms := ms) (i := i + 1) (s := s) (g := g) (m := m) (by simpa using h) (by simpa using h2)
    simp only [ndsB, ndsX]
    rw [show i + (s + 1) = i + 1 + s by omega]
    refine (ih.append_left _).trans ?_
    rw [← List.append_assoc, ← List.append_assoc]
    exact List.perm_append_comm.append_right _
theorem nds_set : ∀ {gs : List NdG} {ms : List Nd} {i s : Nat} {g : NdG} {m : Nd}, ndsX (gs.set s g) (ms.set s m) i s = ndsX gs ms i s
  | [], _, _, _, _, _ => by simp [ndsX]
  | _ :: _, [], _, s, _, _ => by cases s <;> simp [ndsX]
  | g0 :: gs, m0 :: ms, i, 0, g, m => rfl
  | g0 :: gs, m0 :: ms, i, s + 1, g, m => by
    simp only [List.set_cons_succ, ndsX]
    rw [nds_set]
/-- where a world lies -/
structure WdG where
  wp : Nat
  wv : Value
  wc : List Blk
  nv : Value
  nc : List Blk
  mb : Nat
  es : List MapEntry
  ck : Nat
  lv : Value
  lc : List Blk
  ev : Value
  ec : List Blk
  nd : List NdG
def wdO (G : WdG) : Obj := .cells ⟨[G.wv, G.nv, .map (some G.mb), G.lv, G.ev]⟩ 110
def pc (p : Nat) : List Value := [pt p 0]
theorem pc_len (p : Nat) : (pc p).length = 1 := rfl
theorem pc_one (p : Nat) : (pc p).all Value.oneCell' = true := rfl
/-- what of a world is no node's -/
def wdT (G : WdG) : Heap := [[(G.wp, wdO G)], G.wc, G.nc, [(G.mb, .map ⟨G.es⟩ G.ck)], G.lc, G.ec]
def wdH (G : WdG) (M : Wm) : Heap := wdT G ++ [ndsB G.nd M.n 0]
/-- what always holds of a lead -/
structure LdI (w : List Int) (s d : Nat) (x : Ld) : Prop where
  ww : x.w = w
  id : x.id = s
  deal : x.deal = d
  att0 : 0 ≤ x.att
  att1 : x.att ≤ 1048576
  told : x.told.length = 7
  tok : ∀ t ∈ x.told, 0 ≤ t.ph ∧ t.ph ≤ 5
  heard : x.heard < 2 ^ w.length
  ph0 : 0 ≤ x.phase
  ph1 : x.phase ≤ 5
  seen0 : 0 ≤ x.seen
  seen1 : x.seen ≤ 1048576
/-- what always holds of a node -/
structure NdI (w : List Int) (s : Nat) (m : Nd) : Prop where
  leads : m.leads.length = 6
  done : m.done.length = 6
  b512 : m.pl.b.length = 512
  si : SI m.pl ⟨openM m.pl.b, m.pl.off⟩
  up : ∀ j ref, m.site = some (j, ref) → j = ⟨openM m.pl.b, false⟩ ∧ m.pl.off = false
  dn : m.site = none → m.pl.off = true
  ldi : ∀ (d : Nat) x, m.leads[d]? = some (some x) → LdI w s d x
/-- a node's memory -/
structure NdOk (g : NdG) (m : Nd) : Prop where
  ld : g.ld.length = 6
  lok : ∀ (d : Nat) x, m.leads[d]? = some (some x) → ∀ q, g.ld[d]? = some q → LdOk q.2.1 q.2.2 x
  map : ∀ j ref, m.site = some (j, ref) → MapF iv g.es ref
theorem NdI.pl {w : List Int} {s : Nat} {m : Nd} (h : NdI w s m) : PlOk m.pl := h.si.ji.pl
theorem NdI.jn {w : List Int} {s : Nat} {m : Nd} (h : NdI w s m) {j : Jn} {ref : Int → Bool} (hs : m.site = some (j, ref)) : SI m.pl j := by
  obtain ⟨e1, e2⟩ := h.up j ref hs
  have := h.si
  rw [e2] at this
  rw [e1]
  exact this
/-- what always holds of a world -/
structure WI (M : Wm) : Prop where
  w0 : checkW M.w = none
  wl : M.w.length ≤ 7
  w1 : 1 ≤ M.w.length
  wn : M.n.length = M.w.length
  fr : ∀ f ∈ M.l, ¬ badF f ∧ f.to < M.w.length ∧ f.fr < M.w.length
  evl : M.ev.length ≤ 500
  nd : ∀ (s : Nat) m, M.n[s]? = some m → NdI M.w s m
/-- a world's memory -/
structure WdOk (G : WdG) (M : Wm) : Prop where
  w : Vec 3 1 ic G.wv M.w G.wc
  nodes : Vec 117 1 pc G.nv (G.nd.map (·.np)) G.nc
  ndl : G.nd.length = M.n.length
  br : MapF pk G.es M.br
  l : FrVec G.lv M.l G.lc
  ev : Vec 81 3 ec G.ev M.ev G.ec
  nd : ∀ (s : Nat) g m, G.nd[s]? = some g → M.n[s]? = some m → NdOk g m
end Go.HL
end

/-! WoD -/
section
namespace Go.HL
open Go Go.Proofs
set_option linter.unusedVariables false
set_option linter.unusedSimpArgs false
/-- what a walk sees of a world -/
structure WdIn (L : Heap) (G : WdG) (M : Wm) : Prop where
  wp : Has L G.wp (wdO G)
  ns : ∃ a cap, G.nv = .slice a M.n.length cap ∧ Rd pc 1 L a (G.nd.map (·.np))
  ws : ∃ a cap, G.wv = .slice a M.w.length cap ∧ Rd ic 1 L a M.w
  ls : ∃ a cap, G.lv = .slice a M.l.length cap ∧ Rd fc 9 L a M.l
  es : ∃ a cap, G.ev = .slice a M.ev.length cap
theorem Rd.mono {α : Type} {enc : α → List Value} {sz : Nat} {L L' : Heap} {a : Option Addr} {xs : List α} (h : Rd enc sz L a xs) (hl : ∀ b o, Has L b o → Has L' b o) : Rd enc sz L' a xs := by
  rcases h with h | ⟨b, i, l, E, fr, h1, hb, hg⟩
  · exact .inl h
  · exact .inr ⟨b, i, l, E, fr, h1, hl _ _ hb, hg⟩
theorem wdIn {L : Heap} {G : WdG} {M : Wm} (h : WdOk G M) (hl : ∀ b o, Has (wdT G) b o → Has L b o) : WdIn L G M := by
  refine ⟨hl _ _ Zh, ?_, ?_, ?_, ?_⟩
  · obtain ⟨a, cap, e, -, hR⟩ := h.nodes.rd pc_len
    refine ⟨a, cap, by rw [e, List.length_map, h.ndl], (hR []).mono fun b o hb => hl b o ?_⟩
    simp only [Has, List.flatten_cons, List.flatten_nil, List.append_nil, wdT] at hb ⊢
    simp [hb]
  · obtain ⟨a, cap, e, -, hR⟩ := h.w.rd ic_len
    refine ⟨a, cap, e, (hR []).mono fun b o hb => hl b o ?_⟩
    simp only [Has, List.flatten_cons, List.flatten_nil, List.append_nil, wdT] at hb ⊢
    simp [hb]
  · obtain ⟨a, cap, e, -, hR⟩ := h.l.rd fc_len
    refine ⟨a, cap, e, (hR []).mono fun b o hb => hl b o ?_⟩
    simp only [Has, List.flatten_cons, List.flatten_nil, List.append_nil, wdT] at hb ⊢
    simp [hb]
  · obtain ⟨a, cap, e, -, hR⟩ := h.ev.rd ec_len
    exact ⟨a, cap, e⟩
def nodeE (M : Wm) (s : Int) : Option Nat := if s < 0 ∨ M.n.length ≤ s then some 2 else none
def ndAt (M : Wm) (s : Int) : Nd := M.n.getD s.toNat ⟨⟨[], false, 0⟩, none, [], []⟩
def upE (M : Wm) (s : Int) : Option Nat := match nodeE M s with
  | some e => some e
  | none => if (ndAt M s).site.isNone then some 6 else none
def npAt (G : WdG) (s : Int) : NdG := G.nd.getD s.toNat ⟨0, 0, 0, 0, 0, 0, [], 0, []⟩
theorem nodeE_none {M : Wm} {s : Int} (h : nodeE M s = none) : 0 ≤ s ∧ s < M.n.length := by
  unfold nodeE at h
  split at h
  · cases h
  · omega
theorem nodeE_ok {M : Wm} {s : Int} (h0 : 0 ≤ s) (h1 : s < M.n.length) : nodeE M s = none := if_neg (by omega)
theorem getD_some {α : Type} {l : List α} {i : Nat} {x : α} (h : i < l.length) : l[i]? = some (l.getD i x) := by simp [List.getD, h]
theorem wd_np {L : Heap} {G : WdG} {M : Wm} {s : Int} (hI : WdIn L G M) (hl : G.nd.length = M.n.length) (h0 : 0 ≤ s) (h1 : s < M.n.length) : ∃ b i l F fr cap, G.nv = sl b i M.n.length cap ∧ Has L b (.cells ⟨l⟩ F fr) ∧ l[i + s.toNat]? = some (pt (npAt G s).np 0) := by
  obtain ⟨a, cap, hnv, hR⟩ := hI.ns
  obtain ⟨b, i, l, F, fr, rfl, hb, hg⟩ := hR.at1 (j := s) h0 (by simp; omega)
  refine ⟨b, i, l, F, fr, cap, hnv, hb, ?_⟩
  have e : (G.nd.map (·.np))[s.toNat]'(by simp; omega) = (npAt G s).np := by
    rw [List.getElem_map]
    unfold npAt
    rw [List.getD, List.getElem?_eq_getElem (by omega)]
    rfl
  rw [e] at hg
  exact hg 0 _ rfl
theorem ndL_pre {sv : Value} {bp : Nat} {lv : List Value} {dn : List Bool} {k : Nat} {v : Value} (h : [sv, pt bp 0][k]? = some v) : (ndL sv bp lv dn)[0 + k]? = some v := by
  have hlt : k < [sv, pt bp 0].length := (List.getElem?_eq_some_iff.1 h).1
  rw [Nat.zero_add, ndL, List.append_assoc, List.getElem?_append_left hlt, h]
/-- a node that is there -/
theorem node_cases {M : Wm} (s : Int) : (nodeE M s = some 2) ∨ (nodeE M s = none ∧ 0 ≤ s ∧ s < M.n.length) := by
  by_cases h : s < 0 ∨ M.n.length ≤ s
  · exact .inl (if_pos h)
  · exact .inr ⟨if_neg h, by omega, by omega⟩
set_option maxHeartbeats 2000000 attribute [local irreducible] HW HO HQ HD HC QOp Has Upd Puts Gets seqQ blkQ loopQ fnQ actQ nextP unQ MapF
attribute [local irreducible] ndL
theorem wnode_calls (T : Nat) (E : Nat → Addr) (G : WdG) (M : Wm) (s : Int) (L : Heap) (hG : Er T E [2] L) (hI : WdIn L G M) (hl : G.nd.length = M.n.length) : HC Tryz.prog 76 [pt G.wp 0, iv s] L (fun v L' => v = (match nodeE M s with
    | some e => .tuple ⟨[.pointer none, eV T E (some e)]⟩
    | none => .tuple ⟨[pt (npAt G s).np 0, .nilIface]⟩) ∧ L' = L) := by
  have hw := hI.wp
  unfold wdO at hw
  by_cases h : s < 0 ∨ M.n.length ≤ s
  · have e : nodeE M s = some 2 := if_pos h
    obtain ⟨a, cap, hnv, hR⟩ := hI.ns
    rw [hnv] at hw
    simp only [e]
    by_cases h0 : s < 0
    · refine Za (fun _ _ => Tryz.call76 _ _) Tryz.func76 rfl Tryz.ntmps76 (Nat.le_of_ble_eq_true rfl) ?_; simp only [args0, Nat.reduceAdd]
      repeat' (first | refine uN ?_ | refine g_k S ?_ | (refine uP ?_ ?_ <;> (intro h; ((try simp only [zs, ne_eq, and_true, true_and, eq_self, reduceCtorEq] at h); try exact zx))) | fail)
      exact er2 rfl ⟨rfl, rfl⟩
    · refine Za (fun _ _ => Tryz.call76 _ _) Tryz.func76 rfl Tryz.ntmps76 (Nat.le_of_ble_eq_true rfl) ?_; simp only [args0, Nat.reduceAdd]
      repeat' (first | refine uN ?_ | refine g_k S ?_ | (refine uP ?_ ?_ <;> (intro h; ((try simp only [zs, ne_eq, and_true, true_and, eq_self, reduceCtorEq] at h); try exact zx))) | fail)
      exact er2 rfl ⟨rfl, rfl⟩
  · have e : nodeE M s = none := if_neg h
    simp only [e]
    obtain ⟨b, i, l, F, fr, cap, hnv, hb, hg⟩ := wd_np hI hl (s := s) (by omega) (by omega)
    rw [hnv] at hw
    refine Za (fun _ _ => Tryz.call76 _ _) Tryz.func76 rfl Tryz.ntmps76 (Nat.le_of_ble_eq_true rfl) ?_; simp only [args0, Nat.reduceAdd]
    repeat' (first | refine uN ?_ | refine g_k S ?_ | (refine uP ?_ ?_ <;> (intro h; ((try simp only [zs, ne_eq, and_true, true_and, eq_self, reduceCtorEq] at h); try exact zx))) | fail)
    exact er2 rfl ⟨rfl, rfl⟩
theorem wup_calls (T : Nat) (E : Nat → Addr) (G : WdG) (M : Wm) (s : Int) (L : Heap) (hG : Er T E [2, 6] L) (hI : WdIn L G M) (hl : G.nd.length = M.n.length) (hN : nodeE M s = none → Has L (npAt G s).np (ndO (npAt G s) (ndAt M s))) : HC Tryz.prog 66 [pt G.wp 0, iv s] L (fun v L' => v = (match nodeE M s with
    | some e => .tuple ⟨[.pointer none, eV T E (some e)]⟩
    | none => .tuple ⟨[pt (npAt G s).np 0, eV T E (upE M s)]⟩) ∧ L' = L) := by
  have kn := wnode_calls T E G M s L hG.sub hI hl
  rcases node_cases (M := M) s with he | ⟨he, h0, h1⟩
  · simp only [he] at kn ⊢
    refine Za (fun _ _ => Tryz.call66 _ _) Tryz.func66 rfl Tryz.ntmps66 (Nat.le_of_ble_eq_true rfl) ?_; simp only [args0, Nat.reduceAdd]
    repeat' (first | refine uN ?_ | refine uC (kn) ?_ | (refine uP ?_ ?_ <;> (intro h; ((try simp only [zs, ne_eq, and_true, true_and, eq_self, reduceCtorEq] at h); try exact zx))) | fail)
    exact er2 rfl ⟨rfl, rfl⟩
  · have hN' := hN he
    have hu : upE M s = if (ndAt M s).site.isNone then some 6 else none := by unfold upE; rw [he]
    simp only [he] at kn ⊢
    unfold ndO at hN'
    cases hs : (ndAt M s).site with
    | none =>
      rw [hs] at hN' hu
      rw [hu]
      have g0 : (ndL (.pointer none) (npAt G s).bp (ldVs (npAt G s) (ndAt M s)) (ndAt M s).done)[0 + 0]? = some (.pointer none) := ndL_pre rfl
      refine Za (fun _ _ => Tryz.call66 _ _) Tryz.func66 rfl Tryz.ntmps66 (Nat.le_of_ble_eq_true rfl) ?_; simp only [args0, Nat.reduceAdd]
      repeat' (first | refine uN ?_ | refine uC (kn) ?_ | (refine uP ?_ ?_ <;> (intro h; ((try simp only [zs, ne_eq, and_true, true_and, eq_self, reduceCtorEq] at h); try exact zx))) | fail)
      exact er2 rfl ⟨rfl, rfl⟩
    | some q =>
      rw [hs] at hN' hu
      rw [hu]
      have g0 : (ndL (pt (npAt G s).sp 0) (npAt G s).bp (ldVs (npAt G s) (ndAt M s)) (ndAt M s).done)[0 + 0]? = some (pt (npAt G s).sp 0) := ndL_pre rfl
      obtain ⟨q1, q2⟩ := q
      refine Za (fun _ _ => Tryz.call66 _ _) Tryz.func66 rfl Tryz.ntmps66 (Nat.le_of_ble_eq_true rfl) ?_; simp only [args0, Nat.reduceAdd]
      repeat' (first | refine uN ?_ | refine uC (kn) ?_ | (refine uP ?_ ?_ <;> (intro h; ((try simp only [zs, ne_eq, and_true, true_and, eq_self, reduceCtorEq] at h); try exact zx))) | fail)
      exact er2 rfl ⟨rfl, rfl⟩
def wat (M : Wm) (k : Int) : Option Nat := if k < 0 ∨ M.l.length ≤ k then some 4 else none
theorem wat_calls (T : Nat) (E : Nat → Addr) (G : WdG) (M : Wm) (k : Int) (L : Heap) (hG : Er T E [4] L) (hI : WdIn L G M) : HC Tryz.prog 72 [pt G.wp 0, iv k] L (fun v L' => v = eV T E (wat M k) ∧ L' = L) := by
  have hw := hI.wp
  unfold wdO at hw
  obtain ⟨a, cap, hlv, -⟩ := hI.ls
  rw [hlv] at hw
  unfold wat
  by_cases h0 : k < 0
  · rw [if_pos (.inl h0)]
    refine Za (fun _ _ => Tryz.call72 _ _) Tryz.func72 rfl Tryz.ntmps72 (Nat.le_of_ble_eq_true rfl) ?_; simp only [args0, Nat.reduceAdd]
    repeat' (first | refine uN ?_ | (refine uP ?_ ?_ <;> (intro h; ((try simp only [zs, ne_eq, and_true, true_and, eq_self, reduceCtorEq] at h); try exact zx))) | fail)
    exact er1 rfl ⟨rfl, rfl⟩
  · by_cases h1 : M.l.length ≤ k
    · rw [if_pos (.inr h1)]
      refine Za (fun _ _ => Tryz.call72 _ _) Tryz.func72 rfl Tryz.ntmps72 (Nat.le_of_ble_eq_true rfl) ?_; simp only [args0, Nat.reduceAdd]
      repeat' (first | refine uN ?_ | (refine uP ?_ ?_ <;> (intro h; ((try simp only [zs, ne_eq, and_true, true_and, eq_self, reduceCtorEq] at h); try exact zx))) | fail)
      exact er1 rfl ⟨rfl, rfl⟩
    · rw [if_neg (by omega)]
      refine Za (fun _ _ => Tryz.call72 _ _) Tryz.func72 rfl Tryz.ntmps72 (Nat.le_of_ble_eq_true rfl) ?_; simp only [args0, Nat.reduceAdd]
      repeat' (first | refine uN ?_ | (refine uP ?_ ?_ <;> (intro h; ((try simp only [zs, ne_eq, and_true, true_and, eq_self, reduceCtorEq] at h); try exact zx))) | fail)
      exact er1 rfl ⟨rfl, rfl⟩
end Go.HL
end

/-! WoE -/
section
namespace Go.HL
open Go Go.Proofs
set_option linter.unusedVariables false
set_option linter.unusedSimpArgs false
/-- what is noted of a deal -/
def noteD (s : Int) (ph : Nat → Int) (q : List Bool × List Evt) (d : Nat) : List Bool × List Evt :=
  if q.1.getD d true = true ∨ (ph d ≠ 2 ∧ ph d ≠ 3) then q else (q.1.set d true, if q.2.length < 500 then q.2 ++ [⟨s, d, ph d⟩] else q.2)
def noteR (s : Int) (ph : Nat → Int) (q : List Bool × List Evt) (k : Nat) : List Bool × List Evt := (List.range k).foldl (noteD s ph) q
def phOf (j : Jn) (d : Nat) : Int := (j.l.getD d zeroE).s.ph
def noteN (s : Int) (m : Nd) (ev : List Evt) : List Bool × List Evt := match m.site with
  | none => (m.done, ev)
  | some (j, _) => noteR s (phOf j) (m.done, ev) 6
theorem noteR_succ (s : Int) (ph : Nat → Int) (q : List Bool × List Evt) (k : Nat) : noteR s ph q (k + 1) = noteD s ph (noteR s ph q k) k := by
  unfold noteR
  rw [List.range_succ, List.foldl_append]
  rfl
theorem noteD_len {s : Int} {ph : Nat → Int} {q : List Bool × List Evt} {d : Nat} : (noteD s ph q d).1.length = q.1.length := by
  unfold noteD; split <;> simp
theorem noteD_ev {s : Int} {ph : Nat → Int} {q : List Bool × List Evt} {d : Nat} (h : q.2.length ≤ 500) : (noteD s ph q d).2.length ≤ 500 := by
  unfold noteD
  split
  · exact h
  · simp only
    split
    · simp; omega
    · exact h
theorem noteR_len {s : Int} {ph : Nat → Int} {q : List Bool × List Evt} : ∀ k, (noteR s ph q k).1.length = q.1.length
  | 0 => rfl
  | k + 1 => by rw [noteR_succ, noteD_len, noteR_len k]
theorem noteR_ev {s : Int} {ph : Nat → Int} {q : List Bool × List Evt} (h : q.2.length ≤ 500) : ∀ k, (noteR s ph q k).2.length ≤ 500
  | 0 => h
  | k + 1 => by rw [noteR_succ]; exact noteD_ev (noteR_ev h k)
theorem ndL_len {sv : Value} {bp : Nat} {lv : List Value} {dn : List Bool} (h : lv.length = 6) : ([sv, pt bp 0] ++ lv).length = 8 := by simp [h]
theorem ndL_done {sv : Value} {bp : Nat} {lv : List Value} {dn : List Bool} {d : Nat} {b : Bool} (hl : lv.length = 6) (h : dn[d]? = some b) : (ndL sv bp lv dn)[0 + 8 + (d : Int).toNat * 1]? = some (.bool b) := by
  rw [ndL, List.getElem?_append_right (by rw [ndL_len (dn := dn) (bp := bp) (sv := sv) hl]; omega), ndL_len (dn := dn) (bp := bp) (sv := sv) hl]
  rw [show 0 + 8 + (d : Int).toNat * 1 - 8 = d by omega, List.getElem?_map, h]
  rfl
theorem ndL_putD {sv : Value} {bp : Nat} {lv : List Value} {dn : List Bool} {d : Nat} (b : Bool) (hl : lv.length = 6) (h : d < dn.length) : Puts (ndL sv bp lv dn) (0 + 8 + (d : Int).toNat * 1) [.bool b] (ndL sv bp lv (dn.set d b)) := by
  have e : ndL sv bp lv (dn.set d b) = (ndL sv bp lv dn).set (0 + 8 + (d : Int).toNat * 1) (.bool b) := by
    rw [ndL, ndL, List.set_append_right _ _ (by rw [ndL_len (dn := dn) (bp := bp) (sv := sv) hl]; omega), ndL_len (dn := dn) (bp := bp) (sv := sv) hl, List.map_set]
    rw [show 0 + 8 + (d : Int).toNat * 1 - 8 = d by omega]
  rw [e]
  refine puts_set ?_
  rw [ndL, List.length_append, ndL_len (dn := dn) (bp := bp) (sv := sv) hl, List.length_map]
  omega
set_option maxHeartbeats 2000000 attribute [local irreducible] HW HO HQ HD HC QOp Has Upd Puts Gets seqQ blkQ loopQ fnQ actQ nextP unQ MapF
attribute [local irreducible] ndL jcells noteD
/-- State, of a site that is seen -/
theorem sstateH_calls (sp bj mb bp : Nat) (id : Int) (j : Jn) (d : Nat) (L : Heap) (h1 : Has L sp (.cells ⟨[pt bj 0, iv id, .map (some mb)]⟩ 187)) (h2 : Has L bj (.cells ⟨jcells bp j⟩ 261)) (hl : j.l.length = 6) (hd : d < 6) :
    HC Tryz.prog 143 [pt sp 0, iv d] L (fun v L' => v = .tuple ⟨[.agg ⟨sc (j.l.getD d zeroE).s⟩, .nilIface]⟩ ∧ L' = L) := by
  have kg : ∀ c : List Blk, HC _ _ _ (c :: L) _ := fun c => getOk_calls bj bp j d (c :: L) (Zd h2) hl hd
  refine Za (fun _ _ => Tryz.call143 _ _) Tryz.func143 rfl Tryz.ntmps143 (Nat.le_of_ble_eq_true rfl) ?_; simp only [args0, Nat.reduceAdd]
  repeat' (first | refine uN ?_ | refine uC (kg _) ?_ | (refine uB ?_; intro b) | fail)
  exact sp2 (LS.c (LS.refl _)) ⟨rfl, rfl⟩ (hx := rcell S (hg := Zb rfl (Zb rfl (Zb rfl gets_nil))))
/-- what is seen of a site -/
structure SiIn (L : Heap) (g : NdG) (id : Int) (j : Jn) : Prop where
  si : Has L g.sp (.cells ⟨[pt g.bj 0, iv id, .map (some g.mb)]⟩ 187)
  jn : Has L g.bj (.cells ⟨jcells g.bp j⟩ 261)
/-- the place of a node's pointer -/
structure NpIn (L : Heap) (nv : Value) (n : Nat) (s : Int) (np : Nat) : Prop where
  at_ : ∃ b i l F fr cap, nv = sl b i n cap ∧ Has L b (.cells ⟨l⟩ F fr) ∧ l[i + s.toNat]? = some (pt np 0)
  lo : 0 ≤ s
  hi : s < n
theorem wnote_calls (G : WdG) (s : Int) (g : NdG) (m : Nd) (ev : List Evt) (n : Nat) (L : Heap) (hv : Vec 81 3 ec G.ev ev G.ec) (hl : ev.length ≤ 500) (hp : NpIn L G.nv n s g.np) (hd : m.done.length = 6) (hlv : (ldVs g m).length = 6)
    (hs : ∀ j ref, m.site = some (j, ref) → SiIn L g s j ∧ j.l.length = 6) : HC Tryz.prog 101 [pt G.wp 0, iv s] ([(G.wp, wdO G)] :: G.ec :: ndB g m :: L)
    (fun v L' => ∃ evv c, Vec 81 3 ec evv (noteN s m ev).2 c ∧ v = .tuple ⟨[]⟩ ∧ L' = [(G.wp, wdO { G with ev := evv, ec := c })] :: c :: ndB g { m with done := (noteN s m ev).1 } :: L) := by
  obtain ⟨wp, wv, wc, nv, nc, mb, es, ck, lv, lc, evv, evc, nd⟩ := G
  simp only at hv hp
  obtain ⟨⟨b, i, l, F, fr, cap, rfl, hb, hg⟩, h0, h1⟩ := hp
  obtain ⟨pl, site, leads, done⟩ := m
  simp only at hd hs
  simp only [wdO, ndB, ndO]
  cases site with
  | none =>
    have g0 : (ndL (.pointer none) g.bp (ldVs g ⟨pl, none, leads, done⟩) done)[0 + 0]? = some (.pointer none) := ndL_pre rfl
    simp only [noteN, stV]
    refine Za (fun _ _ => Tryz.call101 _ _) Tryz.func101 rfl Tryz.ntmps101 (Nat.le_of_ble_eq_true rfl) ?_; simp only [args0, Nat.reduceAdd]
    repeat' (first | refine uN ?_ | refine g_k S ?_ | refine g_w S ?_ | (refine uB ?_; intro b) | (refine uP ?_ ?_ <;> (intro h; ((try simp only [zs, ne_eq, and_true, true_and, eq_self, reduceCtorEq] at h); try exact zx))) | refine da 101 ?_ | fail)
    exact er0 rfl ⟨_, _, hv, rfl, rfl⟩
  | some q =>
    obtain ⟨j, ref⟩ := q
    obtain ⟨⟨hsi, hjn⟩, hjl⟩ := hs j ref rfl
    have g0 : ∀ dn, (ndL (pt g.sp 0) g.bp (ldVs g ⟨pl, some (j, ref), leads, done⟩) dn)[0 + 0]? = some (pt g.sp 0) := fun dn => ndL_pre rfl
    have hlv2 : ∀ dn, (ldVs g ⟨pl, some (j, ref), leads, dn⟩) = (ldVs g ⟨pl, some (j, ref), leads, done⟩) := fun dn => rfl
    generalize hLV : ldVs g ⟨pl, some (j, ref), leads, done⟩ = LV at g0 hlv hlv2
    simp only [noteN, stV]
    have g00 := g0 done
    refine Za (fun _ _ => Tryz.call101 _ _) Tryz.func101 rfl Tryz.ntmps101 (Nat.le_of_ble_eq_true rfl) ?_; simp only [args0, Nat.reduceAdd]
    repeat' (first | refine uN ?_ | refine g_k S ?_ | refine g_w S ?_ | (refine uB ?_; intro b) | (refine uP ?_ ?_ <;> (intro h; ((try simp only [zs, ne_eq, and_true, true_and, eq_self, reduceCtorEq] at h); try exact zx))) | refine da 101 ?_ | fail)
    refine Zf (σ := Nat × (Value × List Blk)) (fun q => [(0, pt wp 0), (1, iv s), (4, pt g.np 0), (20, iv q.1)])
      (fun q => [(wp, .cells ⟨[wv, sl b i n cap, .map (some mb), lv, q.2.1]⟩ 110)] :: q.2.2 :: [(g.np, .cells ⟨ndL (pt g.sp 0) g.bp LV (noteR s (phOf j) (done, ev) q.1).1⟩ 122)] :: L)
      (fun q => q.1 ≤ 6 ∧ Vec 81 3 ec q.2.1 (noteR s (phOf j) (done, ev) q.1).2 q.2.2) (fun q => 6 - q.1) (0, evv, evc) uS (List.Sublist.refl _) ⟨by simp, hv⟩ ?_
    rintro ⟨d, ev1, c1⟩ ⟨hd6, hv1⟩
    simp only at hd6 hv1 ⊢
    have hdl := noteR_len (s := s) (ph := phOf j) (q := (done, ev)) d
    have hel := noteR_ev (s := s) (ph := phOf j) (q := (done, ev)) hl d
    have hsucc := noteR_succ s (phOf j) (done, ev) d
    generalize hRR : noteR s (phOf j) (done, ev) d = R at *
    obtain ⟨dn, es1⟩ := R
    simp only at hdl hel hv1 ⊢
    by_cases hlt : d < 6
    · have ks : ∀ c1 c2 c3 : List Blk, HC _ _ _ (c1 :: c2 :: c3 :: L) _ := fun c1 c2 c3 => sstateH_calls g.sp g.bj g.mb g.bp s j d (c1 :: c2 :: c3 :: L) (Zd (Zd (Zd hsi))) (Zd (Zd (Zd hjn))) hjl hlt
      have g00 := g0 dn
      have hdn : dn[d]? = some (dn.getD d true) := getD_some (by omega)
      have gD := ndL_done (sv := pt g.sp 0) (bp := g.bp) (lv := LV) hlv hdn
      have gP := ndL_putD (sv := pt g.sp 0) (bp := g.bp) (lv := LV) (dn := dn) (d := d) true hlv (by omega)
      obtain ⟨a5, cap5, he5, -, -⟩ := hv1.rd ec_len
      subst he5
      have hnx : noteR s (phOf j) (done, ev) (d + 1) = noteD s (phOf j) (dn, es1) d := hsucc
      by_cases hdone : dn.getD d true = true
      · rw [hdone] at gD
        have e2 : noteD s (phOf j) (dn, es1) d = (dn, es1) := by unfold noteD; rw [if_pos (.inl hdone)]
        rw [e2] at hnx
        repeat' (first | refine uN ?_ | refine g_k S ?_ | refine g_w S ?_ | refine uC (ks _ _ _) ?_ | refine uD0 (fun _ => ks _ _ _) ?_ | refine uD1 (fun _ => ks _ _ _) ?_ | refine uD2 (fun _ => ks _ _ _) ?_ | refine uD3 (fun _ => ks _ _ _) ?_ | (refine uB ?_; intro b) | (refine uP ?_ ?_ <;> (intro h; ((try simp only [zs, ne_eq, and_true, true_and, eq_self, reduceCtorEq] at h); try exact zx))) | refine da 101 ?_ | fail)
        refine Zc (d + 1, .slice a5 es1.length cap5, c1) uS ?_ ⟨by simp only; omega, ?_⟩ (by simp only; omega)
        · rw [hnx]; exact LS.c (LS.refl _)
        · rw [hnx]; exact hv1
      · have hdf : dn.getD d true = false := by simpa using hdone
        rw [hdf] at gD
        by_cases hph : phOf j d ≠ 2 ∧ phOf j d ≠ 3
        · have e2 : noteD s (phOf j) (dn, es1) d = (dn, es1) := by unfold noteD; rw [if_pos (.inr hph)]
          rw [e2] at hnx
          unfold phOf at hph
          repeat' (first | refine uN ?_ | refine g_k S ?_ | refine g_w S ?_ | refine uC (ks _ _ _) ?_ | refine uD0 (fun _ => ks _ _ _) ?_ | refine uD1 (fun _ => ks _ _ _) ?_ | refine uD2 (fun _ => ks _ _ _) ?_ | refine uD3 (fun _ => ks _ _ _) ?_ | (refine uB ?_; intro b) | (refine uP ?_ ?_ <;> (intro h; ((try simp only [zs, ne_eq, and_true, true_and, eq_self, reduceCtorEq] at h); try exact zx))) | refine da 101 ?_ | fail)
          all_goals refine Zc (d + 1, .slice a5 es1.length cap5, c1) uS ?_ ⟨by simp only; omega, ?_⟩ (by simp only; omega)
          all_goals rw [hnx]
          all_goals first | exact hv1 | exact LS.c (LS.refl _)
        · have e2 : noteD s (phOf j) (dn, es1) d = (dn.set d true, if es1.length < 500 then es1 ++ [⟨s, d, phOf j d⟩] else es1) := by unfold noteD; rw [if_neg (by simp only [hdf]; intro h; rcases h with h | h; cases h; exact hph h)]
          rw [e2] at hnx
          have hph' := hph
          unfold phOf at hph'
          by_cases h500 : es1.length < 500
          · rw [if_pos h500] at hnx
            repeat' (first | refine uN ?_ | refine g_k S ?_ | refine g_w S ?_ | refine uC (ks _ _ _) ?_ | refine uD0 (fun _ => ks _ _ _) ?_ | refine uD1 (fun _ => ks _ _ _) ?_ | refine uD2 (fun _ => ks _ _ _) ?_ | refine uD3 (fun _ => ks _ _ _) ?_ | (refine uB ?_; intro b) | (refine uP ?_ ?_ <;> (intro h; ((try simp only [zs, ne_eq, and_true, true_and, eq_self, reduceCtorEq] at h); try exact zx))) | refine da 101 ?_ | fail)
            all_goals refine fo 3 ?_
            all_goals refine wp1 S ⟨s, d, phOf j d⟩ hv1 ec_len ec_one ?_
            all_goals intro v' c' hv'
            all_goals obtain ⟨a6, cap6, he6, -, -⟩ := hv'.rd ec_len
            all_goals subst he6
            all_goals repeat' (first | refine uN ?_ | refine g_k S ?_ | refine g_w S ?_ | refine uC (ks _ _ _) ?_ | refine uD0 (fun _ => ks _ _ _) ?_ | refine uD1 (fun _ => ks _ _ _) ?_ | refine uD2 (fun _ => ks _ _ _) ?_ | refine uD3 (fun _ => ks _ _ _) ?_ | (refine uB ?_; intro b) | (refine uP ?_ ?_ <;> (intro h; ((try simp only [zs, ne_eq, and_true, true_and, eq_self, reduceCtorEq] at h); try exact zx))) | refine da 101 ?_ | fail)
            all_goals refine Zc (d + 1, .slice a6 (es1 ++ [⟨s, d, phOf j d⟩] : List Evt).length cap6, c') uS ?_ ⟨by simp only; omega, ?_⟩ (by simp only; omega)
            all_goals rw [hnx]
            all_goals first | exact hv' | exact uL
          · rw [if_neg h500] at hnx
            repeat' (first | refine uN ?_ | refine g_k S ?_ | refine g_w S ?_ | refine uC (ks _ _ _) ?_ | refine uD0 (fun _ => ks _ _ _) ?_ | refine uD1 (fun _ => ks _ _ _) ?_ | refine uD2 (fun _ => ks _ _ _) ?_ | refine uD3 (fun _ => ks _ _ _) ?_ | (refine uB ?_; intro b) | (refine uP ?_ ?_ <;> (intro h; ((try simp only [zs, ne_eq, and_true, true_and, eq_self, reduceCtorEq] at h); try exact zx))) | refine da 101 ?_ | fail)
            all_goals refine Zc (d + 1, .slice a5 es1.length cap5, c1) uS ?_ ⟨by simp only; omega, ?_⟩ (by simp only; omega)
            all_goals rw [hnx]
            all_goals first | exact hv1 | exact LS.c (LS.refl _)
    · obtain rfl : d = 6 := by omega
      have hR6 : noteR s (phOf j) (done, ev) 6 = (dn, es1) := hRR
      rw [hR6]
      repeat' (first | refine uN ?_ | refine g_k S ?_ | refine g_w S ?_ | (refine uB ?_; intro b) | (refine uP ?_ ?_ <;> (intro h; ((try simp only [zs, ne_eq, and_true, true_and, eq_self, reduceCtorEq] at h); try exact zx))) | refine da 101 ?_ | fail)
      exact ee0 rfl ⟨_, _, hv1, rfl, by rw [hlv2 dn]⟩
end Go.HL
end

/-! WoF -/
section
namespace Go.HL
open Go Go.Proofs
set_option linter.unusedVariables false
set_option linter.unusedSimpArgs false
def noLeads : List (Option Ld) := List.replicate 6 none
def nil6 : List Value := List.replicate 6 (.pointer none)
theorem noLeads_vs : ∀ (ld : List (Nat × Value × List Blk)), ld.length = 6 → List.zipWith ldV noLeads ld = nil6
  | [_, _, _, _, _, _], _ => rfl
/-- a node's fields -/
theorem ndL_put0 {sv sv' : Value} {bp : Nat} {lv : List Value} {dn : List Bool} : Puts (ndL sv bp lv dn) (0 + 0) [sv'] (ndL sv' bp lv dn) := by
  have : ndL sv' bp lv dn = (ndL sv bp lv dn).set (0 + 0) sv' := rfl
  rw [this]
  exact puts_set (by simp [ndL])
theorem ndL_putL {sv : Value} {bp : Nat} {lv lv' : List Value} {dn : List Bool} (h : lv'.length = lv.length) : Puts (ndL sv bp lv dn) (0 + 2) lv' (ndL sv bp lv' dn) := by
  have key := puts_mid (l := ndL sv bp lv dn) (i := 0 + 2) (vs := lv') (by rw [ndL, h]; simp; omega)
  have e : (ndL sv bp lv dn).take (0 + 2) ++ lv' ++ (ndL sv bp lv dn).drop (0 + 2 + lv'.length) = ndL sv bp lv' dn := by
    rw [h]
    have e1 : (ndL sv bp lv dn).drop (0 + 2 + lv.length) = dn.map Value.bool := by
      rw [ndL]
      have : 0 + 2 + lv.length = ([sv, pt bp 0] ++ lv).length := by simp; omega
      rw [this, List.drop_left]
    rw [e1]
    simp [ndL]
  rw [e] at key
  exact key
theorem ndL_lead {sv : Value} {bp : Nat} {lv : List Value} {dn : List Bool} {d : Nat} {v : Value} (h : lv[d]? = some v) : (ndL sv bp lv dn)[0 + 2 + (d : Int).toNat * 1]? = some v := by
  have hlt : d < lv.length := (List.getElem?_eq_some_iff.1 h).1
  rw [ndL, List.append_assoc, List.getElem?_append_right (by simp <;> omega), List.getElem?_append_left (by simp <;> omega)]
  rw [show 0 + 2 + (d : Int).toNat * 1 - [sv, pt bp 0].length = d by simp <;> omega]
  exact h
theorem ndL_put1 {sv : Value} {bp : Nat} {lv : List Value} {dn : List Bool} {d : Nat} (v : Value) (h : d < lv.length) : Puts (ndL sv bp lv dn) (0 + 2 + (d : Int).toNat * 1) [v] (ndL sv bp (lv.set d v) dn) := by
  have e : ndL sv bp (lv.set d v) dn = (ndL sv bp lv dn).set (0 + 2 + (d : Int).toNat * 1) v := by
    rw [ndL, ndL, List.append_assoc, List.append_assoc, List.set_append_right _ _ (by simp <;> omega), List.set_append_left _ _ (by simp <;> omega)]
    rw [show 0 + 2 + (d : Int).toNat * 1 - [sv, pt bp 0].length = d by simp <;> omega]
  rw [e]
  refine puts_set ?_
  simp [ndL]
  omega
set_option maxHeartbeats 2000000 attribute [local irreducible] HW HO HQ HD HC QOp Has Upd Puts Gets seqQ blkQ loopQ fnQ actQ nextP unQ MapF
attribute [local irreducible] ndL jcells plC siteM
theorem wfall_calls (g : NdG) (m : Nd) (L : Heap) (hl : (ldVs g m).length = 6) (hd : g.ld.length = 6) : HC Tryz.prog 99 [pt g.np 0] (ndB g m :: L) (fun v L' => v = .tuple ⟨[]⟩ ∧ L' = ndB g { m with site := none, leads := noLeads } :: L) := by
  have e : ldVs g { m with site := none, leads := noLeads } = nil6 := noLeads_vs _ hd
  simp only [ndB, ndO, e, stV]
  have p0 := ndL_put0 (sv := stV g m.site) (sv' := .pointer none) (bp := g.bp) (lv := ldVs g m) (dn := m.done)
  have p1 := ndL_putL (sv := .pointer none) (bp := g.bp) (lv := ldVs g m) (lv' := nil6) (dn := m.done) (by rw [hl]; rfl)
  refine Za (fun _ _ => Tryz.call99 _ _) Tryz.func99 rfl Tryz.ntmps99 (Nat.le_of_ble_eq_true rfl) ?_; simp only [args0, Nat.reduceAdd]
  repeat' (first | refine uN ?_)
  exact ee0 rfl ⟨rfl, rfl⟩
def hearNd (s : Int) (m : Nd) (ev : List Evt) (f : Fr) : Nd × List Evt × List Fr × Bool := match m.site with
  | none => (m, ev, [], false)
  | some (j, ref) => if (siteM s ref m.pl j f).1.off then (⟨(siteM s ref m.pl j f).1, none, noLeads, m.done⟩, ev, [], false)
    else (⟨(siteM s ref m.pl j f).1, some ((siteM s ref m.pl j f).2.1, ref), m.leads, (noteN s ⟨(siteM s ref m.pl j f).1, some ((siteM s ref m.pl j f).2.1, ref), m.leads, m.done⟩ ev).1⟩,
      (noteN s ⟨(siteM s ref m.pl j f).1, some ((siteM s ref m.pl j f).2.1, ref), m.leads, m.done⟩ ev).2, (siteM s ref m.pl j f).2.2.1, (siteM s ref m.pl j f).2.2.2.isNone)
theorem NpIn.cons {L : Heap} {nv : Value} {n : Nat} {s : Int} {np : Nat} (h : NpIn L nv n s np) (c : List Blk) : NpIn (c :: L) nv n s np := by
  obtain ⟨⟨b, i, l, F, fr, cap, h1, h2, h3⟩, h4, h5⟩ := h
  exact ⟨⟨b, i, l, F, fr, cap, h1, Zd h2, h3⟩, h4, h5⟩
/-- what a call to hear leaves -/
def HearQ (G : WdG) (s : Int) (g : NdG) (m : Nd) (ref : Int → Bool) (ev : List Evt) (r : Pl × Jn × List Fr × Option Nat) (L : Heap) (v : Value) (L' : Heap) : Prop :=
  if r.1.off then v = .tuple ⟨[nilS, .bool false]⟩ ∧ L' = [(G.wp, wdO G)] :: G.ec :: ndB g ⟨r.1, none, noLeads, m.done⟩ :: plC g.bp g.ba r.1 :: L
  else ∃ fv c evv c2, FrVec fv r.2.2.1 c ∧ Vec 81 3 ec evv (noteN s ⟨r.1, some (r.2.1, ref), m.leads, m.done⟩ ev).2 c2 ∧ v = .tuple ⟨[fv, .bool r.2.2.2.isNone]⟩ ∧
    L' = [(G.wp, wdO { G with ev := evv, ec := c2 })] :: c2 :: ndB g ⟨r.1, some (r.2.1, ref), m.leads, (noteN s ⟨r.1, some (r.2.1, ref), m.leads, m.done⟩ ev).1⟩ :: siC g.sp g.bj g.mb s :: mpC g.mb g.es g.ck :: plC g.bp g.ba r.1 :: jC g.bj g.bp r.2.1 :: c :: L
theorem whear_calls (T : Nat) (E : Nat → Addr) (G : WdG) (s : Int) (g : NdG) (m : Nd) (f : Fr) (ev : List Evt) (n : Nat) (j : Jn) (ref : Int → Bool) (L : Heap) (hG : Er T E [2, 3, 5, 6] L) (hp : NpIn L G.nv n s g.np) (hv : Vec 81 3 ec G.ev ev G.ec) (hl : ev.length ≤ 500)
    (hN : NdOk g m) (w : List Int) (sn : Nat) (hI : NdI w sn m) (hs : m.site = some (j, ref)) (hj' : (siteM s ref m.pl j f).2.1.l.length = 6) : HC Tryz.prog 75 [pt G.wp 0, iv s, .agg ⟨fc f⟩] ([(G.wp, wdO G)] :: G.ec :: ndB g m :: siC g.sp g.bj g.mb s :: mpC g.mb g.es g.ck :: plC g.bp g.ba m.pl :: jC g.bj g.bp j :: L)
    (HearQ G s g m ref ev (siteM s ref m.pl j f) L) := by
  have hF := hN.map j ref hs
  have hj := (hI.jn hs).ji.jn
  have kh := fun L hG => shear_calls T E g.sp g.bj g.mb g.bp g.ba s g.es g.ck ref m.pl j f L hG hF hI.pl hj
  generalize siteM s ref m.pl j f = r at kh hj' ⊢
  obtain ⟨pl', j', fs, er⟩ := r
  simp only at kh hj' ⊢
  have hlvs : ∀ x, (ldVs g ⟨pl', x, m.leads, m.done⟩).length = 6 := fun x => by simp [ldVs, hI.leads, hN.ld]
  have hlvs0 : (ldVs g m).length = 6 := by simp [ldVs, hI.leads, hN.ld]
  have hpw := power_calls g.bp g.ba pl'
  have kf := fun L => wfall_calls g m L hlvs0 hN.ld
  unfold HearQ
  obtain ⟨pl, site, leads, done⟩ := m
  simp only at hs kh kf hlvs ⊢
  subst hs
  obtain ⟨wp, wv, wc, nv, nc, mb, es, ck, lv, lc, evv, evc, nd⟩ := G
  simp only at hv hp ⊢
  have hp0 := hp
  obtain ⟨⟨nb, i, l, F, fr, cap, rfl, hb, hg⟩, h0, h1⟩ := hp
  have g0 : (ndL (pt g.sp 0) g.bp (ldVs g ⟨pl, some (j, ref), leads, done⟩) done)[0 + 0]? = some (pt g.sp 0) := ndL_pre rfl
  have g1 : (ndL (pt g.sp 0) g.bp (ldVs g ⟨pl, some (j, ref), leads, done⟩) done)[0 + 1]? = some (pt g.bp 0) := ndL_pre rfl
  simp only [wdO, ndB, ndO, stV] at kf ⊢
  cases hoff : pl'.off with
  | true =>
    simp only [if_true]
    rw [hoff] at hpw
    refine Za (fun _ _ => Tryz.call75 _ _) Tryz.func75 rfl Tryz.ntmps75 (Nat.le_of_ble_eq_true rfl) ?_; simp only [args0, Nat.reduceAdd]
    repeat' (first | refine uN ?_ | refine g_d S ?_ | (refine uB ?_; intro b) | (refine uP ?_ ?_ <;> (intro h; ((try simp only [zs, ne_eq, and_true, true_and, eq_self, reduceCtorEq] at h); try exact zx))) | refine da 101 ?_ | fail)
    refine fo 7 ?_
    refine fo 7 ?_
    refine fo 7 ?_
    refine fo 7 ?_
    refine gc (kh _ ?_) ?_
    · exact ((((hG.cons _).cons _).cons _).cons _)
    rintro v L' ⟨fv, c, rfl, hfv, rfl⟩
    repeat' (first | refine uN ?_ | refine g_d S ?_ | refine g_q (qC (hq1 (hpw) 2)) ?_ | refine uD0 (fun _ => hq1 (hpw) 2) ?_ | refine uD1 (fun _ => hq1 (hpw) 2) ?_ | refine uD2 (fun _ => hq1 (hpw) 2) ?_ | refine uD3 (fun _ => hq1 (hpw) 2) ?_ | (refine uB ?_; intro b) | (refine uP ?_ ?_ <;> (intro h; ((try simp only [zs, ne_eq, and_true, true_and, eq_self, reduceCtorEq] at h); try exact zx))) | refine da 101 ?_ | fail)
    refine fo 8 ?_
    refine gc (kf _) ?_
    rintro v L' ⟨rfl, rfl⟩
    repeat' (first | refine uN ?_ | refine g_d S ?_ | (refine uB ?_; intro b) | (refine uP ?_ ?_ <;> (intro h; ((try simp only [zs, ne_eq, and_true, true_and, eq_self, reduceCtorEq] at h); try exact zx))) | refine da 101 ?_ | fail)
    exact sp2 (L' := [(wp, .cells ⟨[wv, sl nb i n cap, .map (some mb), lv, evv]⟩ 110)] :: evc :: ndB g ⟨pl', none, noLeads, done⟩ :: plC g.bp g.ba pl' :: L) (by simp only [ndB, ndO]; exact uL) ⟨rfl, rfl⟩
  | false =>
    simp only [Bool.false_eq_true, if_false]
    rw [hoff] at hpw
    have hkn := fun (M1 : Nd) (hM : M1 = ⟨pl', some (j', ref), leads, done⟩) (G1 : WdG) (hG1 : G1 = ⟨wp, wv, wc, sl nb i n cap, nc, mb, es, ck, lv, lc, evv, evc, nd⟩) L (hq : NpIn L (sl nb i n cap) n s g.np) (hsi : SiIn L g s j') => wnote_calls G1 s g M1 ev n L (by subst hG1; exact hv) hl (by subst hG1; exact hq) (by subst hM; exact hI.done) (by subst hM; exact hlvs _) (by subst hM; intro j2 r2 h2; cases h2; exact ⟨hsi, hj'⟩)
    have hkn := fun L hq hsi => hkn _ rfl _ rfl L hq hsi
    simp only [wdO, ndB, ndO, stV] at hkn
    refine Za (fun _ _ => Tryz.call75 _ _) Tryz.func75 rfl Tryz.ntmps75 (Nat.le_of_ble_eq_true rfl) ?_; simp only [args0, Nat.reduceAdd]
    repeat' (first | refine uN ?_ | refine g_d S ?_ | (refine uB ?_; intro b) | (refine uP ?_ ?_ <;> (intro h; ((try simp only [zs, ne_eq, and_true, true_and, eq_self, reduceCtorEq] at h); try exact zx))) | refine da 101 ?_ | fail)
    refine fo 7 ?_
    refine fo 7 ?_
    refine fo 7 ?_
    refine fo 7 ?_
    refine gc (kh _ ?_) ?_
    · exact ((((hG.cons _).cons _).cons _).cons _)
    rintro v L' ⟨fv, c, rfl, hfv, rfl⟩
    repeat' (first | refine uN ?_ | refine g_d S ?_ | refine g_q (qC (hq1 (hpw) 2)) ?_ | refine uD0 (fun _ => hq1 (hpw) 2) ?_ | refine uD1 (fun _ => hq1 (hpw) 2) ?_ | refine uD2 (fun _ => hq1 (hpw) 2) ?_ | refine uD3 (fun _ => hq1 (hpw) 2) ?_ | (refine uB ?_; intro b) | (refine uP ?_ ?_ <;> (intro h; ((try simp only [zs, ne_eq, and_true, true_and, eq_self, reduceCtorEq] at h); try exact zx))) | refine da 101 ?_ | fail)
    refine fo 8 ?_
    refine fo 8 ?_
    refine fo 8 ?_
    refine gc (hkn _ ?_ ?_) ?_
    · exact (((((((⟨⟨nb, i, l, F, fr, cap, rfl, hb, hg⟩, h0, h1⟩ : NpIn L (sl nb i n cap) n s g.np).cons _).cons _).cons _).cons _).cons _).cons _)
    · exact ⟨Zh, Zd (Zd (Zd Zh))⟩
    rintro v L' ⟨evv', c2, hv2, rfl, rfl⟩
    obtain ⟨af, capf, rfl, -, -⟩ := hfv.rd fc_len
    cases er with
    | none =>
      repeat' (first | refine uN ?_ | refine g_d S ?_ | (refine uB ?_; intro b) | (refine uP ?_ ?_ <;> (intro h; ((try simp only [zs, ne_eq, and_true, true_and, eq_self, reduceCtorEq] at h); try exact zx))) | refine da 101 ?_ | fail)
      exact sp2 uL ⟨_, _, _, _, hfv, hv2, rfl, rfl⟩
    | some x =>
      repeat' (first | refine uN ?_ | refine g_d S ?_ | (refine uB ?_; intro b) | (refine uP ?_ ?_ <;> (intro h; ((try simp only [zs, ne_eq, and_true, true_and, eq_self, reduceCtorEq] at h); try exact zx))) | refine da 101 ?_ | fail)
      exact sp2 uL ⟨_, _, _, _, hfv, hv2, rfl, rfl⟩
end Go.HL
end

/-! PlR -/
section
namespace Go.HL
open Go Go.Proofs
set_option linter.unusedVariables false
set_option linter.unusedSimpArgs false
set_option maxHeartbeats 2000000 attribute [local irreducible] HW HO HQ HD HC QOp Has Upd Puts Gets seqQ blkQ loopQ fnQ actQ nextP unQ MapF
end Go.HL
end

/-! ErD1 -/
section
namespace Go.HL
open Go Go.Proofs
set_option linter.unusedVariables false
set_option linter.unusedSimpArgs false
set_option maxHeartbeats 2000000 attribute [local irreducible] HW HO HQ HD HC QOp Has Upd Puts Gets seqQ blkQ loopQ fnQ actQ nextP unQ MapF
end Go.HL
end

/-! PlC -/
section
namespace Go.HL
open Go Go.Proofs
set_option linter.unusedVariables false
set_option linter.unusedSimpArgs false
/-- two blocks asked for, wherever they lie -/
theorem hcHas2 {P : Program} {F : Nat} {args : List Value} {b c : Nat} {o q : Obj} {V : Value} (h : ∀ L, HC P F args ([(b, o), (c, q)] :: L) (fun v L' => v = V ∧ L' = [(b, o), (c, q)] :: L)) (hne : (c, q) ≠ (b, o)) {L : Heap} (hb : Has L b o) (hc : Has L c q) : HC P F args L (fun v L' => v = V ∧ L' = L) := by
  obtain ⟨l1, l2, e⟩ := List.append_of_mem hb
  have hm : (c, q) ∈ l1 ++ l2 := by
    have : (c, q) ∈ l1 ++ (b, o) :: l2 := e ▸ hc
    simp only [List.mem_append, List.mem_cons] at this ⊢
    rcases this with h | h | h
    · exact .inl h
    · exact absurd h hne
    · exact .inr h
  obtain ⟨m1, m2, e2⟩ := List.append_of_mem hm
  have hp : List.Perm L.flatten ([(b, o), (c, q)] :: [m1 ++ m2]).flatten := by
    rw [e]
    simp only [List.flatten_cons, List.flatten_nil, List.append_nil, List.cons_append, List.nil_append]
    refine List.perm_middle.trans (.cons _ ?_)
    rw [e2]
    exact List.perm_middle
  exact ⟨(h []).1, fun k w hs => ((h [m1 ++ m2]).2 k w (hs.sp (LS.of_perm hp.symm))).mono fun e w' ⟨v, L', he, hs', hv, hL⟩ => ⟨v, L, he, (hL ▸ hs').sp (LS.of_perm hp), hv, rfl⟩⟩
def plB (bp ba : Nat) (m : Pl) : Blk := (bp, .cells ⟨[sl ba 0 m.b.length m.b.length, .bool m.off, iv m.cut]⟩ 181)
def plD (ba : Nat) (m : Pl) : Blk := (ba, .cells ⟨m.b.map u8⟩ 5)
theorem bytes_has (bp ba : Nat) (m : Pl) (L : Heap) (h : ∀ p ∈ [plB bp ba m, plD ba m], Has L p.1 p.2) : HC Tryz.prog 123 [pt bp 0] L (fun v L' => v = bs m.b ∧ L' = L) :=
  hcHas2 (bytes_calls bp ba m) (by simp) (h (plB bp ba m) (by simp)) (h (plD ba m) (by simp))
section dt
variable {P : Program} (S : Tab P) {n : Nat} {ops : List Oper} {Q : Exit → Env → Heap → Prop} {Ss : List (Nat × Blk)} {rem rem' : List (Nat × Oper)} {ρ : Env} {L : Heap} {ty : TypeId} {pos : String} {af : Array Edge} {g : Option (Nat × Bool)} {d i : Nat}
end dt
set_option maxHeartbeats 2000000 attribute [local irreducible] HW HO HQ HD HC QOp Has Upd Puts Gets seqQ blkQ loopQ fnQ actQ nextP unQ MapF
attribute [local irreducible] plC zeros plB plD
end Go.HL
end

/-! WoG -/
section
namespace Go.HL
open Go Go.Proofs
set_option linter.unusedVariables false
set_option linter.unusedSimpArgs false
/-- a deal's state by a plate -/
def plSt (m : Pl) (d : Int) : St := ((openM m.b).getD d.toNat zeroE).s
def wstateE (M : Wm) (s d : Int) : Option Nat := match nodeE M s with
  | some e => some e
  | none => if d < 0 ∨ 6 ≤ d then some 2 else none
def wstate (M : Wm) (s d : Int) : St := match wstateE M s d with
  | some _ => zeroS
  | none => plSt (ndAt M s).pl d
theorem openM_six (b : List UInt8) : (openM b).length = 6 := by simp [openM]
theorem WdIn.cons {L : Heap} {G : WdG} {M : Wm} (h : WdIn L G M) (c : List Blk) : WdIn (c :: L) G M := by
  obtain ⟨h1, ⟨a2, c2, e2, r2⟩, ⟨a3, c3, e3, r3⟩, ⟨a4, c4, e4, r4⟩, h5⟩ := h
  exact ⟨Zd h1, ⟨a2, c2, e2, r2.cons c⟩, ⟨a3, c3, e3, r3.cons c⟩, ⟨a4, c4, e4, r4.cons c⟩, h5⟩
set_option maxHeartbeats 2000000 attribute [local irreducible] HW HO HQ HD HC QOp Has Upd Puts Gets seqQ blkQ loopQ fnQ actQ nextP unQ MapF
attribute [local irreducible] ndL jcells plC openM
theorem wstate_calls (T : Nat) (E : Nat → Addr) (G : WdG) (M : Wm) (s d : Int) (L : Heap) (hG : Er T E [2, 6] L) (hI : WdIn L G M) (hl : G.nd.length = M.n.length) (hN : nodeE M s = none → Has L (npAt G s).np (ndO (npAt G s) (ndAt M s)))
    (hP : nodeE M s = none → 216 ≤ (ndAt M s).pl.b.length ∧ (ndAt M s).pl.b.length ≤ 512 ∧ ∀ p ∈ [plB (npAt G s).bp (npAt G s).ba (ndAt M s).pl, plD (npAt G s).ba (ndAt M s).pl], Has L p.1 p.2) :
    HC Tryz.prog 68 [pt G.wp 0, iv s, iv d] L (fun v L' => v = .tuple ⟨[.agg ⟨sc (wstate M s d)⟩, eV T E (wstateE M s d)]⟩ ∧ L' = L) := by
  have kn := fun L hG hI => wnode_calls T E G M s L hG hI hl
  unfold wstate wstateE
  rcases node_cases (M := M) s with he | ⟨he, h0, h1⟩
  · simp only [he] at kn ⊢
    refine Za (fun _ _ => Tryz.call68 _ _) Tryz.func68 rfl Tryz.ntmps68 (Nat.le_of_ble_eq_true rfl) ?_; simp only [args0, Nat.reduceAdd]
    repeat' (first | refine uN ?_ | refine g_q (qC (kn _ (hG.sub.cons _) (hI.cons _))) ?_ | (refine uB ?_; intro b) | (refine uP ?_ ?_ <;> (intro h; ((try simp only [zs, ne_eq, and_true, true_and, eq_self, reduceCtorEq] at h); try exact zx))) | fail)
    exact sp2 (LS.c (LS.refl _)) ⟨rfl, rfl⟩ (hx := rcell S (hg := Zb rfl (Zb rfl (Zb rfl gets_nil))))
  · have hN' := hN he
    obtain ⟨hp1, hp2, hp3⟩ := hP he
    simp only [he] at kn ⊢
    generalize ndAt M s = m at hN' hp1 hp2 hp3 ⊢
    generalize hg : npAt G s = g at hN' hp3 kn
    have hbh : ∀ c : List Blk, ∀ p ∈ [plB g.bp g.ba m.pl, plD g.ba m.pl], Has (c :: L) p.1 p.2 := fun c p hp => Zd (hp3 p hp)
    unfold ndO at hN'
    have g1 : (ndL (stV g m.site) g.bp (ldVs g m) m.done)[0 + 1]? = some (pt g.bp 0) := ndL_pre rfl
    refine Za (fun _ _ => Tryz.call68 _ _) Tryz.func68 rfl Tryz.ntmps68 (Nat.le_of_ble_eq_true rfl) ?_; simp only [args0, Nat.reduceAdd]
    repeat' (first | refine uN ?_ | refine g_q (qC (kn _ (hG.sub.cons _) (hI.cons _))) ?_ | refine g_q (qC (bytes_has g.bp g.ba m.pl _ (hbh _))) ?_ | (refine uB ?_; intro b) | (refine uP ?_ ?_ <;> (intro h; ((try simp only [zs, ne_eq, and_true, true_and, eq_self, reduceCtorEq] at h); try exact zx))) | fail)
    refine gc (from_calls T E m.pl.b _ (hG.sub.cons _) (by omega)) ?_
    simp only [if_pos hp2]
    rintro v L' ⟨bp, ba, rfl, rfl⟩
    repeat' (first | refine uN ?_ | refine g_q (qC (kn _ (hG.sub.cons _) (hI.cons _))) ?_ | (refine uB ?_; intro b) | (refine uP ?_ ?_ <;> (intro h; ((try simp only [zs, ne_eq, and_true, true_and, eq_self, reduceCtorEq] at h); try exact zx))) | fail)
    refine gc (open_calls T E bp ba _ _ (hG.cons _) (by simp only; omega)) ?_
    have hnl : ¬ (m.pl.b.length < 216) := by omega
    simp only [if_neg hnl, Bool.false_eq_true, if_false]
    rintro v L' ⟨bj, rfl, rfl⟩
    repeat' (first | refine uN ?_ | refine g_q (qC (kn _ (hG.sub.cons _) (hI.cons _))) ?_ | (refine uB ?_; intro b) | (refine uP ?_ ?_ <;> (intro h; ((try simp only [zs, ne_eq, and_true, true_and, eq_self, reduceCtorEq] at h); try exact zx))) | fail)
    refine gc (get_calls T E bj bp _ d _ ((hG.sub.cons _).cons _) (openM_six _)) ?_
    by_cases hd : d < 0 ∨ 6 ≤ d
    · simp only [if_pos hd]
      rintro v L' ⟨rfl, rfl⟩
      repeat' (first | refine uN ?_ | refine g_q (qC (kn _ (hG.sub.cons _) (hI.cons _))) ?_ | (refine uB ?_; intro b) | (refine uP ?_ ?_ <;> (intro h; ((try simp only [zs, ne_eq, and_true, true_and, eq_self, reduceCtorEq] at h); try exact zx))) | fail)
      exact sp2 (LS.c (LS.c (LS.c (LS.refl _)))) ⟨rfl, rfl⟩ (hx := rcell S (hg := Zb rfl (Zb rfl (Zb rfl gets_nil))))
    · simp only [if_neg hd]
      rintro v L' ⟨rfl, rfl⟩
      repeat' (first | refine uN ?_ | refine g_q (qC (kn _ (hG.sub.cons _) (hI.cons _))) ?_ | (refine uB ?_; intro b) | (refine uP ?_ ?_ <;> (intro h; ((try simp only [zs, ne_eq, and_true, true_and, eq_self, reduceCtorEq] at h); try exact zx))) | fail)
      exact sp2 (LS.c (LS.c (LS.c (LS.refl _)))) ⟨rfl, rfl⟩ (hx := rcell S (hg := Zb rfl (Zb rfl (Zb rfl gets_nil))))
end Go.HL
end

/-! WoM -/
section
namespace Go.HL
open Go Go.Proofs
set_option linter.unusedVariables false
set_option linter.unusedSimpArgs false
def setN (M : Wm) (s : Int) (m : Nd) : Wm := { M with n := M.n.set s.toNat m }
def isBusy (d : Int) (m : Nd) : Bool := decide (plSt m.pl d ≠ zeroS) || (m.leads.getD d.toNat none).isSome
def beginW (M : Wm) (s d : Int) : Wm × Option Nat :=
  if d < 0 ∨ 6 ≤ d ∨ s < 0 ∨ M.n.length ≤ s then (M, some 2) else
  match upE M s with
  | some e => (M, some e)
  | none => if M.n.any (isBusy d) then (M, some 8) else
    ({ setN M s { ndAt M s with leads := (ndAt M s).leads.set d.toNat (some (newLd s d M.w 0 2)) } with l := M.l ++ startM (newLd s d M.w 0 2) }, none)
def refuseN (m : Nd) (d : Int) : Nd := match m.site with
  | none => m
  | some (j, ref) => { m with site := some (j, fun x => if x = d then true else ref x) }
def refuseW (M : Wm) (s d : Int) : Wm × Option Nat :=
  if d < 0 ∨ 6 ≤ d then (M, some 2) else
  match upE M s with
  | some e => (M, some e)
  | none => (setN M s (refuseN (ndAt M s) d), none)
def hearW (M : Wm) (s : Int) (f : Fr) : Wm × List Fr × Bool :=
  ({ setN M s (hearNd s (ndAt M s) M.ev f).1 with ev := (hearNd s (ndAt M s) M.ev f).2.1 }, (hearNd s (ndAt M s) M.ev f).2.2)
/-- a lead hears some frames -/
def hearsM (m : Ld) (l : List Fr) : Ld × List Fr := l.foldl (fun q f => ((hearM q.1 f).1, q.2 ++ (hearM q.1 f).2)) (m, [])
def tryAbove (m : Nd) (d promise : Int) : Int := match m.leads.getD d.toNat none with
  | none => promise
  | some x => max promise x.seen
def tryAtt (k s a : Int) : Int := a + (s - a) % k
def tryF (s d a : Int) : Fr := ⟨s, s, d, 3, a, false, zeroS⟩
def tryW (M : Wm) (s d promise : Int) : Wm × Bool :=
  let a := tryAtt M.w.length s (tryAbove (ndAt M s) d promise + 1)
  if 1048576 < a then (M, true) else
  let r := hearW M s (tryF s d a)
  if r.2.2 = false then (r.1, false) else
  let q := hearsM (newLd s d M.w a 4) r.2.1
  ({ setN r.1 s { ndAt r.1 s with leads := (ndAt r.1 s).leads.set d.toNat (some q.1) } with l := r.1.l ++ startM (newLd s d M.w a 4) ++ q.2 }, true)
def decideF (M : Wm) (s : Int) (d : Int) (st : St) : List Fr := (List.range M.w.length).map fun (i : Nat) => (⟨s, (i : Int), d, 7, st.pr, false, ⟨st.ph, 0, 0⟩⟩ : Fr)
/-- a deal's part of a tick; false: the site has fallen -/
def tickD (s : Int) (q : Wm × Bool) (d : Nat) : Wm × Bool :=
  if q.2 = false then q else
  match (ndAt q.1 s).site with
  | none => (q.1, false)
  | some (j, _) =>
    if stAt j d = zeroS then q else
    if (stAt j d).ph = 2 ∨ (stAt j d).ph = 3 then ({ q.1 with l := q.1.l ++ decideF q.1 s d (stAt j d) }, true) else
    tryW q.1 s d (stAt j d).pr
def tickW (M : Wm) (s : Int) : Wm × Option Nat := match upE M s with
  | some e => (M, some e)
  | none => (((List.range 6).foldl (tickD s) (M, true)).1, none)
def linkP (f : Fr) : Int × Int := (min f.fr f.to, max f.fr f.to)
def deliverW (M : Wm) (k : Int) : Wm × Option Nat := match wat M k with
  | some e => (M, some e)
  | none =>
    let f := M.l.getD k.toNat zeroF
    let M1 : Wm := { M with l := M.l.eraseIdx k.toNat }
    if (ndAt M1 f.to).site.isNone ∨ M.br (linkP f) = true then (M1, none) else
    if f.kd = 2 ∨ f.kd = 4 ∨ f.kd = 6 then
      match (ndAt M1 f.to).leads.getD f.dl.toNat none with
      | none => (M1, none)
      | some x => ({ setN M1 f.to { ndAt M1 f.to with leads := (ndAt M1 f.to).leads.set f.dl.toNat (some (hearM x f).1) } with l := M1.l ++ (hearM x f).2 }, none)
    else ({ (hearW M1 f.to f).1 with l := M1.l ++ (hearW M1 f.to f).2.1 }, none)
def dropW (M : Wm) (k : Int) : Wm × Option Nat := match wat M k with
  | some e => (M, some e)
  | none => ({ M with l := M.l.eraseIdx k.toNat }, none)
def twiceW (M : Wm) (k : Int) : Wm × Option Nat := match wat M k with
  | some e => (M, some e)
  | none => ({ M with l := M.l.take (k + 1).toNat ++ M.l.getD k.toNat zeroF :: M.l.drop (k + 1).toNat }, none)
def linkW (M : Wm) (a b : Int) (whole : Bool) : Wm × Option Nat :=
  if a < 0 ∨ M.n.length ≤ a ∨ b < 0 ∨ M.n.length ≤ b then (M, some 2) else
  ({ M with br := fun x => if x = (min a b, max a b) then (!whole && decide (a ≠ b)) else M.br x }, none)
def cutW (M : Wm) (s n : Int) : Wm × Option Nat :=
  if n < 0 then (M, some 2) else
  match upE M s with
  | some e => (M, some e)
  | none => (setN M s { ndAt M s with pl := { (ndAt M s).pl with cut := n } }, none)
def downN (m : Nd) : Nd := ⟨{ m.pl with off := true }, none, noLeads, m.done⟩
def downW (M : Wm) (s : Int) : Wm × Option Nat := match upE M s with
  | some e => (M, some e)
  | none => (setN M s (downN (ndAt M s)), none)
/-- a node that comes up: it is told nothing yet -/
def bootN (m : Nd) : Nd := ⟨{ m.pl with off := false, cut := -1 }, some (⟨openM m.pl.b, false⟩, fun _ => false), m.leads, m.done⟩
def upW (M : Wm) (s : Int) : Wm × Option Nat := match nodeE M s with
  | some e => (M, some e)
  | none => if (ndAt M s).site.isSome then (M, some 8) else
    ({ setN M s { bootN (ndAt M s) with done := (noteN s (bootN (ndAt M s)) M.ev).1 } with ev := (noteN s (bootN (ndAt M s)) M.ev).2 }, none)
def leadW (M : Wm) (s d : Int) : List UInt8 × Option Nat :=
  if s < 0 ∨ M.n.length ≤ s ∨ d < 0 ∨ 6 ≤ d then ([], some 2) else
  match (ndAt M s).leads.getD d.toNat none with
  | none => ([110, 111, 110, 101], none)
  | some x => (x.state, none)
def newNd : Nd := ⟨⟨zeros 512, false, -1⟩, some (⟨openM (zeros 512), false⟩, fun _ => false), noLeads, List.replicate 6 false⟩
def newW (w : List Int) : Wm := ⟨w, List.replicate w.length newNd, fun _ => false, [], []⟩
end Go.HL
end

/-! WoN -/
section
namespace Go.HL
open Go Go.Proofs
set_option linter.unusedVariables false
set_option linter.unusedSimpArgs false
def siS (g : NdG) (i : Int) : Option (Jn × (Int → Bool)) → List Blk
  | none => []
  | some _ => siC g.sp g.bj g.mb i
def siN (g : NdG) : Option (Jn × (Int → Bool)) → List Blk
  | none => []
  | some _ => mpC g.mb g.es g.ck
def siJ (g : NdG) : Option (Jn × (Int → Bool)) → List Blk
  | none => []
  | some (j, _) => jC g.bj g.bp j
theorem siB_cut (g : NdG) (i : Int) (s : Option (Jn × (Int → Bool))) : siB g i s = siS g i s ++ (siN g s ++ siJ g s) := by
  rcases s with _ | ⟨j, r⟩
  · rfl
  · simp [siB, siS, siN, siJ]
/-- a world opened at a node; X: the other nodes -/
def wdOp (G : WdG) (s : Int) (g : NdG) (m : Nd) (X : List Blk) (L : Heap) : Heap :=
  [(G.wp, wdO G)] :: G.ec :: ndB g m :: siS g s m.site :: siN g m.site :: plC g.bp g.ba m.pl :: siJ g m.site :: ldBs g m :: G.lc :: G.wc :: G.nc :: [(G.mb, .map ⟨G.es⟩ G.ck)] :: X :: L
theorem wdOp_cut (G : WdG) (s : Int) (g : NdG) (m : Nd) (X : List Blk) (L : Heap) : (wdT G ++ [ndA g s m ++ X] ++ L).flatten = ([(G.wp, wdO G)] :: G.wc :: G.nc :: [(G.mb, .map ⟨G.es⟩ G.ck)] :: G.lc :: G.ec :: ndB g m :: plC g.bp g.ba m.pl :: siS g s m.site :: siN g m.site :: siJ g m.site :: ldBs g m :: X :: L).flatten := by
  simp only [wdT, ndA, siB_cut, List.flatten_cons, List.flatten_append, List.cons_append, List.nil_append, List.append_assoc, List.flatten_nil, List.append_nil]
theorem wdOp_ls (G : WdG) (s : Int) (g : NdG) (m : Nd) (X : List Blk) (L : Heap) : LS (wdOp G s g m X L).flatten (wdT G ++ [ndA g s m ++ X] ++ L).flatten := by
  rw [wdOp_cut, wdOp]
  exact uL
theorem wdOp_sl (G : WdG) (s : Int) (g : NdG) (m : Nd) (X : List Blk) (L : Heap) : LS (wdT G ++ [ndA g s m ++ X] ++ L).flatten (wdOp G s g m X L).flatten := by
  rw [wdOp_cut, wdOp]
  exact uL
theorem toNat_zero_add {s : Int} (h : 0 ≤ s) : ((0 + s.toNat : Nat) : Int) = s := by omega
theorem nds_flat {gs : List NdG} {ms : List Nd} {s : Int} {g : NdG} {m : Nd} (h0 : 0 ≤ s) (hg : gs[s.toNat]? = some g) (hm : ms[s.toNat]? = some m) (T : Heap) (L : Heap) : List.Perm (T ++ [ndsB gs ms 0] ++ L).flatten (T ++ [ndA g s m ++ ndsX gs ms 0 s.toNat] ++ L).flatten := by
  have := nds_open (i := 0) hg hm
  rw [toNat_zero_add h0] at this
  simp only [List.flatten_append, List.flatten_cons, List.flatten_nil, List.append_nil]
  exact (this.append_left _).append_right _
theorem wd_open {G : WdG} {M : Wm} {s : Int} (hl : G.nd.length = M.n.length) (h0 : 0 ≤ s) (h1 : s < M.n.length) (L : Heap) : LS (wdOp G s (npAt G s) (ndAt M s) (ndsX G.nd M.n 0 s.toNat) L).flatten (wdH G M ++ L).flatten := by
  have hg : G.nd[s.toNat]? = some (npAt G s) := getD_some (by omega)
  have hm : M.n[s.toNat]? = some (ndAt M s) := getD_some (by omega)
  refine LS.trans (wdOp_ls _ _ _ _ _ _) (LS.of_perm ?_)
  exact (nds_flat h0 hg hm (wdT G) L).symm
theorem wd_close {G : WdG} {gs : List NdG} {ms : List Nd} {s : Int} {g : NdG} {m : Nd} (h0 : 0 ≤ s) (h1 : s.toNat < gs.length) (h2 : s.toNat < ms.length) (L : Heap) : LS (wdT G ++ [ndsB (gs.set s.toNat g) (ms.set s.toNat m) 0] ++ L).flatten (wdOp G s g m (ndsX gs ms 0 s.toNat) L).flatten := by
  have hg : (gs.set s.toNat g)[s.toNat]? = some g := by simp [h1]
  have hm : (ms.set s.toNat m)[s.toNat]? = some m := by simp [h2]
  refine LS.trans (LS.of_perm (nds_flat h0 hg hm (wdT G) L)) ?_
  rw [nds_set]
  exact wdOp_sl _ _ _ _ _ _
/-- what is one node's is seen -/
theorem wd_has {G : WdG} {M : Wm} {s : Int} (hl : G.nd.length = M.n.length) (h0 : 0 ≤ s) (h1 : s < M.n.length) {b : Nat} {o : Obj} (hb : (b, o) ∈ ndA (npAt G s) s (ndAt M s)) (L : Heap) : Has (ndsB G.nd M.n 0 :: L) b o := by
  have hg : G.nd[s.toNat]? = some (npAt G s) := getD_some (by omega)
  have hm : M.n[s.toNat]? = some (ndAt M s) := getD_some (by omega)
  have := nds_open (i := 0) hg hm
  rw [toNat_zero_add h0] at this
  unfold Has
  rw [List.flatten_cons]
  exact List.mem_append_left _ (this.mem_iff.2 (List.mem_append_left _ hb))
theorem wd_hasN {G : WdG} {M : Wm} {s : Int} (hl : G.nd.length = M.n.length) (h0 : 0 ≤ s) (h1 : s < M.n.length) (L : Heap) : Has (ndsB G.nd M.n 0 :: L) (npAt G s).np (ndO (npAt G s) (ndAt M s)) :=
  wd_has hl h0 h1 (by simp [ndA, ndB]) L
theorem wdOk_at {G : WdG} {M : Wm} (h : WdOk G M) {s : Int} (h0 : 0 ≤ s) (h1 : s < M.n.length) : NdOk (npAt G s) (ndAt M s) := by
  have hl := h.ndl
  exact h.nd s.toNat _ _ (getD_some (by omega)) (getD_some (by omega))
theorem wi_at {M : Wm} (h : WI M) {s : Int} (h0 : 0 ≤ s) (h1 : s < M.n.length) : NdI M.w s.toNat (ndAt M s) := h.nd s.toNat _ (getD_some (by omega))
/-- a world's memory, changed -/
theorem WdOk.setL {G : WdG} {M : Wm} (h : WdOk G M) {lv : Value} {lc : List Blk} {l : List Fr} (hv : FrVec lv l lc) : WdOk { G with lv := lv, lc := lc } { M with l := l } := ⟨h.w, h.nodes, h.ndl, h.br, hv, h.ev, h.nd⟩
theorem WdOk.setE {G : WdG} {M : Wm} (h : WdOk G M) {ev : Value} {c : List Blk} {l : List Evt} (hv : Vec 81 3 ec ev l c) : WdOk { G with ev := ev, ec := c } { M with ev := l } := ⟨h.w, h.nodes, h.ndl, h.br, h.l, hv, h.nd⟩
theorem WdOk.setB {G : WdG} {M : Wm} (h : WdOk G M) {es : List MapEntry} {ck : Nat} {f : Int × Int → Bool} (hv : MapF pk es f) : WdOk { G with es := es, ck := ck } { M with br := f } := ⟨h.w, h.nodes, h.ndl, hv, h.l, h.ev, h.nd⟩
theorem WdOk.put {G : WdG} {M : Wm} (h : WdOk G M) {s : Int} {g : NdG} {m : Nd} (h0 : 0 ≤ s) (h1 : s < M.n.length) (hn : NdOk g m) (hp : g.np = (npAt G s).np) : WdOk { G with nd := G.nd.set s.toNat g } (setN M s m) := by
  have hl := h.ndl
  have e : (G.nd.set s.toNat g).map (·.np) = G.nd.map (·.np) := by
    rw [List.map_set, hp]
    have hg : G.nd[s.toNat]? = some (npAt G s) := getD_some (by omega)
    refine List.ext_getElem? fun i => ?_
    rw [List.getElem?_set]
    split
    · rename_i hi
      subst hi
      rw [if_pos (by simp; omega), List.getElem?_map, hg]
      rfl
    · rfl
  refine ⟨h.w, by simp only [e]; exact h.nodes, by simp [setN, hl], h.br, h.l, h.ev, fun q g1 m1 hq1 hq2 => ?_⟩
  simp only [setN, List.getElem?_set] at hq1 hq2
  by_cases hq : s.toNat = q
  · rw [if_pos hq] at hq1 hq2
    split at hq1
    · split at hq2
      · cases hq1; cases hq2; exact hn
      · cases hq2
    · cases hq1
  · rw [if_neg hq] at hq1 hq2
    exact h.nd q g1 m1 hq1 hq2
theorem nps_set {G : WdG} {s : Int} {g : NdG} (h0 : 0 ≤ s) (h1 : s < G.nd.length) (hp : g.np = (npAt G s).np) : (G.nd.set s.toNat g).map (·.np) = G.nd.map (·.np) := by
  rw [List.map_set, hp]
  have hg : G.nd[s.toNat]? = some (npAt G s) := getD_some (by omega)
  refine List.ext_getElem? fun i => ?_
  rw [List.getElem?_set]
  split
  · rename_i hi
    subst hi
    rw [if_pos (by simp; omega), List.getElem?_map, hg]
    rfl
  · rfl
/-- a world behind a call -/
def WdP (G : WdG) (M' : Wm) (L L' : Heap) : Prop := ∃ G', G'.wp = G.wp ∧ G'.nd.map (·.np) = G.nd.map (·.np) ∧ WdOk G' M' ∧ L' = wdH G' M' ++ L
theorem wdP_self {G : WdG} {M : Wm} (h : WdOk G M) (L : Heap) : WdP G M L (wdH G M ++ L) := ⟨G, rfl, rfl, h, rfl⟩
theorem np_same {G G' : WdG} (h : G'.nd.map (·.np) = G.nd.map (·.np)) {s : Int} (h0 : 0 ≤ s) (h1 : s < G.nd.length) : (npAt G' s).np = (npAt G s).np := by
  have hl : G'.nd.length = G.nd.length := by simpa using congrArg List.length h
  have e1 : G'.nd[s.toNat]? = some (npAt G' s) := getD_some (by omega)
  have e2 : G.nd[s.toNat]? = some (npAt G s) := getD_some (by omega)
  have := congrArg (fun l => l[s.toNat]?) h
  simp only [List.getElem?_map, e1, e2, Option.map_some, Option.some.injEq] at this
  exact this
theorem HC.node {F : Nat} {args : List Value} {G : WdG} {M M' : Wm} {s : Int} {L : Heap} {V : Value → Prop} (h : WdOk G M) (h0 : 0 ≤ s) (h1 : s < M.n.length)
    (k : HC Tryz.prog F args (wdOp G s (npAt G s) (ndAt M s) (ndsX G.nd M.n 0 s.toNat) L) (fun v L' => V v ∧ ∃ G' M1 g' m', WdOk G' M1 ∧ G'.nd = G.nd ∧ M1.n = M.n ∧ G'.wp = G.wp ∧ NdOk g' m' ∧ g'.np = (npAt G s).np ∧ M' = setN M1 s m' ∧ L' = wdOp G' s g' m' (ndsX G.nd M.n 0 s.toNat) L)) :
    HC Tryz.prog F args (wdH G M ++ L) (fun v L' => V v ∧ WdP G M' L L') := by
  have hl := h.ndl
  refine HC.post (HC.sp k (wd_open hl h0 h1 L)) ?_
  rintro v L' ⟨hv, G', M1, g', m', hW, e1, e2, e3, hN, e4, rfl, rfl⟩
  have hnp : g'.np = (npAt G' s).np := by rw [e4]; unfold npAt; rw [e1]
  refine ⟨wdH { G' with nd := G'.nd.set s.toNat g' } (setN M1 s m') ++ L, ?_, hv, { G' with nd := G'.nd.set s.toNat g' }, e3, ?_, hW.put h0 (by rw [e2]; exact h1) hN hnp, rfl⟩
  · simp only [wdH, setN, e1, e2]
    exact wd_close (G := G') h0 (by omega) (by omega) L
  · simp only
    rw [← e1]
    exact nps_set h0 (by rw [e1]; omega) hnp
theorem HC.nodeC {F : Nat} {args : List Value} {G : WdG} {M M' : Wm} {s : Int} {L : Heap} {V : Value → List Blk → Prop} (h : WdOk G M) (h0 : 0 ≤ s) (h1 : s < M.n.length)
    (k : HC Tryz.prog F args (wdOp G s (npAt G s) (ndAt M s) (ndsX G.nd M.n 0 s.toNat) L) (fun v L' => ∃ c, V v c ∧ ∃ G' M1 g' m', WdOk G' M1 ∧ G'.nd = G.nd ∧ M1.n = M.n ∧ G'.wp = G.wp ∧ NdOk g' m' ∧ g'.np = (npAt G s).np ∧ M' = setN M1 s m' ∧ L' = wdOp G' s g' m' (ndsX G.nd M.n 0 s.toNat) (c :: L))) :
    HC Tryz.prog F args (wdH G M ++ L) (fun v L' => ∃ c, V v c ∧ WdP G M' (c :: L) L') := by
  have hl := h.ndl
  refine HC.post (HC.sp k (wd_open hl h0 h1 L)) ?_
  rintro v L' ⟨c, hv, G', M1, g', m', hW, e1, e2, e3, hN, e4, rfl, rfl⟩
  have hnp : g'.np = (npAt G' s).np := by rw [e4]; unfold npAt; rw [e1]
  refine ⟨wdH { G' with nd := G'.nd.set s.toNat g' } (setN M1 s m') ++ (c :: L), ?_, c, hv, { G' with nd := G'.nd.set s.toNat g' }, e3, ?_, hW.put h0 (by rw [e2]; exact h1) hN hnp, rfl⟩
  · simp only [wdH, setN, e1, e2]
    exact wd_close (G := G') h0 (by omega) (by omega) _
  · simp only
    rw [← e1]
    exact nps_set h0 (by rw [e1]; omega) hnp
theorem NdOk.fall {g : NdG} {m : Nd} (h : NdOk g m) (pl : Pl) (dn : List Bool) : NdOk g ⟨pl, none, noLeads, dn⟩ := by
  refine ⟨h.ld, fun d x hx => ?_, fun j ref hs => by cases hs⟩
  simp only [noLeads, List.getElem?_replicate] at hx
  split at hx <;> cases hx
theorem NdOk.same {g : NdG} {m : Nd} (h : NdOk g m) {j : Jn} {ref : Int → Bool} (hs : m.site = some (j, ref)) (pl : Pl) (j' : Jn) (dn : List Bool) : NdOk g ⟨pl, some (j', ref), m.leads, dn⟩ :=
  ⟨h.ld, h.lok, fun j2 r2 e => by cases e; exact h.map j ref hs⟩
theorem npIn_of {G : WdG} {M : Wm} (h : WdOk G M) {s : Int} (h0 : 0 ≤ s) (h1 : s < M.n.length) {H : Heap} (hH : ∀ b o, (b, o) ∈ G.nc → Has H b o) : NpIn H G.nv M.n.length s (npAt G s).np := by
  have hl := h.ndl
  obtain ⟨a, cap, hnv, -, hR⟩ := h.nodes.rd pc_len
  have hR2 := (hR []).mono (L' := H) fun b o hb => hH b o (by simpa [Has] using hb)
  obtain ⟨b, i, l, F, fr, rfl, hb, hg⟩ := hR2.at1 (j := s) h0 (by simp; omega)
  refine ⟨⟨b, i, l, F, fr, cap, by rw [hnv, List.length_map, hl], hb, ?_⟩, h0, h1⟩
  have e : (G.nd.map (·.np))[s.toNat]'(by simp; omega) = (npAt G s).np := by
    rw [List.getElem_map]
    unfold npAt
    rw [List.getD, List.getElem?_eq_getElem (by omega)]
    rfl
  rw [e] at hg
  exact hg 0 _ rfl
set_option maxHeartbeats 2000000 attribute [local irreducible] HW HO HQ HD HC QOp Has Upd Puts Gets seqQ blkQ loopQ fnQ actQ nextP unQ MapF
attribute [local irreducible] ndL jcells plC siteM
theorem whearW_calls (T : Nat) (E : Nat → Addr) (G : WdG) (M : Wm) (s : Int) (f : Fr) (L : Heap) (hG : Er T E [2, 3, 5, 6] L) (h : WdOk G M) (hI : WI M) (h0 : 0 ≤ s) (h1 : s < M.n.length) (hs : (ndAt M s).site ≠ none) :
    HC Tryz.prog 75 [pt G.wp 0, iv s, .agg ⟨fc f⟩] (wdH G M ++ L) (fun v L' => ∃ c, (∃ fv, FrVec fv (hearW M s f).2.1 c ∧ v = .tuple ⟨[fv, .bool (hearW M s f).2.2]⟩) ∧ WdP G (hearW M s f).1 (c :: L) L') := by
  refine HC.nodeC h h0 h1 ?_
  have hN := wdOk_at h h0 h1
  have hi := wi_at hI h0 h1
  have hn := hI.wn
  have hnp := npIn_of h h0 h1 (H := ldBs (npAt G s) (ndAt M s) :: G.lc :: G.wc :: G.nc :: [(G.mb, .map ⟨G.es⟩ G.ck)] :: ndsX G.nd M.n 0 s.toNat :: L) fun b o hb => Zd (Zd (Zd (has_mem hb)))
  unfold hearW hearNd
  generalize hm : ndAt M s = m at *
  cases hsi : m.site with
  | none => exact absurd hsi hs
  | some q =>
    obtain ⟨j, ref⟩ := q
    have hsj := site_any (id := s) (ref := ref) (hi.jn hsi) f
    have hj6 : (siteM s ref m.pl j f).2.1.l.length = 6 := hsj.1.ji.jn.len
    have kh := whear_calls T E G s (npAt G s) m f M.ev M.n.length j ref (ldBs (npAt G s) m :: G.lc :: G.wc :: G.nc :: [(G.mb, .map ⟨G.es⟩ G.ck)] :: ndsX G.nd M.n 0 s.toNat :: L) ((((((hG.cons _).cons _).cons _).cons _).cons _).cons _) hnp h.ev hI.evl hN M.w s.toNat hi hsi hj6
    have ew : wdOp G s (npAt G s) m (ndsX G.nd M.n 0 s.toNat) L = [(G.wp, wdO G)] :: G.ec :: ndB (npAt G s) m :: siC (npAt G s).sp (npAt G s).bj (npAt G s).mb s :: mpC (npAt G s).mb (npAt G s).es (npAt G s).ck :: plC (npAt G s).bp (npAt G s).ba m.pl :: jC (npAt G s).bj (npAt G s).bp j :: (ldBs (npAt G s) m :: G.lc :: G.wc :: G.nc :: [(G.mb, .map ⟨G.es⟩ G.ck)] :: ndsX G.nd M.n 0 s.toNat :: L) := by
      unfold wdOp; rw [hsi]; rfl
    rw [ew]
    refine HC.post kh ?_
    intro v L' hq
    unfold HearQ at hq
    simp only
    split at hq
    · rename_i hoff
      obtain ⟨rfl, rfl⟩ := hq
      refine ⟨wdOp G s (npAt G s) ⟨(siteM s ref m.pl j f).1, none, noLeads, m.done⟩ (ndsX G.nd M.n 0 s.toNat) ([] :: L), ?_, [], ?_, G, M, npAt G s, _, h, rfl, rfl, rfl, hN.fall _ _, rfl, ?_, rfl⟩
      · simp only [wdOp, siS, siN, siJ]
        have : ldBs (npAt G s) ⟨(siteM s ref m.pl j f).1, none, noLeads, m.done⟩ = [] := by
          unfold ldBs noLeads
          have := hN.ld
          obtain ⟨a, b, c, d, e, f, hh⟩ : ∃ a b c d e f, (npAt G s).ld = [a, b, c, d, e, f] := by
            match (npAt G s).ld, this with
            | [a, b, c, d, e, f], _ => exact ⟨_, _, _, _, _, _, rfl⟩
          rw [hh]; rfl
        rw [this]
        exact uL
      · rw [if_pos hoff]
        exact ⟨_, vec_nil, rfl⟩
      · rw [if_pos hoff]; rfl
    · rename_i hoff
      obtain ⟨fv, c, evv, c2, hfv, hev, rfl, rfl⟩ := hq
      refine ⟨wdOp { G with ev := evv, ec := c2 } s (npAt G s) ⟨(siteM s ref m.pl j f).1, some ((siteM s ref m.pl j f).2.1, ref), m.leads, (noteN s ⟨(siteM s ref m.pl j f).1, some ((siteM s ref m.pl j f).2.1, ref), m.leads, m.done⟩ M.ev).1⟩ (ndsX G.nd M.n 0 s.toNat) (c :: L), ?_, c, ?_, { G with ev := evv, ec := c2 }, _, npAt G s, _, h.setE hev, rfl, rfl, rfl, hN.same hsi _ _ _, rfl, ?_, rfl⟩
      · simp only [wdOp, siS, siN, siJ]
        exact uL
      · rw [if_neg hoff]
        exact ⟨_, hfv, rfl⟩
      · rw [if_neg hoff]; rfl
end Go.HL
end

/-! WoO -/
section
namespace Go.HL
open Go Go.Proofs
set_option linter.unusedVariables false
set_option linter.unusedSimpArgs false
theorem LS.mem {a b : List Blk} (h : LS a b) {x : Blk} (hx : x ∈ a) : x ∈ b := by
  obtain ⟨l, h1, h2⟩ := h
  exact h2.subset (h1.mem_iff.2 hx)
theorem wd_in {G : WdG} {M : Wm} (h : WdOk G M) (L : Heap) : WdIn (wdH G M ++ L) G M := wdIn h fun b o hb => by
  unfold Has wdH at *
  rw [List.append_assoc, List.flatten_append]
  exact List.mem_append_left _ hb
theorem wdOp_in {G : WdG} {M : Wm} (h : WdOk G M) (s : Int) (g : NdG) (m : Nd) (X : List Blk) (L : Heap) : WdIn (wdOp G s g m X L) G M := wdIn h fun b o hb => by
  unfold Has at *
  refine (wdOp_sl G s g m X L).mem ?_
  rw [List.append_assoc, List.flatten_append]
  exact List.mem_append_left _ hb
theorem wd_hasW {G : WdG} {M : Wm} {s : Int} (hl : G.nd.length = M.n.length) (h0 : 0 ≤ s) (h1 : s < M.n.length) (L : Heap) : Has (wdH G M ++ L) (npAt G s).np (ndO (npAt G s) (ndAt M s)) := by
  have := wd_hasN hl h0 h1 L
  unfold Has wdH at *
  rw [List.append_assoc, List.flatten_append]
  exact List.mem_append_right _ this
theorem wdOp_has {G : WdG} {s : Int} {g : NdG} {m : Nd} {X : List Blk} {L : Heap} : Has (wdOp G s g m X L) g.np (ndO g m) := by
  unfold wdOp ndB
  exact Zd (Zd Zh)
def upV (G : WdG) (M : Wm) (s : Int) : Value := match nodeE M s with
  | some _ => .pointer none
  | none => pt (npAt G s).np 0
theorem up_node {M : Wm} {s : Int} (h : upE M s = none) : nodeE M s = none ∧ 0 ≤ s ∧ s < M.n.length ∧ ∃ j ref, (ndAt M s).site = some (j, ref) := by
  unfold upE at h
  rcases node_cases (M := M) s with he | ⟨he, h0, h1⟩
  · rw [he] at h; cases h
  · rw [he] at h
    refine ⟨he, h0, h1, ?_⟩
    cases hs : (ndAt M s).site with
    | none => rw [hs] at h; cases h
    | some q => exact ⟨q.1, q.2, rfl⟩
theorem upV_up {G : WdG} {M : Wm} {s : Int} (h : nodeE M s = none) : upV G M s = pt (npAt G s).np 0 := by unfold upV; rw [h]
theorem ldVs_at {g : NdG} {m : Nd} {d : Nat} {o : Option Ld} {q : Nat × Value × List Blk} (h1 : m.leads[d]? = some o) (h2 : g.ld[d]? = some q) : (ldVs g m)[d]? = some (ldV o q) := by
  unfold ldVs
  rw [List.getElem?_zipWith, h1, h2]
theorem ldBs_mem {g : NdG} {m : Nd} {d : Nat} {x : Ld} {q : Nat × Value × List Blk} (h1 : m.leads[d]? = some (some x)) (h2 : g.ld[d]? = some q) {y : Blk} (hy : y ∈ ldC q.1 q.2.1 q.2.2 x) : y ∈ ldBs g m := by
  unfold ldBs
  refine List.mem_flatten.2 ⟨ldC q.1 q.2.1 q.2.2 x, ?_, hy⟩
  refine List.mem_iff_getElem?.2 ⟨d, ?_⟩
  rw [List.getElem?_zipWith, h1, h2]
  rfl
set_option maxHeartbeats 2000000 attribute [local irreducible] HW HO HQ HD HC QOp Has Upd Puts Gets seqQ blkQ loopQ fnQ actQ nextP unQ MapF
attribute [local irreducible] ndL jcells plC siteM ldL
theorem lstateH (lp : Nat) (wv : Value) (m : Ld) (L : Heap) (h : Has L lp (.cells ⟨ldL wv m⟩ 193)) : HC Tryz.prog 77 [pt lp 0] L (fun v L' => v = bs m.state ∧ L' = L) := hcHas (fun L => lstate_calls lp wv [] m L) h
theorem lseenH (lp : Nat) (wv : Value) (m : Ld) (L : Heap) (ht : m.told.length = 7) (h : Has L lp (.cells ⟨ldL wv m⟩ 193)) : HC Tryz.prog 191 [pt lp 0] L (fun v L' => v = iv m.seen ∧ L' = L) := hcHas (fun L => lseen_calls lp wv [] m L ht) h
theorem wupv_calls (T : Nat) (E : Nat → Addr) (G : WdG) (M : Wm) (s : Int) (L : Heap) (hG : Er T E [2, 6] L) (hI : WdIn L G M) (hl : G.nd.length = M.n.length) (hN : nodeE M s = none → Has L (npAt G s).np (ndO (npAt G s) (ndAt M s))) :
    HC Tryz.prog 66 [pt G.wp 0, iv s] L (fun v L' => v = .tuple ⟨[upV G M s, eV T E (upE M s)]⟩ ∧ L' = L) := by
  have k := wup_calls T E G M s L hG hI hl hN
  unfold upV
  rcases node_cases (M := M) s with he | ⟨he, h0, h1⟩
  · have : upE M s = some 2 := by unfold upE; rw [he]
    simp only [he, this] at k ⊢
    exact k
  · simp only [he] at k ⊢
    exact k
theorem wlead_calls (T : Nat) (E : Nat → Addr) (G : WdG) (M : Wm) (s d : Int) (L : Heap) (hG : Er T E [2] L) (hW : WdOk G M) (hM : WI M) :
    HC Tryz.prog 25 [pt G.wp 0, iv s, iv d] (wdH G M ++ L) (fun v L' => v = .tuple ⟨[bs (leadW M s d).1, eV T E (leadW M s d).2]⟩ ∧ L' = wdH G M ++ L) := by
  have hl := hW.ndl
  have hI := wd_in hW L
  have hG' : Er T E [2] (wdH G M ++ L) := by
    unfold wdH wdT
    exact ((((((hG.cons _).cons _).cons _).cons _).cons _).cons _).cons _
  have kn := wnode_calls T E G M s _ hG' hI hl
  have hAt : ∀ (h0 : 0 ≤ s) (h1 : s < M.n.length), Has (wdH G M ++ L) (npAt G s).np (ndO (npAt G s) (ndAt M s)) := fun h0 h1 => wd_hasW hl h0 h1 L
  have hB : ∀ (h0 : 0 ≤ s) (h1 : s < M.n.length) {b : Nat} {o : Obj}, (b, o) ∈ ndA (npAt G s) s (ndAt M s) → Has (wdH G M ++ L) b o := fun h0 h1 {b o} hb => by
    have := wd_has hl h0 h1 hb L
    unfold Has wdH at *
    rw [List.append_assoc, List.flatten_append]
    exact List.mem_append_right _ this
  generalize wdH G M ++ L = H at *
  unfold leadW
  rcases node_cases (M := M) s with he | ⟨he, h0, h1⟩
  · have h2 : s < 0 ∨ ↑M.n.length ≤ s ∨ d < 0 ∨ 6 ≤ d := by
      unfold nodeE at he
      split at he
      · omega
      · cases he
    simp only [if_pos h2, he] at kn ⊢
    refine Za (fun _ _ => Tryz.call25 _ _) Tryz.func25 rfl Tryz.ntmps25 (Nat.le_of_ble_eq_true rfl) ?_; simp only [args0, Nat.reduceAdd]
    repeat' (first | refine uN ?_ | refine g_k S ?_ | refine uC (kn) ?_ | (refine uP ?_ ?_ <;> (intro h; ((try simp only [zs, ne_eq, and_true, true_and, eq_self, reduceCtorEq] at h); try exact zx))) | fail)
    exact er2 rfl ⟨rfl, rfl⟩
  · simp only [he] at kn
    by_cases hd : d < 0 ∨ 6 ≤ d
    · have h2 : s < 0 ∨ ↑M.n.length ≤ s ∨ d < 0 ∨ 6 ≤ d := .inr (.inr hd)
      simp only [if_pos h2]
      refine Za (fun _ _ => Tryz.call25 _ _) Tryz.func25 rfl Tryz.ntmps25 (Nat.le_of_ble_eq_true rfl) ?_; simp only [args0, Nat.reduceAdd]
      repeat' (first | refine uN ?_ | refine g_k S ?_ | refine uC (kn) ?_ | (refine uP ?_ ?_ <;> (intro h; ((try simp only [zs, ne_eq, and_true, true_and, eq_self, reduceCtorEq] at h); try exact zx))) | fail)
      all_goals exact er2 rfl ⟨rfl, rfl⟩
    · have h2 : ¬ (s < 0 ∨ ↑M.n.length ≤ s ∨ d < 0 ∨ 6 ≤ d) := by omega
      simp only [if_neg h2]
      have hN := hAt h0 h1
      have hok := wdOk_at hW h0 h1
      have hni := wi_at hM h0 h1
      have hBB := fun {b o} => hB h0 h1 (b := b) (o := o)
      generalize ndAt M s = m at *
      generalize hg : npAt G s = g at *
      obtain ⟨dn, rfl⟩ := Int.eq_ofNat_of_zero_le (show 0 ≤ d by omega)
      have hd6 : dn < 6 := by omega
      simp only [Int.toNat_natCast]
      have hm1 : m.leads[dn]? = some (m.leads.getD dn none) := getD_some (by rw [hni.leads]; exact hd6)
      obtain ⟨q, hq⟩ : ∃ q, g.ld[dn]? = some q := ⟨_, List.getElem?_eq_getElem (by rw [hok.ld]; exact hd6)⟩
      have hv := ldVs_at hm1 hq
      unfold ndO at hN
      have gL := ndL_lead (sv := stV g m.site) (bp := g.bp) (dn := m.done) hv
      cases hx : m.leads.getD dn none with
      | none =>
        rw [hx] at gL
        simp only [ldV] at gL
        refine Za (fun _ _ => Tryz.call25 _ _) Tryz.func25 rfl Tryz.ntmps25 (Nat.le_of_ble_eq_true rfl) ?_; simp only [args0, Nat.reduceAdd]
        repeat' (first | refine uN ?_ | refine g_k S ?_ | refine uC (kn) ?_ | (refine uP ?_ ?_ <;> (intro h; ((try simp only [zs, ne_eq, and_true, true_and, eq_self, reduceCtorEq] at h); try exact zx))) | fail)
        exact er2 rfl ⟨rfl, rfl⟩
      | some x =>
        rw [hx] at gL hm1
        simp only [ldV] at gL
        have hLd : Has H q.1 (.cells ⟨ldL q.2.1 x⟩ 193) := hBB (by
          unfold ndA
          exact List.mem_append_right _ (ldBs_mem hm1 hq (by simp [ldC])))
        refine Za (fun _ _ => Tryz.call25 _ _) Tryz.func25 rfl Tryz.ntmps25 (Nat.le_of_ble_eq_true rfl) ?_; simp only [args0, Nat.reduceAdd]
        repeat' (first | refine uN ?_ | refine g_k S ?_ | refine uC (kn) ?_ | refine uC (lstateH q.1 q.2.1 x _ hLd) ?_ | (refine uP ?_ ?_ <;> (intro h; ((try simp only [zs, ne_eq, and_true, true_and, eq_self, reduceCtorEq] at h); try exact zx))) | fail)
        exact er2 rfl ⟨rfl, rfl⟩
end Go.HL
end
