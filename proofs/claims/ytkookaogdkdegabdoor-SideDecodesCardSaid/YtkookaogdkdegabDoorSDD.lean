/- Texts laid into one, without what the claim does not use. Conditions: none. -/
import Derived.Test.YtkookaogdkdegabDoorSDC
import Derived.Conc.EntryLaws
import Derived.LaidEql
import Derived.Stop.Asserts
/-! QSdD -/
section
namespace Go.HL
set_option linter.unusedSectionVars false
variable [Tasks]
open Go Go.Proofs
set_option linter.unusedVariables false
set_option linter.unusedSimpArgs false
set_option maxHeartbeats 2000000 attribute [local irreducible] HW HO HQ HD HC QOp Has Upd Puts Gets seqQ blkQ loopQ fnQ actQ nextP unQ MapF
section
variable [Go.ConcR.Payload]
theorem wait_calls (t : Tk) (wg : Nat) (L0 : Heap) (h5 : t.st = 5) (hw : t.wg = wg) :
    HC Tryd.prog 144 [pt wg 0] ([t.at_] :: L0) (fun v L' => v = .tuple #[] ∧ ∃ t' : Tk, t'.st = 12 ∧ L' = [t'.at_] :: L0) := by
  obtain ⟨g, td, bk, w0, m, nn, st, a0, b0, l⟩ := t
  obtain rfl : st = 5 := h5
  simp only at hw
  subst hw
  revert w0; intro wg
  refine Ze (by kernel_rfl) Tryd.func144 rfl Tryd.ntmps144 (Nat.le_of_ble_eq_true rfl) ?_; simp only [args0, Nat.reduceAdd]
  repeat' (first | refine uN ?_ | (refine uP ?_ ?_ <;> (intro h; ((try simp only [zs, ne_eq, and_true, true_and, eq_self, reduceCtorEq] at h); try exact zx))) | fail)
  refine e_mark0 .disable (t' := ⟨g, td, bk, wg, m, nn, 6, a0, b0, l⟩) wgLib.f_disable (ConcR.Gen.x_disable_n wgL) (ConcR.Gen.x_disable_b wgL) (ConcR.Gen.x_disable_x wgL) (ConcR.Gen.x_disable_f wgL) (show (5 : Nat) ≠ 12 by decide) (by simp) rfl (fun γ _ => .dis5 rfl) ?_
  repeat' (first | refine uN ?_ | (refine uP ?_ ?_ <;> (intro h; ((try simp only [zs, ne_eq, and_true, true_and, eq_self, reduceCtorEq] at h); try exact zx))) | fail)
  refine hw_loop (σ := Nat × Nat) (fun q => [(0, pt wg 0)]) (fun q => [(⟨g, td, bk, wg, m, nn, 6, q.1, q.2, l⟩ : Tk).at_] :: L0) (fun _ => True) (fun q => q.2) (a0, b0) uS (List.Sublist.refl _) trivial ?_
  rintro ⟨a, b⟩ -
  have k6 := uload6_calls ⟨g, td, bk, wg, m, nn, 6, a, b, l⟩ wg L0 rfl rfl
  repeat' (first | refine uN ?_ | (refine uP ?_ ?_ <;> (intro h; ((try simp only [zs, ne_eq, and_true, true_and, eq_self, reduceCtorEq] at h); try exact zx))) | fail)
  refine gc k6 ?_
  clear k6
  rintro v L' (⟨rfl, rfl⟩ | ⟨c, c1, c2, c3, rfl, rfl⟩)
  · have f1 := and_hi 0
    have f2 := and_lo 0
    repeat' (first | refine uN ?_ | (refine uP ?_ ?_ <;> (intro h; ((try simp only [zs, ne_eq, and_true, true_and, eq_self, reduceCtorEq] at h); try exact zx))) | fail)
    refine e_mark0 .enable (t' := ⟨g, td, bk, wg, m, nn, 11, a, b, l⟩) wgLib.f_enable (ConcR.Gen.x_enable_n wgL) (ConcR.Gen.x_enable_b wgL) (ConcR.Gen.x_enable_x wgL) (ConcR.Gen.x_enable_f wgL) (show (8 : Nat) ≠ 12 by decide) (by simp) rfl (fun γ _ => .en8 (.inl rfl)) ?_
    repeat' (first | refine uN ?_ | (refine uP ?_ ?_ <;> (intro h; ((try simp only [zs, ne_eq, and_true, true_and, eq_self, reduceCtorEq] at h); try exact zx))) | fail)
    refine e_conv wgLib (i := 0) (show (11 : Nat) ≠ 12 by decide) rfl (by decide) wgLib.underlying_tWgP wgLib.room_tWg ?_
    refine e_markAt .acquire (t' := ⟨g, td, bk, wg, m, nn, 12, a, b, l⟩) wgLib.f_acquire (ConcR.Gen.x_acquire_n wgL) (ConcR.Gen.x_acquire_b wgL) (ConcR.Gen.x_acquire_x wgL) (ConcR.Gen.x_acquire_f wgL) (show (11 : Nat) ≠ 12 by decide) (by simp) rfl (fun γ hc => mv_join hc rfl rfl) ?_
    repeat' (first | refine uN ?_ | (refine uP ?_ ?_ <;> (intro h; ((try simp only [zs, ne_eq, and_true, true_and, eq_self, reduceCtorEq] at h); try exact zx))) | fail)
    all_goals first | exact er0 rfl ⟨rfl, _, rfl, rfl⟩ | (exfalso; simp only [p32] at *; omega)
  · have f1 := and_hi c
    have f2 := and_lo c
    have k7 := ucas_calls ⟨g, td, bk, wg, m, nn, 7, c, b, l⟩ wg L0 rfl rfl
    simp only at c2 k7
    have ew : ((c * 4294967296 : Nat) : Int) + 1 = (((c * 4294967296 : Nat) : Int) + 1) % 18446744073709551616 := by omega
    have k8 := ew ▸ k7
    repeat' (first | refine uN ?_ | (refine uP ?_ ?_ <;> (intro h; ((try simp only [zs, ne_eq, and_true, true_and, eq_self, reduceCtorEq] at h); try exact zx))) | fail)
    · exfalso; simp only [p32] at *; omega
    refine gc k8 ?_
    clear k7 k8
    rintro v L' (⟨rfl, rfl⟩ | ⟨rfl, rfl⟩)
    · have k10 := uload10_calls ⟨g, td, bk, wg, m, nn, 10, c, b, l⟩ wg L0 rfl rfl
      repeat' (first | refine uN ?_ | (refine uP ?_ ?_ <;> (intro h; ((try simp only [zs, ne_eq, and_true, true_and, eq_self, reduceCtorEq] at h); try exact zx))) | fail)
      refine e_conv wgLib (i := 1) (show (9 : Nat) ≠ 12 by decide) rfl (by decide) wgLib.underlying_tPU32 wgLib.room_tU32 ?_
      refine e_markAt .write (t' := ⟨g, td, bk, wg, m, nn, 9, c, b, l⟩) wgLib.f_raceWrite (ConcR.Gen.x_raceWrite_n wgL) (ConcR.Gen.x_raceWrite_b wgL) (ConcR.Gen.x_raceWrite_x wgL) (ConcR.Gen.x_raceWrite_f wgL) (show (9 : Nat) ≠ 12 by decide) (by simp) rfl (fun γ hc => mv_write hc rfl rfl) ?_
      repeat' (first | refine uN ?_ | (refine uP ?_ ?_ <;> (intro h; ((try simp only [zs, ne_eq, and_true, true_and, eq_self, reduceCtorEq] at h); try exact zx))) | fail)
      refine e_sema wgLib rfl rfl ?_
      repeat' (first | refine uN ?_ | (refine uP ?_ ?_ <;> (intro h; ((try simp only [zs, ne_eq, and_true, true_and, eq_self, reduceCtorEq] at h); try exact zx))) | fail)
      refine gc k10 ?_
      rintro v L' ⟨rfl, rfl⟩
      repeat' (first | refine uN ?_ | (refine uP ?_ ?_ <;> (intro h; ((try simp only [zs, ne_eq, and_true, true_and, eq_self, reduceCtorEq] at h); try exact zx))) | fail)
      refine e_mark0 .enable (t' := ⟨g, td, bk, wg, m, nn, 11, c, b, l⟩) wgLib.f_enable (ConcR.Gen.x_enable_n wgL) (ConcR.Gen.x_enable_b wgL) (ConcR.Gen.x_enable_x wgL) (ConcR.Gen.x_enable_f wgL) (show (10 : Nat) ≠ 12 by decide) (by simp) rfl (fun γ _ => .en8 (.inr rfl)) ?_
      repeat' (first | refine uN ?_ | (refine uP ?_ ?_ <;> (intro h; ((try simp only [zs, ne_eq, and_true, true_and, eq_self, reduceCtorEq] at h); try exact zx))) | fail)
      refine e_conv wgLib (i := 0) (show (11 : Nat) ≠ 12 by decide) rfl (by decide) wgLib.underlying_tWgP wgLib.room_tWg ?_
      refine e_markAt .acquire (t' := ⟨g, td, bk, wg, m, nn, 12, c, b, l⟩) wgLib.f_acquire (ConcR.Gen.x_acquire_n wgL) (ConcR.Gen.x_acquire_b wgL) (ConcR.Gen.x_acquire_x wgL) (ConcR.Gen.x_acquire_f wgL) (show (11 : Nat) ≠ 12 by decide) (by simp) rfl (fun γ hc => mv_join hc rfl rfl) ?_
      repeat' (first | refine uN ?_ | (refine uP ?_ ?_ <;> (intro h; ((try simp only [zs, ne_eq, and_true, true_and, eq_self, reduceCtorEq] at h); try exact zx))) | fail)
      all_goals first | exact er0 rfl ⟨rfl, _, rfl, rfl⟩ | (exfalso; simp only [p32] at *; omega)
    · repeat' (first | refine uN ?_ | (refine uP ?_ ?_ <;> (intro h; ((try simp only [zs, ne_eq, and_true, true_and, eq_self, reduceCtorEq] at h); try exact zx))) | fail)
      exact loopQ_sp (c, c - 1) uS (LS.refl _) trivial (by simp only; omega)
end
end Go.HL
end

/-! QKEp -/
section
namespace Go.HL
set_option linter.unusedSectionVars false
variable [Tasks]
open Go Go.Conc
set_option linter.unusedVariables false
set_option linter.unusedSectionVars false
set_option linter.unusedSimpArgs false
section
variable {P : Program} {n : Nat} {ops rest : List Oper} {Q : Exit → Env → Heap → Prop} {ρ : Env} {L0 : Heap} {t : Tk} {d : Nat} {ty : TypeId} {pos : String} {af : Array Edge}
theorem e_recv {T E : TypeId} {dir : ChanDir} {x : Operand} {z : Value} {td : Nat} (h20 : t.st = 20) (htd : t.todo = td) (hu : ∀ w, (underlying T).run P w = .ok (.chan dir E) w) (hz : ∀ w, (zeroValue E).run P w = .ok z w)
    (n1 : ∀ i, t.b ≤ i → i < t.many → HO P n ops Q rest ((d, .tuple ⟨[.int .i64 (i : Nat), .bool true]⟩) :: ρ) ([({ t with st := 21, a := i, b := i + 1 } : Tk).at_] :: L0))
    (n2 : HO P n ops Q rest ((d, .tuple ⟨[z, .bool false]⟩) :: ρ) ([({ t with st := 22 } : Tk).at_] :: L0)) (hx : ev ρ x = some (.chan (some td)) := by exact rfl) (hn : Nat.blt d n = true := by exact rfl) :
    HO P n ops Q (⟨some d, .recv T x true, ty, pos, af, none⟩ :: rest) ρ ([t.at_] :: L0) :=
  ho_recv t h20 (by simp) (by rw [htd]; exact hx) hu hz (fun w es => events_underlying _ _ _ _) (fun w es => events_zeroValue _ _ _ _) hn (fun i L' hb hi hu => ho_sp (n1 i hb hi) (upd_tls (t := t) (t' := { t with st := 21, a := i, b := i + 1 }) rfl hu)) fun L' hu => ho_sp n2 (upd_tls (t := t) (t' := { t with st := 22 }) rfl hu)
theorem e_send {x y : Operand} {v : Value} {bk : Nat} {bl : List Blk} {L1 : Heap} (h21 : t.st = 21) (hbk : t.back = bk) (hR : Tasks.R t.tag t.a v bl) (hbl : ∀ p ∈ bl, pln p.2 = true) (hls : LS (bl ++ L1.flatten) L0.flatten)
    (h : HO P n ops Q rest ρ ([({ t with st := 20 } : Tk).at_] :: L1)) (hx : ev ρ x = some (.chan (some bk)) := by exact rfl) (hy : ev ρ y = some v := by exact rfl) : HO P n ops Q (⟨none, .send x y, ty, pos, af, none⟩ :: rest) ρ ([t.at_] :: L0) :=
  ho_send t bl (L1 := [({ t with st := 20 } : Tk).at_] :: L0) h21 (by rw [hbk]; exact hx) hy (upd_tok (t := t) (t' := { t with st := 20 }) rfl) (by
    obtain ⟨l, p1, p2⟩ := hls
    refine ⟨({ t with st := 20 } : Tk).at_ :: l, ?_, ?_⟩
    · refine (p1.cons _).trans ?_
      simp only [List.flatten_cons, List.cons_append, List.nil_append]
      exact List.perm_middle.symm
    · simp only [List.flatten_cons, List.cons_append, List.nil_append]
      exact p2.cons_cons _) hbl hR h
theorem e_close {x : Operand} {ats : Array TypeId} {td : Nat} (h0 : t.st = 0) (hl : t.l = []) (htd : t.todo = td) (h : HO P n ops Q rest ρ ([({ t with st := 5, b := t.n } : Tk).at_] :: L0)) (hx : ev ρ x = some (.chan (some td)) := by exact rfl) :
    HO P n ops Q (⟨none, .call { callee := .builtin .close, args := #[x], argTypes := ats }, ty, pos, af, none⟩ :: rest) ρ ([t.at_] :: L0) :=
  ho_close t h0 hl (by simp) (by rw [htd]; exact hx) fun L' hu => ho_sp h (upd_tls (t := t) (t' := { t with st := 5, b := t.n }) rfl hu)
theorem e_select {c1 c2 : SelectCase} {x : Operand} {z : Value} {bk : Nat} (h0 : t.st = 0) (hbk : t.back = bk) (hb : t.b < t.many) (hnn : 1 ≤ t.n) (hs1 : c1.send = some x) (hs2 : c2.send = none)
    (h1 : ∀ w, (zeroValue c1.elem).run P w = .ok (.int .i64 0) w) (h2 : ∀ w, (zeroValue c2.elem).run P w = .ok z w)
    (n1 : t.a < t.many → HO P n ops Q rest ((d, .tuple ⟨[goInt 0, .bool false, z]⟩) :: ρ) ([({ t with a := t.a + 1, l := t.a :: t.l } : Tk).at_] :: L0))
    (n2 : ∀ i v bl, i ∈ t.l → Tasks.R t.tag i v bl → HO P n ops Q rest ((d, .tuple ⟨[goInt 1, .bool true, v]⟩) :: ρ) (bl :: [({ t with b := t.b + 1, l := t.l.erase i } : Tk).at_] :: L0))
    (hc1 : ev ρ c1.chan = some (.chan (if t.a = t.many then none else some t.todo))) (hx : ev ρ x = some (.int .i64 (t.a : Nat)) := by exact rfl) (hc2 : ev ρ c2.chan = some (.chan (some bk)) := by exact rfl) (hn : Nat.blt d n = true := by exact rfl) :
    HO P n ops Q (⟨some d, .select #[c1, c2] true, ty, pos, af, none⟩ :: rest) ρ ([t.at_] :: L0) :=
  ho_select t h0 (by simp) hb hnn hs1 hs2 hc1 hx (by rw [hbk]; exact hc2) h1 h2 (fun w es => events_zeroValue _ _ _ _) (fun w es => events_zeroValue _ _ _ _) hn
    (fun ha L' hu => ho_sp (n1 ha) (upd_tls (t := t) (t' := { t with a := t.a + 1, l := t.a :: t.l }) rfl hu)) fun i v bl L' hi hR hu => ho_sp (n2 i v bl hi hR) (by
      have := upd_tls (t := t) (t' := { t with b := t.b + 1, l := t.l.erase i }) rfl hu
      simpa using this.boths bl)
theorem Lo.nodup {main : Bool} {Φ : Goroutine → Heap → Prop} {g : Goroutine} {L : Heap} (hr : g.status = .running) (h : (L.flatten.map (·.1)).Nodup → Lo P main Φ g L) : Lo P main Φ g L := by
  by_cases hn : (L.flatten.map (·.1)).Nodup
  · exact h hn
  · exact .own (fun _ _ => False) hr (fun k w hs => absurd hs.nodup hn) fun _ _ x => x.elim
theorem hw_nodup {c : Code} {L : Heap} (h : (L.flatten.map (·.1)).Nodup → HW P n c Q ρ L) : HW P n c Q ρ L := fun main Φ b k cs a hb hc ha => Lo.nodup rfl fun hn => h hn main Φ b k cs a hb hc ha
theorem hw_wk {c : Code} {L L' : Heap} (hw : Wk L L') (h : HW P n c Q ρ L') : HW P n c Q ρ L := fun main Φ b k cs a hb hc ha => .weak hw (h main Φ b k cs a hb hc ha)
theorem rob0 {c : Array Value} {E : Nat} {x : Nat} : rob (.cells c E (0, x)) = false := by simp [rob, Nat.blt]; rfl
/-- a block of one's own: from now on all read it -/
theorem hw_ro {c : Code} {L L' : Heap} {b E : Nat} {v : Array Value} (h : HW P n c Q ρ L') (hu : Upd L b (.cells v E (0, 0)) (ronly (.cells v E (0, 0))) L' := by (repeat (first | exact upd_here | apply upd_in | apply upd_next))) : HW P n c Q ρ L := hw_wk (wk_ro hu rob0) h
/-- blocks go to a child, and stay for all to read -/
theorem e_go {f : Operand} {ats : Array TypeId} {F : Nat} {cap : List Value} {Lc : Heap} (h3 : t.st = 3) (hnd : (([t.at_] :: L0 : Heap).flatten.map (·.1)).Nodup) (hls : LS Lc.flatten L0.flatten) (hro : ∀ p ∈ Lc.flatten, rob p.2 = true)
    (child : Lo P false (fun _ _ => False) (Conc.born P { target := .fn (.func F) ⟨cap⟩, args := #[] }) ([({ t with st := 20 } : Tk).at_] :: Lc)) (h : HO P n ops Q rest ρ ([({ t with st := 0, n := t.n + 1 } : Tk).at_] :: L0)) (hf : ev ρ f = some (.func (.func F) #[] ⟨cap⟩) := by exact rfl) :
    HO P n ops Q (⟨none, .go { callee := .value f, args := #[], argTypes := ats }, ty, pos, af, none⟩ :: rest) ρ ([t.at_] :: L0) :=
  ho_spawn t (L1 := [({ t with st := 0, n := t.n + 1 } : Tk).at_] :: L0) h3 hf (upd_tok (t := t) (t' := { t with st := 0, n := t.n + 1 }) rfl)
    ⟨⟨[], Lc.flatten, by simp, by simpa using LS.refl _, by simp, fun p hp => ⟨hro p hp, by simp [hls.mem hp]⟩⟩, by
      obtain ⟨l, p1, p2⟩ := hls
      simp only [List.flatten_cons, List.cons_append, List.nil_append, List.map_cons, Tk.at_] at hnd ⊢
      rw [List.nodup_cons] at hnd ⊢
      exact ⟨fun hx => hnd.1 (by
        obtain ⟨p, hp, e⟩ := List.mem_map.1 hx
        exact List.mem_map.2 ⟨p, p2.subset (p1.mem_iff.2 hp), e⟩), (p1.map _).nodup_iff.1 (hnd.2.sublist (p2.map _))⟩⟩ child h
end
end Go.HL
end

/-! QPlA -/
section
namespace Go.HL
set_option linter.unusedSectionVars false
variable [Tasks]
open Go Go.Proofs
set_option linter.unusedVariables false
set_option linter.unusedSimpArgs false

set_option maxHeartbeats 2000000 attribute [local irreducible] HW HO HQ HD HC QOp Has Upd Puts Gets seqQ blkQ loopQ fnQ actQ nextP unQ MapF
end Go.HL
end

/-! QPlB -/
section
namespace Go.HL
set_option linter.unusedSectionVars false
variable [Tasks]
open Go Go.Proofs
set_option linter.unusedVariables false
set_option linter.unusedSimpArgs false

set_option maxHeartbeats 2000000 attribute [local irreducible] HW HO HQ HD HC QOp Has Upd Puts Gets seqQ blkQ loopQ fnQ actQ nextP unQ MapF
end Go.HL
end

/-! QJnA -/
section
namespace Go.HL
set_option linter.unusedSectionVars false
variable [Tasks]
open Go Go.Proofs
set_option linter.unusedVariables false
set_option linter.unusedSimpArgs false

theorem snoc_ind {α : Type} {p : List α → Prop} (h0 : p []) (h1 : ∀ l a, p l → p (l ++ [a])) (l : List α) : p l := by
  have h : ∀ l : List α, p l.reverse := fun l => by
    induction l with
    | nil => exact h0
    | cons a l ih => rw [List.reverse_cons]; exact h1 _ _ ih
  have := h l.reverse
  rwa [List.reverse_reverse] at this
/-- a byte of a number -/
def bt (n : Int) (k : Nat) : UInt8 := UInt8.ofNat (n / 2 ^ (8 * k) % 256).toNat
theorem bt_val (n : Int) (k : Nat) : ((bt n k).toNat : Int) = n / 2 ^ (8 * k) % 256 := by
  unfold bt
  have h1 : 0 ≤ n / 2 ^ (8 * k) % 256 := Int.emod_nonneg _ (by decide)
  have h2 : n / 2 ^ (8 * k) % 256 < 256 := Int.emod_lt_of_pos _ (by decide)
  rw [UInt8.toNat_ofNat', Nat.mod_eq_of_lt (by omega)]
  omega
/-- the lowest bytes, the highest first -/
def numB (n : Int) : Nat → List UInt8
  | 0 => []
  | k + 1 => bt n k :: numB n k
theorem numB_len (n : Int) (k : Nat) : (numB n k).length = k := by
  induction k with
  | zero => rfl
  | succ k ih => simp [numB, ih]
def rdN (s : List UInt8) : Nat := s.foldl (fun n b => n * 256 + b.toNat) 0
theorem rdN_snoc (s : List UInt8) (b : UInt8) : rdN (s ++ [b]) = rdN s * 256 + b.toNat := by simp [rdN]
theorem rdN_lt (s : List UInt8) : rdN s < 256 ^ s.length := by
  refine snoc_ind (p := fun s => rdN s < 256 ^ s.length) (by simp [rdN]) (fun s b ih => ?_) s
  · rw [rdN_snoc]
    have := b.toNat_lt
    simp only [List.length_append, List.length_cons, List.length_nil, Nat.zero_add, Nat.pow_succ]
    omega
def crc1 (c : Nat) : Nat := (c / 2) ^^^ (3988292384 * (c % 2))
def crcN : Nat → Nat → Nat
  | 0, c => c
  | k + 1, c => crcN k (crc1 c)
theorem crcN_succ (k c : Nat) : crcN (k + 1) c = crc1 (crcN k c) := by
  induction k generalizing c with
  | zero => rfl
  | succ k ih => exact ih (crc1 c)
def crcB (c : Nat) (b : UInt8) : Nat := crcN 8 (c ^^^ b.toNat)
def crcR (s : List UInt8) : Nat := s.foldl crcB 4294967295
def crc (s : List UInt8) : Nat := 4294967295 - crcR s
theorem crc1_lt {c : Nat} (h : c < 4294967296) : crc1 c < 4294967296 := by
  unfold crc1
  exact Nat.xor_lt_two_pow (n := 32) (by omega) (by omega)
theorem crcN_lt {k c : Nat} (h : c < 4294967296) : crcN k c < 4294967296 := by
  induction k generalizing c with
  | zero => exact h
  | succ k ih => exact ih (crc1_lt h)
theorem xor_byte {c : Nat} (b : UInt8) (h : c < 4294967296) : c ^^^ b.toNat < 4294967296 := Nat.xor_lt_two_pow (n := 32) h (by have := b.toNat_lt; omega)
theorem crcB_lt {c : Nat} {b : UInt8} (h : c < 4294967296) : crcB c b < 4294967296 := crcN_lt (xor_byte b h)
theorem crcR_lt (s : List UInt8) : crcR s < 4294967296 := by
  refine snoc_ind (p := fun s => crcR s < 4294967296) (by decide) (fun s b ih => ?_) s
  rw [show crcR (s ++ [b]) = crcB (crcR s) b by simp [crcR]]; exact crcB_lt ih
theorem crc_val (c : Nat) (h : c < 4294967296) : ((((c : Int) / 2 ^ (1 : Int).toNat).toNat ^^^ ((3988292384 * (((c : Int).toNat &&& (1 : Int).toNat : Nat) : Int)) % 4294967296).toNat : Nat) : Int) = ((crc1 c : Nat) : Int) := by
  have e1 : ((c : Int) / 2 ^ (1 : Int).toNat).toNat = c / 2 := by simp; omega
  have e2 : ((c : Int).toNat &&& (1 : Int).toNat : Nat) = c % 2 := by simp [Nat.and_one_is_mod]
  have e3 : ((3988292384 * ((c % 2 : Nat) : Int)) % 4294967296).toNat = 3988292384 * (c % 2) := by omega
  rw [e1, e2, e3]
  rfl
set_option maxHeartbeats 2000000 attribute [local irreducible] HW HO HQ HD HC QOp Has Upd Puts Gets seqQ blkQ loopQ fnQ actQ nextP unQ MapF
theorem jsum_calls (s : List UInt8) (L : Heap) (hs : s.length ≤ 1000000) : HC Tryd.prog 92 [bs s] L (fun v L' => v = iv (crc s) ∧ L' = L) := by
  refine Ze (by kernel_rfl) Tryd.func92 rfl Tryd.ntmps92 (Nat.le_of_ble_eq_true rfl) ?_; simp only [args0, Nat.reduceAdd]
  repeat' (first | refine uN ?_ | (refine uP ?_ ?_ <;> (intro h; ((try simp only [zs, ne_eq, and_true, true_and, eq_self, reduceCtorEq] at h); try exact zx))) | fail)
  refine hw_loop (σ := Nat) (fun i => [(0, bs s), (6, iv s.length), (7, iv i), (3, .int .u32 (crcR (s.take i)))]) (fun _ => L) (fun i => i ≤ s.length) (fun i => s.length - i) 0 uS (List.Sublist.refl _) (by omega) ?_
  intro i i1
  have hc := crcR_lt (s.take i)
  by_cases hlt : i < s.length
  · have hb := (s.getD (i : Int).toNat 0).toNat_lt
    repeat' (first | refine uN ?_ | (refine uP ?_ ?_ <;> (intro h; ((try simp only [zs, ne_eq, and_true, true_and, eq_self, reduceCtorEq] at h); try exact zx))) | fail)
    have e0 : (((crcR (s.take i) : Nat) : Int).toNat ^^^ (((s.getD (i : Int).toNat 0).toNat : Nat) : Int).toNat : Nat) = crcR (s.take i) ^^^ (s.getD i 0).toNat := by simp
    rw [e0]
    have hx := xor_byte (s.getD i 0) hc
    refine hw_loop (σ := Nat) (fun j => [(0, bs s), (6, iv s.length), (7, iv i), (16, iv j), (3, .int .u32 (crcN j (crcR (s.take i) ^^^ (s.getD i 0).toNat)))]) (fun _ => L) (fun j => j ≤ 8) (fun j => 8 - j) 0 uS (List.Sublist.refl _) (by omega) ?_
    intro j j1
    have hcj := crcN_lt (k := j) hx
    by_cases hlt2 : j < 8
    · repeat' (first | refine uN ?_ | (refine uP ?_ ?_ <;> (intro h; ((try simp only [zs, ne_eq, and_true, true_and, eq_self, reduceCtorEq] at h); try exact zx))) | fail)
      refine loopQ_normal (j + 1) ?_ (List.Sublist.refl _) (by omega) (by omega)
      rw [crcN_succ, ← crc_val _ hcj]
      repeat (first | exact trivial | refine ⟨rfl, ?_⟩)
    · have hj : j = 8 := by omega
      subst hj
      repeat' (first | refine uN ?_ | (refine uP ?_ ?_ <;> (intro h; ((try simp only [zs, ne_eq, and_true, true_and, eq_self, reduceCtorEq] at h); try exact zx))) | fail)
      refine loopQ_normal (i + 1) ?_ (List.Sublist.refl _) (by omega) (by omega)
      have e : crcR (s.take (i + 1)) = crcN 8 (crcR (s.take i) ^^^ (s.getD i 0).toNat) := by
        rw [List.take_succ_eq_append_getElem hlt]
        rw [show ∀ l b, crcR (l ++ [b]) = crcB (crcR l) b from fun l b => by simp [crcR]]
        simp [crcB, List.getD, hlt]
      rw [e]
      repeat (first | exact trivial | refine ⟨rfl, ?_⟩)
  · repeat' (first | refine uN ?_ | (refine uP ?_ ?_ <;> (intro h; ((try simp only [zs, ne_eq, and_true, true_and, eq_self, reduceCtorEq] at h); try exact zx))) | fail)
    have hi : i = s.length := by omega
    subst hi
    (refine fn_ret1 rfl rfl ?_ ⟨?_, rfl⟩; (next => (repeat (first | exact List.Sublist.refl _ | apply List.Sublist.cons))))
    rw [List.take_length] at hc ⊢
    exact congrArg iv (by unfold crc; omega)
end Go.HL
end

/-! QJnB -/
section
namespace Go.HL
set_option linter.unusedSectionVars false
variable [Tasks]
open Go Go.Proofs
set_option linter.unusedVariables false
set_option linter.unusedSimpArgs false

theorem rd_bytes (b E : Nat) (l : List UInt8) (L : Heap) : Rd uc 1 ([(b, .cells ⟨l.map u8⟩ E)] :: L) (some ⟨b, 0, none⟩) l := by
  refine .inr ⟨b, 0, l.map u8, E, (0, 0), rfl, has_here, fun k x hx => ?_⟩
  have := gets_row (enc := uc) (sz := 1) (fun _ => rfl) l [] [] k x hx
  simpa [u8_flat] using this
structure Ent where
  n : Int
  s : St
def head (e : Ent) : List UInt8 := numB e.n 4 ++ numB e.s.ph 1 ++ numB e.s.pr 4 ++ numB e.s.att 4
set_option maxHeartbeats 2000000 attribute [local irreducible] HW HO HQ HD HC QOp Has Upd Puts Gets seqQ blkQ loopQ fnQ actQ nextP unQ MapF
theorem jread_calls (s : List UInt8) (L : Heap) (hs : s.length ≤ 7) : HC Tryd.prog 94 [bs s] L (fun v L' => v = iv (rdN s) ∧ L' = L) := by
  refine Ze (by kernel_rfl) Tryd.func94 rfl Tryd.ntmps94 (Nat.le_of_ble_eq_true rfl) ?_; simp only [args0, Nat.reduceAdd]
  repeat' (first | refine uN ?_ | (refine uP ?_ ?_ <;> (intro h; ((try simp only [zs, ne_eq, and_true, true_and, eq_self, reduceCtorEq] at h); try exact zx))) | fail)
  refine hw_loop (σ := Nat) (fun i => [(0, bs s), (6, iv s.length), (7, iv i), (3, iv (rdN (s.take i)))]) (fun _ => L) (fun i => i ≤ s.length) (fun i => s.length - i) 0 uS (List.Sublist.refl _) (by omega) ?_
  intro i i1
  by_cases hlt : i < s.length
  · have hb := (s.getD (i : Int).toNat 0).toNat_lt
    have hr := rdN_lt (s.take i)
    have hr2 : rdN (s.take i) < 281474976710656 := by
      have : 256 ^ (s.take i).length ≤ 256 ^ 6 := Nat.pow_le_pow_right (by decide) (by simp; omega)
      omega
    repeat' (first | refine uN ?_ | (refine uP ?_ ?_ <;> (intro h; ((try simp only [zs, ne_eq, and_true, true_and, eq_self, reduceCtorEq] at h); try exact zx))) | fail)
    refine loopQ_normal (i + 1) ?_ (List.Sublist.refl _) (by omega) (by omega)
    have e : ((((rdN (s.take i) : Nat) : Int) * 2 ^ Int.toNat 8).toNat ||| (((s.getD (i : Int).toNat 0).toNat : Nat) : Int).toNat : Nat) = rdN (s.take (i + 1)) := by
      rw [List.take_succ_eq_append_getElem hlt, rdN_snoc]
      have e1 : (((rdN (s.take i) : Nat) : Int) * 2 ^ Int.toNat 8).toNat = (rdN (s.take i)) <<< 8 := by rw [Nat.shiftLeft_eq]; simp; omega
      have e2 : (((s.getD (i : Int).toNat 0).toNat : Nat) : Int).toNat = (s[i]).toNat := by simp [List.getD, hlt]
      rw [e1, e2, ← Nat.shiftLeft_add_eq_or_of_lt (s[i]).toNat_lt, Nat.shiftLeft_eq]
    rw [← e]
    repeat (first | exact trivial | refine ⟨rfl, ?_⟩)
  · repeat' (first | refine uN ?_ | (refine uP ?_ ?_ <;> (intro h; ((try simp only [zs, ne_eq, and_true, true_and, eq_self, reduceCtorEq] at h); try exact zx))) | fail)
    have hi : i = s.length := by omega
    subst hi
    (refine fn_ret1 rfl rfl ?_ ⟨?_, rfl⟩; (next => (repeat (first | exact List.Sublist.refl _ | apply List.Sublist.cons))))
    rw [List.take_length]
end Go.HL
end

/-! QWrA -/
section
namespace Go.HL
set_option linter.unusedSectionVars false
variable [Tasks]
open Go Go.Proofs
set_option linter.unusedVariables false
set_option linter.unusedSimpArgs false
def lowB (n : Int) : List UInt8 := [bt n 0, bt n 1, bt n 2, bt n 3]
theorem u8_bt (n : Int) (k : Nat) : u8 (bt n k) = .int .u8 (n / 2 ^ (8 * k) % 256) := by
  unfold u8
  rw [bt_val]
theorem u8_bt0 (n : Int) : u8 (bt n 0) = .int .u8 (n % 256) := by
  rw [u8_bt]; simp
theorem bt_div (n : Int) (k : Nat) : bt (n / 256 ^ k) 0 = bt n k := by
  unfold bt
  congr 2
  simp only [Nat.mul_zero, Int.pow_zero, Int.ediv_one]
  rw [show (256 : Int) = 2 ^ 8 from rfl, ← Int.pow_mul]
theorem bt_mod (n : Int) : bt (n % 256) 0 = bt n 0 := by
  unfold bt
  simp
/-- the document's sum, between two bits -/
def rc (c b k : Nat) : Nat := crcN k (c ^^^ b) ^^^ (b / 2 ^ k)
theorem rc_0 (c b : Nat) : rc c b 0 = c := by simp [rc, crcN, Nat.xor_assoc]
theorem rc_8 {c b : Nat} (h : b < 256) : rc c b 8 = crcN 8 (c ^^^ b) := by
  unfold rc
  rw [show b / 2 ^ 8 = 0 from Nat.div_eq_of_lt h, Nat.xor_zero]
theorem rc_bit (c b k : Nat) : (rc c b k ^^^ (b / 2 ^ k)) % 2 = crcN k (c ^^^ b) % 2 := by
  unfold rc
  rw [Nat.xor_assoc, Nat.xor_self, Nat.xor_zero]
theorem xor_half (a b : Nat) : (a ^^^ b) / 2 = a / 2 ^^^ b / 2 := by
  have := Nat.shiftRight_xor_distrib (a := a) (b := b) (i := 1)
  simpa [Nat.shiftRight_eq_div_pow] using this
theorem rc_succ (c b k : Nat) : rc c b (k + 1) = if crcN k (c ^^^ b) % 2 = 1 then rc c b k / 2 ^^^ 3988292384 else rc c b k / 2 := by
  unfold rc
  rw [crcN_succ, xor_half]
  have e : b / 2 ^ (k + 1) = b / 2 ^ k / 2 := by rw [Nat.pow_succ, ← Nat.div_div_eq_div_mul]
  rw [e]
  unfold crc1
  split
  · rename_i h
    rw [h, Nat.mul_one, Nat.xor_assoc, Nat.xor_assoc, Nat.xor_comm 3988292384]
  · rename_i h
    have h0 : crcN k (c ^^^ b) % 2 = 0 := by omega
    rw [h0, Nat.mul_zero, Nat.xor_zero]
theorem rc_lt {c b k : Nat} (hc : c < 4294967296) (hb : b < 256) : rc c b k < 4294967296 := by
  unfold rc
  refine Nat.xor_lt_two_pow (n := 32) (crcN_lt (Nat.xor_lt_two_pow (n := 32) hc (by omega))) ?_
  exact Nat.lt_of_le_of_lt (Nat.div_le_self _ _) (by omega)
theorem xor_ones {x : Nat} (h : x < 4294967296) : x ^^^ 4294967295 = 4294967295 - x := by
  have h1 : ((BitVec.allOnes 32) ^^^ BitVec.ofNat 32 x).toNat = (~~~ BitVec.ofNat 32 x).toNat := by rw [BitVec.allOnes_xor]
  rw [BitVec.toNat_xor, BitVec.toNat_not, BitVec.toNat_allOnes, BitVec.toNat_ofNat, Nat.mod_eq_of_lt h] at h1
  rw [Nat.xor_comm]
  simpa using h1
set_option maxHeartbeats 2000000 attribute [local irreducible] HW HO HQ HD HC QOp Has Upd Puts Gets seqQ blkQ loopQ fnQ actQ nextP unQ MapF
theorem rbyte_calls (n : Int) (L : Heap) : HC Tryd.prog 95 [iv n] L (fun v L' => v = bs [bt n 0] ∧ L' = L) := by
  have e : ([Value.int .u8 (n % 256)] : List Value) = [bt n 0].map u8 := by simp [u8_bt0]
  refine Ze (by kernel_rfl) Tryd.func95 rfl Tryd.ntmps95 (Nat.le_of_ble_eq_true rfl) ?_; simp only [args0, Nat.reduceAdd]
  repeat' (first | refine uN ?_ | (refine uB ?_; intro b) | fail)
  rw [e]
  refine g_q (qtx S (rd_bytes _ _ _ _) rfl) ?_
  repeat' (first | refine uN ?_ | (refine uB ?_; intro b) | fail)
  exact sp1 uZ ⟨rfl, rfl⟩
theorem wlow_calls (n : Int) (L : Heap) : HC Tryd.prog 91 [iv n] L (fun v L' => v = bs (lowB n) ∧ L' = L) := by
  have e : ([Value.int .u8 (n % 256), Value.int .u8 (n / 2 ^ Int.toNat 8 % 256), Value.int .u8 (n / 2 ^ Int.toNat 16 % 256), Value.int .u8 (n / 2 ^ Int.toNat 24 % 256)] : List Value) = (lowB n).map u8 := by
    simp only [lowB, List.map_cons, List.map_nil, u8_bt]
    simp
  refine Ze (by kernel_rfl) Tryd.func91 rfl Tryd.ntmps91 (Nat.le_of_ble_eq_true rfl) ?_; simp only [args0, Nat.reduceAdd]
  repeat' (first | refine uN ?_ | (refine uB ?_; intro b) | fail)
  rw [e]
  refine g_q (qtx S (rd_bytes _ _ _ _) rfl) ?_
  repeat' (first | refine uN ?_ | (refine uB ?_; intro b) | fail)
  exact sp1 uZ ⟨rfl, rfl⟩
theorem rlow_calls (n : Int) (L : Heap) (h0 : 0 ≤ n) (h1 : n < 4294967296) : HC Tryd.prog 30 [iv n] L (fun v L' => v = bs (lowB n) ∧ L' = L) := by
  have e0 : bt (n % 256) 0 = bt n 0 := bt_mod n
  have e1 : bt (n / 256 % 256) 0 = bt n 1 := by rw [bt_mod, ← bt_div n 1]; rfl
  have e2 : bt (n / 65536 % 256) 0 = bt n 2 := by rw [bt_mod, ← bt_div n 2]; rfl
  have e3 : bt (n / 16777216) 0 = bt n 3 := by rw [← bt_div n 3]; rfl
  have k0 := fun L => rbyte_calls (n % 256) L
  have k1 := fun L => rbyte_calls (n / 256 % 256) L
  have k2 := fun L => rbyte_calls (n / 65536 % 256) L
  have k3 := fun L => rbyte_calls (n / 16777216) L
  rw [e0] at k0
  rw [e1] at k1
  rw [e2] at k2
  rw [e3] at k3
  have b1 : 0 ≤ n / 256 ∧ n / 256 ≤ 9223372036854775807 := by omega
  have b2 : 0 ≤ n / 65536 ∧ n / 65536 ≤ 9223372036854775807 := by omega
  refine Ze (by kernel_rfl) Tryd.func30 rfl Tryd.ntmps30 (Nat.le_of_ble_eq_true rfl) ?_; simp only [args0, Nat.reduceAdd]
  repeat' (first | refine uN ?_ | refine uC (k0 _) ?_ | refine uC (k1 _) ?_ | refine uC (k2 _) ?_ | refine uC (k3 _) ?_ | fail)
  exact sp1 uZ ⟨rfl, rfl⟩
theorem rwide_calls (n : Int) (many : Nat) (L : Heap) (h0 : 0 ≤ n) (h1 : n ≤ 9223372036854775807) (hm : many ≤ 8) : HC Tryd.prog 96 [iv n, iv many] L (fun v L' => v = bs (numB n many) ∧ L' = L) := by
  refine Ze (by kernel_rfl) Tryd.func96 rfl Tryd.ntmps96 (Nat.le_of_ble_eq_true rfl) ?_; simp only [args0, Nat.reduceAdd]
  repeat' (first | refine uN ?_ | (refine uP ?_ ?_ <;> (intro h; ((try simp only [zs, ne_eq, and_true, true_and, eq_self, reduceCtorEq] at h); try exact zx))) | fail)
  refine hw_loop (σ := Nat) (fun i => [(0, iv (n / 256 ^ i)), (1, iv many), (5, bs (numB n i)), (6, iv i)]) (fun _ => L) (fun i => i ≤ many) (fun i => many - i) 0 ?_ (List.Sublist.refl _) (by omega) ?_
  · simp only [Int.pow_zero, Int.ediv_one]
    exact uS
  intro i hi
  by_cases hlt : i < many
  · have hq : 0 ≤ n / 256 ^ i ∧ n / 256 ^ i ≤ 9223372036854775807 := ⟨Int.ediv_nonneg h0 (Int.pow_nonneg (by decide)), Int.le_trans (Int.ediv_le_self _ h0) h1⟩
    have kb := fun L => rbyte_calls (n / 256 ^ i % 256) L
    rw [bt_mod, bt_div] at kb
    have hl : ([bt n i].length + (numB n i).length) ≤ 9223372036854775807 := by simp [numB_len]; omega
    have e : n / 256 ^ i / 256 = n / 256 ^ (i + 1) := by rw [Int.pow_succ, Int.ediv_ediv_of_nonneg (Int.pow_nonneg (by decide))]
    repeat' (first | refine uN ?_ | refine uC (kb _) ?_ | (refine uP ?_ ?_ <;> (intro h; ((try simp only [zs, ne_eq, and_true, true_and, eq_self, reduceCtorEq] at h); try exact zx))) | fail)
    rw [e]
    exact loopQ_sp (i + 1) uS uL (by omega) (by omega)
  · have hi2 : i = many := by omega
    subst hi2
    repeat' (first | refine uN ?_ | (refine uP ?_ ?_ <;> (intro h; ((try simp only [zs, ne_eq, and_true, true_and, eq_self, reduceCtorEq] at h); try exact zx))) | fail)
    exact sp1 uZ ⟨rfl, rfl⟩
theorem rcrc_calls (s : List UInt8) (L : Heap) (hs : s.length ≤ 1000000) : HC Tryd.prog 31 [bs s] L (fun v L' => v = iv (crc s) ∧ L' = L) := by
  refine Ze (by kernel_rfl) Tryd.func31 rfl Tryd.ntmps31 (Nat.le_of_ble_eq_true rfl) ?_; simp only [args0, Nat.reduceAdd]
  repeat' (first | refine uN ?_ | (refine uP ?_ ?_ <;> (intro h; ((try simp only [zs, ne_eq, and_true, true_and, eq_self, reduceCtorEq] at h); try exact zx))) | fail)
  refine hw_loop (σ := Nat) (fun i => [(0, bs s), (3, iv (crcR (s.take i))), (4, iv i)]) (fun _ => L) (fun i => i ≤ s.length) (fun i => s.length - i) 0 uS (List.Sublist.refl _) (by omega) ?_
  intro i hi
  have hc := crcR_lt (s.take i)
  by_cases hlt : i < s.length
  · repeat' (first | refine uN ?_ | (refine uP ?_ ?_ <;> (intro h; ((try simp only [zs, ne_eq, and_true, true_and, eq_self, reduceCtorEq] at h); try exact zx))) | fail)
    have hb : (s.getD i 0).toNat < 256 := (s.getD i 0).toNat_lt
    have e0 : (crcR (s.take i) : Int) = ((rc (crcR (s.take i)) (s.getD i 0).toNat 0 : Nat) : Int) := by rw [rc_0]
    rw [e0]
    refine hw_loop (σ := Nat) (fun k => [(0, bs s), (3, iv (rc (crcR (s.take i)) (s.getD i 0).toNat k)), (4, iv i), (5, iv k)]) (fun _ => L) (fun k => k ≤ 8) (fun k => 8 - k) 0 uS (List.Sublist.refl _) (by omega) ?_
    intro k hk
    by_cases hk8 : k < 8
    · have hr := rc_lt (k := k) hc hb
      have hsu := rc_succ (crcR (s.take i)) (s.getD i 0).toNat k
      have hbit := rc_bit (crcR (s.take i)) (s.getD i 0).toNat k
      have hb2 := (s.getD (i : Int).toNat 0).toNat_lt
      have hbk : (s.getD i 0).toNat / 2 ^ k < 256 := Nat.lt_of_le_of_lt (Nat.div_le_self _ _) hb
      have eB : (((s.getD (i : Int).toNat 0).toNat : Nat) : Int) / 2 ^ (k : Int).toNat = (((s.getD i 0).toNat / 2 ^ k : Nat) : Int) := by simp
      have hxl : rc (crcR (s.take i)) (s.getD i 0).toNat k ^^^ ((s.getD i 0).toNat / 2 ^ k) < 4294967296 := Nat.xor_lt_two_pow (n := 32) hr (by omega)
      have hx1 : rc (crcR (s.take i)) (s.getD i 0).toNat k / 2 ^^^ 3988292384 < 4294967296 := Nat.xor_lt_two_pow (n := 32) (by omega) (by decide)
      repeat' (first | refine uN ?_ | (refine uP ?_ ?_ <;> (intro h; ((try simp only [zs, ne_eq, and_true, true_and, eq_self, reduceCtorEq] at h); try exact zx))) | fail)
      rw [eB]
      generalize hr1 : rc (crcR (s.take i)) (s.getD i 0).toNat (k + 1) = r1 at hsu
      generalize rc (crcR (s.take i)) (s.getD i 0).toNat k = r0 at *
      generalize (s.getD i 0).toNat / 2 ^ k = bk at *
      generalize crcN k (crcR (s.take i) ^^^ (s.getD i 0).toNat) = cN at *
      have hxt : (((r0 : Nat) : Int).toNat ^^^ ((bk : Nat) : Int).toNat) = r0 ^^^ bk := by simp
      have hxt2 : (((r0 : Nat) : Int) / 2).toNat ^^^ Int.toNat 3988292384 = r0 / 2 ^^^ 3988292384 := by
        rw [show (((r0 : Nat) : Int) / 2).toNat = r0 / 2 by omega]
        rfl
      rw [← hxt] at hxl hbit
      rw [← hxt2] at hx1
      repeat' (first | refine uN ?_ | (refine uP ?_ ?_ <;> (intro h; ((try simp only [zs, ne_eq, and_true, true_and, eq_self, reduceCtorEq] at h); try exact zx))) | fail)
      · rw [if_pos (by omega)] at hsu
        rw [hxt2, ← hsu, ← hr1]
        exact loopQ_sp (k + 1) uS uL (by omega) (by omega)
      · rw [if_neg (by omega)] at hsu
        have e9 : ((r0 : Nat) : Int) / 2 = ((r1 : Nat) : Int) := by omega
        rw [e9, ← hr1]
        exact loopQ_sp (k + 1) uS uL (by omega) (by omega)
    · have hk2 : k = 8 := by omega
      subst hk2
      repeat' (first | refine uN ?_ | (refine uP ?_ ?_ <;> (intro h; ((try simp only [zs, ne_eq, and_true, true_and, eq_self, reduceCtorEq] at h); try exact zx))) | fail)
      rw [rc_8 hb]
      have e : crcR (s.take (i + 1)) = crcN 8 (crcR (s.take i) ^^^ (s.getD i 0).toNat) := by
        rw [List.take_succ_eq_append_getElem hlt]
        rw [show ∀ l b, crcR (l ++ [b]) = crcB (crcR l) b from fun l b => by simp [crcR]]
        simp [crcB, List.getD, hlt]
      rw [← e]
      exact loopQ_sp (i + 1) uS uL (by omega) (by omega)
  · have hi2 : i = s.length := by omega
    subst hi2
    repeat' (first | refine uN ?_ | (refine uP ?_ ?_ <;> (intro h; ((try simp only [zs, ne_eq, and_true, true_and, eq_self, reduceCtorEq] at h); try exact zx))) | fail)
    refine sp1 uZ ⟨congrArg iv ?_, rfl⟩
    rw [List.take_length] at hc ⊢
    have := xor_ones hc
    unfold crc
    simp only [Int.toNat_natCast]
    rw [show Int.toNat 4294967295 = 4294967295 from rfl, this]
end Go.HL
end

/-! QWcA -/
section
namespace Go.HL
set_option linter.unusedSectionVars false
variable [Tasks]
open Go Go.Proofs
set_option linter.unusedVariables false
set_option linter.unusedSimpArgs false
def badF (f : Fr) : Prop := f.fr < 0 ∨ 6 < f.fr ∨ f.to < 0 ∨ 6 < f.to ∨ f.dl < 0 ∨ 5 < f.dl ∨ f.kd < 1 ∨ 7 < f.kd ∨ f.att < 0 ∨ 1048576 < f.att ∨ f.s.pr < 0 ∨ 1048576 < f.s.pr ∨ f.s.att < 0 ∨ 1048576 < f.s.att ∨ f.s.ph < 0 ∨ 5 < f.s.ph
instance (f : Fr) : Decidable (badF f) := by unfold badF; infer_instance
def frameE (f : Fr) : Option Nat := if badF f then some 2 else none
set_option maxHeartbeats 2000000 attribute [local irreducible] HW HO HQ HD HC QOp Has Upd Puts Gets seqQ blkQ loopQ fnQ actQ nextP unQ MapF
set_option maxHeartbeats 1000000 in
theorem wcheck_calls (T : Nat) (E : Nat → Addr) (f : Fr) (L : Heap) (hG : Er T E [2] L) : HC Tryd.prog 27 [.agg ⟨fc f⟩] L (fun v L' => v = eV T E (frameE f) ∧ L' = L) := by
  unfold frameE
  refine Ze (by kernel_rfl) Tryd.func27 rfl Tryd.ntmps27 (Nat.le_of_ble_eq_true rfl) ?_; simp only [args0, Nat.reduceAdd]
  repeat' (first | refine uN ?_ | (refine uB ?_; intro b) | (refine uP ?_ ?_ <;> (intro h; ((try simp only [zs, ne_eq, and_true, true_and, eq_self, reduceCtorEq] at h); try exact zx))) | fail)
  refine hw_rounds 8 ?_
  repeat' (first | refine uN ?_ | (refine uB ?_; intro b) | (refine uP ?_ ?_ <;> (intro h; ((try simp only [zs, ne_eq, and_true, true_and, eq_self, reduceCtorEq] at h); try exact zx))) | fail)
  all_goals first
    | (exact sp1 uZ ⟨by rw [if_pos (by unfold badF; omega)], rfl⟩; done)
    | (exact sp1 uZ ⟨by rw [if_neg (by unfold badF; omega)], rfl⟩; done)
end Go.HL
end

/-! QWrB -/
section
namespace Go.HL
set_option linter.unusedSectionVars false
variable [Tasks]
open Go Go.Proofs
set_option linter.unusedVariables false
set_option linter.unusedSimpArgs false
def yesN (b : Bool) : Int := if b then 1 else 0
def encA (f : Fr) : List UInt8 := numB f.fr 1 ++ numB f.to 1 ++ numB f.dl 1 ++ numB f.kd 1 ++ numB f.att 4
def encB (f : Fr) : List UInt8 := numB (yesN f.yes) 1 ++ numB f.s.ph 1 ++ numB f.s.pr 4 ++ numB f.s.att 4
def encT (f : Fr) : List UInt8 := encA f ++ encB f
def encS (f : Fr) : List UInt8 := encT f ++ lowB (crc (encT f))
theorem encA_len (f : Fr) : (encA f).length = 8 := by simp [encA, numB_len]
theorem encB_len (f : Fr) : (encB f).length = 10 := by simp [encB, numB_len]
theorem encT_len (f : Fr) : (encT f).length = 18 := by simp [encT, encA_len, encB_len]
theorem encS_len (f : Fr) : (encS f).length = 22 := by simp [encS, encT_len, lowB]
theorem lowB_len (n : Int) : (lowB n).length = 4 := rfl
theorem numB_one (z : Int) : numB z 1 = [bt z 0] := rfl
def cdF : Option Nat → Int
  | none => 0
  | some c => c
def fld (s : List UInt8) (a b : Nat) : Int := (rdN ((s.take b).drop a) : Nat)
def frOf (s : List UInt8) : Fr := ⟨fld s 0 1, fld s 1 2, fld s 2 3, fld s 3 4, fld s 4 8, decide (fld s 8 9 = 1), ⟨fld s 9 10, fld s 10 14, fld s 14 18⟩⟩
def decM (s : List UInt8) : Fr × Option Nat := if s.length ≠ 22 then (zeroF, some 1) else if lowB (crc (s.take 18)) ≠ s.drop 18 then (zeroF, some 7) else if 1 < fld s 8 9 then (zeroF, some 1) else if badF (frOf s) then (zeroF, some 2) else (frOf s, none)
set_option maxHeartbeats 2000000 attribute [local irreducible] HW HO HQ HD HC QOp Has Upd Puts Gets seqQ blkQ loopQ fnQ actQ nextP unQ MapF
attribute [local irreducible] numB crc encA encB
theorem rferr_calls (f : Fr) (L : Heap) : HC Tryd.prog 25 [.agg ⟨fc f⟩] L (fun v L' => v = iv (cdF (frameE f)) ∧ L' = L) := by
  unfold frameE
  refine Ze (by kernel_rfl) Tryd.func25 rfl Tryd.ntmps25 (Nat.le_of_ble_eq_true rfl) ?_; simp only [args0, Nat.reduceAdd]
  by_cases hb : badF f
  · rw [if_pos hb]
    repeat' (first | refine uN ?_ | (refine uB ?_; intro b) | (refine uP ?_ ?_ <;> (intro h; ((try simp only [zs, ne_eq, and_true, true_and, eq_self, reduceCtorEq] at h); try exact zx))) | fail)
    all_goals first | exact sp1 uZ ⟨rfl, rfl⟩ | (exfalso; unfold badF at hb; omega)
  · rw [if_neg hb]
    repeat' (first | refine uN ?_ | (refine uB ?_; intro b) | (refine uP ?_ ?_ <;> (intro h; ((try simp only [zs, ne_eq, and_true, true_and, eq_self, reduceCtorEq] at h); try exact zx))) | fail)
    all_goals first | exact sp1 uZ ⟨rfl, rfl⟩ | (exfalso; unfold badF at hb; omega)
theorem frameText_calls (f : Fr) (L : Heap) (hb : ¬badF f) : HC Tryd.prog 29 [.agg ⟨fc f⟩] L (fun v L' => v = bs (encS f) ∧ L' = L) := by
  have n1 : ∀ z L, HC Tryd.prog 95 [iv z] L (fun v L' => v = bs (numB z 1) ∧ L' = L) := fun z L => by rw [numB_one]; exact rbyte_calls z L
  have n4 : ∀ z L, 0 ≤ z → z ≤ 9223372036854775807 → HC Tryd.prog 96 [iv z, iv 4] L (fun v L' => v = bs (numB z 4) ∧ L' = L) := fun z L h0 h1 => rwide_calls z 4 L h0 h1 (by decide)
  have hb2 : 0 ≤ f.att ∧ f.att ≤ 9223372036854775807 ∧ 0 ≤ f.s.pr ∧ f.s.pr ≤ 9223372036854775807 ∧ 0 ≤ f.s.att ∧ f.s.att ≤ 9223372036854775807 := by unfold badF at hb; omega
  obtain ⟨u1, u2, u3, u4, u5, u6⟩ := hb2
  have a1 := numB_len f.fr 1
  have a2 := numB_len f.to 1
  have a3 := numB_len f.dl 1
  have a4 := numB_len f.kd 1
  have a5 := numB_len f.att 4
  have a6 := numB_len 1 1
  have a7 := numB_len 0 1
  have a8 := numB_len f.s.ph 1
  have a9 := numB_len f.s.pr 4
  have a10 := numB_len f.s.att 4
  have e2 : ∀ y, yesN f.yes = y → encT f = numB f.fr 1 ++ numB f.to 1 ++ numB f.dl 1 ++ numB f.kd 1 ++ numB f.att 4 ++ numB y 1 ++ numB f.s.ph 1 ++ numB f.s.pr 4 ++ numB f.s.att 4 := by
    rintro y rfl
    unfold encT encA encB
    simp only [List.append_assoc]
  have hcl : crc (encT f) < 4294967296 := by unfold crc; omega
  refine Ze (by kernel_rfl) Tryd.func29 rfl Tryd.ntmps29 (Nat.le_of_ble_eq_true rfl) ?_; simp only [args0, Nat.reduceAdd]
  repeat' (first | refine uN ?_ | refine g_k S ?_ | refine uC (n1 _ _) ?_ | refine uC (n4 _ _ u1 u2) ?_ | refine uC (n4 _ _ u3 u4) ?_ | refine uC (n4 _ _ u5 u6) ?_ | (refine uB ?_; intro b) | (refine uP ?_ ?_ <;> (intro h; ((try simp only [zs, ne_eq, and_true, true_and, eq_self, reduceCtorEq] at h); try exact zx))) | fail)
  · have hy : yesN f.yes = 1 := by unfold yesN; rw [h]; rfl
    rw [← e2 _ hy]
    have ht := encT_len f
    have hl := lowB_len (crc (encT f))
    unfold encS
    generalize encT f = t at *
    repeat' (first | refine uN ?_ | refine g_k S ?_ | refine g_q (qC (rcrc_calls t _ (by omega))) ?_ | refine k_q (qC (rcrc_calls t _ (by omega))) ?_ | refine g_q (qC (rlow_calls (crc t) _ (by omega) (by omega))) ?_ | refine k_q (qC (rlow_calls (crc t) _ (by omega) (by omega))) ?_ | (refine uB ?_; intro b) | (refine uP ?_ ?_ <;> (intro h; ((try simp only [zs, ne_eq, and_true, true_and, eq_self, reduceCtorEq] at h); try exact zx))) | fail)
    exact sp1 uZ ⟨rfl, rfl⟩
  · have hy : yesN f.yes = 0 := by unfold yesN; rw [h]; rfl
    rw [← e2 _ hy]
    have ht := encT_len f
    have hl := lowB_len (crc (encT f))
    unfold encS
    generalize encT f = t at *
    repeat' (first | refine uN ?_ | refine g_k S ?_ | refine g_q (qC (rcrc_calls t _ (by omega))) ?_ | refine k_q (qC (rcrc_calls t _ (by omega))) ?_ | refine g_q (qC (rlow_calls (crc t) _ (by omega) (by omega))) ?_ | refine k_q (qC (rlow_calls (crc t) _ (by omega) (by omega))) ?_ | (refine uB ?_; intro b) | (refine uP ?_ ?_ <;> (intro h; ((try simp only [zs, ne_eq, and_true, true_and, eq_self, reduceCtorEq] at h); try exact zx))) | fail)
    exact sp1 uZ ⟨rfl, rfl⟩
end Go.HL
end

/-! QWrC -/
section
namespace Go.HL
set_option linter.unusedSectionVars false
variable [Tasks]
open Go Go.Proofs
set_option linter.unusedVariables false
set_option linter.unusedSimpArgs false
theorem put_st (x0 x1 x2 x3 x4 x5 a b c u v w : Value) : Puts [x0, x1, x2, x3, x4, x5, a, b, c] (0 + 6) [u, v, w] [x0, x1, x2, x3, x4, x5, u, v, w] := ⟨rfl, by simp⟩
set_option maxHeartbeats 2000000 attribute [local irreducible] HW HO HQ HD HC QOp Has Upd Puts Gets seqQ blkQ loopQ fnQ actQ nextP unQ MapF
attribute [local irreducible] numB crc encA encB lowB rdN
theorem next_calls (ba bt : Nat) (at_ n : Nat) (s : List UInt8) (L : Heap) (hs : at_ + n ≤ s.length) (hn : n ≤ 7) (hl : s.length ≤ 1000000) :
    HC Tryd.prog 93 [iv n, pt ba 0, pt bt 0] ([(ba, .cells ⟨[iv at_]⟩ 3)] :: [(bt, .cells ⟨[bs s]⟩ 9)] :: L) (fun v L' => v = iv (fld s at_ (at_ + n)) ∧ L' = [(ba, .cells ⟨[iv ((at_ + n : Nat) : Int)]⟩ 3)] :: [(bt, .cells ⟨[bs s]⟩ 9)] :: L) := by
  have hd : (List.drop ((at_ : Int) + n - n).toNat (List.take ((at_ : Int) + n).toNat s)) = (s.take (at_ + n)).drop at_ := by
    rw [show ((at_ : Int) + n - n).toNat = at_ by omega, show ((at_ : Int) + n).toNat = at_ + n by omega]
  have kr := fun L => jread_calls ((s.take (at_ + n)).drop at_) L (by simp; omega)
  rw [← hd] at kr
  refine Ze (by kernel_rfl) Tryd.func93 rfl Tryd.ntmps93 (Nat.le_of_ble_eq_true rfl) ?_; simp only [args0, Nat.reduceAdd]
  repeat' (first | refine uN ?_ | refine uC (kr _) ?_ | fail)
  rw [hd, show ((at_ : Int) + n) = ((at_ + n : Nat) : Int) by omega]
  exact sp1 uZ ⟨rfl, rfl⟩
theorem next_at (ba bt : Nat) (a n m : Nat) (x y z : Int) (s : List UInt8) (L : Heap) (hs : m ≤ s.length) (hn : n ≤ 7) (hl : s.length ≤ 1000000) (hx : x = a) (hy : y = n) (hz : z = m) (hm : a + n = m) :
    HC Tryd.prog 93 [iv y, pt ba 0, pt bt 0] ([(ba, .cells ⟨[iv x]⟩ 3)] :: [(bt, .cells ⟨[bs s]⟩ 9)] :: L) (fun v L' => v = iv (fld s a m) ∧ L' = [(ba, .cells ⟨[iv z]⟩ 3)] :: [(bt, .cells ⟨[bs s]⟩ 9)] :: L) := by
  subst hx hy hz hm
  exact next_calls ba bt a n s L hs hn hl
theorem decode_calls (T : Nat) (E : Nat → Addr) (s : List UInt8) (L : Heap) (hG : Er T E [1, 2, 7] L) (hl : s.length ≤ 1000000) : HC Tryd.prog 28 [bs s] L (fun v L' => v = .tuple ⟨[.agg ⟨fc (decM s).1⟩, eV T E (decM s).2]⟩ ∧ L' = L) := by
  unfold decM
  have k1 := fun h L => jsum_calls (s.take 18) L h
  have k2 := fun L => wlow_calls (crc (s.take 18)) L
  have r9 : ∀ (l : List Value) (x0 x1 x2 x3 x4 x5 x6 x7 x8 : Value), l = [x0, x1, x2, x3, x4, x5, x6, x7, x8] → Gets l 0 [x0, x1, x2, x3, x4, x5, x6, x7, x8] := fun l _ _ _ _ _ _ _ _ _ h => h ▸ gets_self _
  refine Ze (by kernel_rfl) Tryd.func28 rfl Tryd.ntmps28 (Nat.le_of_ble_eq_true rfl) ?_; simp only [args0, Nat.reduceAdd]
  by_cases h1 : s.length ≠ 22
  · simp only [if_pos h1]
    repeat' (first | refine uN ?_ | refine g_d S ?_ | (refine uB ?_; intro b) | refine dg S 100 (fun _ _ => ?_) | (refine uP ?_ ?_ <;> (intro h; ((try simp only [zs, ne_eq, and_true, true_and, eq_self, reduceCtorEq] at h); try exact zx))) | refine da 101 ?_ | fail)
    exact sp2 uZ ⟨rfl, rfl⟩ (hx := rcell S (hg := gets_self _))
  simp only [if_neg h1]
  have h22 : s.length = 22 := by omega
  have hl18 : (s.take 18).length ≤ 1000000 := by simp; omega
  by_cases h2 : lowB (crc (s.take 18)) ≠ s.drop 18
  · simp only [if_pos h2]
    repeat' (first | refine uN ?_ | refine g_k S ?_ | refine g_w S ?_ | refine uC (k1 hl18 _) ?_ | refine uC (k2 _) ?_ | refine uD0 (fun _ => k1 hl18 _) ?_ | refine uD1 (fun _ => k1 hl18 _) ?_ | refine uD2 (fun _ => k1 hl18 _) ?_ | refine uD3 (fun _ => k1 hl18 _) ?_ | refine uD0 (fun _ => k2 _) ?_ | refine uD1 (fun _ => k2 _) ?_ | refine uD2 (fun _ => k2 _) ?_ | refine uD3 (fun _ => k2 _) ?_ | (refine uB ?_; intro b) | refine dg S 100 (fun _ _ => ?_) | (refine uP ?_ ?_ <;> (intro h; ((try simp only [zs, ne_eq, and_true, true_and, eq_self, reduceCtorEq] at h); try exact zx))) | refine da 101 ?_ | fail)
    · exact sp2 uZ ⟨rfl, rfl⟩ (hx := rcell S (hg := gets_self _))
    · exact absurd h h2
  simp only [if_neg h2]
  rw [Decidable.not_not] at h2
  repeat' (first | refine uN ?_ | refine g_k S ?_ | refine g_w S ?_ | refine uC (k1 hl18 _) ?_ | refine uC (k2 _) ?_ | refine uD0 (fun _ => k1 hl18 _) ?_ | refine uD1 (fun _ => k1 hl18 _) ?_ | refine uD2 (fun _ => k1 hl18 _) ?_ | refine uD3 (fun _ => k1 hl18 _) ?_ | refine uD0 (fun _ => k2 _) ?_ | refine uD1 (fun _ => k2 _) ?_ | refine uD2 (fun _ => k2 _) ?_ | refine uD3 (fun _ => k2 _) ?_ | (refine uB ?_; intro b) | refine dg S 100 (fun _ _ => ?_) | (refine uP ?_ ?_ <;> (intro h; ((try simp only [zs, ne_eq, and_true, true_and, eq_self, reduceCtorEq] at h); try exact zx))) | refine da 101 ?_ | fail)
  · exact absurd h2 h
  rename_i bS bR hq
  generalize b = bA
  refine ho_sp (L' := [(bA, .cells ⟨[iv 0]⟩ 3)] :: [(bS, .cells ⟨[bs s]⟩ 9)] :: [(bR, .cells ⟨fc zeroF⟩ 45)] :: L) ?_ uL
  have hl : s.length ≤ 1000000 := by omega
  refine gc (next_at bA bS 0 1 1 0 1 1 s _ (by omega) (by decide) hl rfl rfl rfl rfl) ?_
  rintro v L' ⟨rfl, rfl⟩
  repeat' (first | refine uN ?_ | refine g_d S ?_ | (refine uB ?_; intro b) | refine dg S 100 (fun _ _ => ?_) | (refine uP ?_ ?_ <;> (intro h; ((try simp only [zs, ne_eq, and_true, true_and, eq_self, reduceCtorEq] at h); try exact zx))) | refine da 101 ?_ | fail)
  refine gc (next_at bA bS 1 1 2 1 1 2 s _ (by omega) (by decide) hl rfl rfl rfl rfl) ?_
  rintro v L' ⟨rfl, rfl⟩
  repeat' (first | refine uN ?_ | refine g_d S ?_ | (refine uB ?_; intro b) | refine dg S 100 (fun _ _ => ?_) | (refine uP ?_ ?_ <;> (intro h; ((try simp only [zs, ne_eq, and_true, true_and, eq_self, reduceCtorEq] at h); try exact zx))) | refine da 101 ?_ | fail)
  refine gc (next_at bA bS 2 1 3 2 1 3 s _ (by omega) (by decide) hl rfl rfl rfl rfl) ?_
  rintro v L' ⟨rfl, rfl⟩
  repeat' (first | refine uN ?_ | refine g_d S ?_ | (refine uB ?_; intro b) | refine dg S 100 (fun _ _ => ?_) | (refine uP ?_ ?_ <;> (intro h; ((try simp only [zs, ne_eq, and_true, true_and, eq_self, reduceCtorEq] at h); try exact zx))) | refine da 101 ?_ | fail)
  refine gc (next_at bA bS 3 1 4 3 1 4 s _ (by omega) (by decide) hl rfl rfl rfl rfl) ?_
  rintro v L' ⟨rfl, rfl⟩
  repeat' (first | refine uN ?_ | refine g_d S ?_ | (refine uB ?_; intro b) | refine dg S 100 (fun _ _ => ?_) | (refine uP ?_ ?_ <;> (intro h; ((try simp only [zs, ne_eq, and_true, true_and, eq_self, reduceCtorEq] at h); try exact zx))) | refine da 101 ?_ | fail)
  refine gc (next_at bA bS 4 4 8 4 4 8 s _ (by omega) (by decide) hl rfl rfl rfl rfl) ?_
  rintro v L' ⟨rfl, rfl⟩
  repeat' (first | refine uN ?_ | refine g_d S ?_ | (refine uB ?_; intro b) | refine dg S 100 (fun _ _ => ?_) | (refine uP ?_ ?_ <;> (intro h; ((try simp only [zs, ne_eq, and_true, true_and, eq_self, reduceCtorEq] at h); try exact zx))) | refine da 101 ?_ | fail)
  generalize b = bF
  refine ho_sp (L' := [(bA, .cells ⟨[iv 8]⟩ 3)] :: [(bS, .cells ⟨[bs s]⟩ 9)] :: [(bF, .cells ⟨[iv (fld s 0 1), iv (fld s 1 2), iv (fld s 2 3), iv (fld s 3 4), iv (fld s 4 8), .bool false, iv 0, iv 0, iv 0]⟩ 45)] :: [(bR, .cells ⟨fc zeroF⟩ 45)] :: L) ?_ uL
  refine gc (next_at bA bS 8 1 9 8 1 9 s _ (by omega) (by decide) hl rfl rfl rfl rfl) ?_
  rintro v L' ⟨rfl, rfl⟩
  repeat' (first | refine uN ?_ | refine g_d S ?_ | (refine uB ?_; intro b) | refine dg S 100 (fun _ _ => ?_) | (refine uP ?_ ?_ <;> (intro h; ((try simp only [zs, ne_eq, and_true, true_and, eq_self, reduceCtorEq] at h); try exact zx))) | refine da 101 ?_ | fail)
  refine gc (next_at bA bS 9 1 10 9 1 10 s _ (by omega) (by decide) hl rfl rfl rfl rfl) ?_
  rintro v L' ⟨rfl, rfl⟩
  repeat' (first | refine uN ?_ | refine g_d S ?_ | (refine uB ?_; intro b) | refine dg S 100 (fun _ _ => ?_) | (refine uP ?_ ?_ <;> (intro h; ((try simp only [zs, ne_eq, and_true, true_and, eq_self, reduceCtorEq] at h); try exact zx))) | refine da 101 ?_ | fail)
  refine gc (next_at bA bS 10 4 14 10 4 14 s _ (by omega) (by decide) hl rfl rfl rfl rfl) ?_
  rintro v L' ⟨rfl, rfl⟩
  repeat' (first | refine uN ?_ | refine g_d S ?_ | (refine uB ?_; intro b) | refine dg S 100 (fun _ _ => ?_) | (refine uP ?_ ?_ <;> (intro h; ((try simp only [zs, ne_eq, and_true, true_and, eq_self, reduceCtorEq] at h); try exact zx))) | refine da 101 ?_ | fail)
  refine gc (next_at bA bS 14 4 18 14 4 18 s _ (by omega) (by decide) hl rfl rfl rfl rfl) ?_
  rintro v L' ⟨rfl, rfl⟩
  have hput : Puts [iv (fld s 0 1), iv (fld s 1 2), iv (fld s 2 3), iv (fld s 3 4), iv (fld s 4 8), .bool (decide (fld s 8 9 = 1)), iv 0, iv 0, iv 0] (0 + 6) [iv (fld s 9 10), iv (fld s 10 14), iv (fld s 14 18)] (fc (frOf s)) := put_st _ _ _ _ _ _ _ _ _ _ _ _
  have kc := fun L hG => wcheck_calls T E (frOf s) L hG
  unfold frameE at kc
  by_cases h3 : 1 < fld s 8 9
  · simp only [if_pos h3]
    repeat' (first | refine uN ?_ | refine g_d S ?_ | (refine uB ?_; intro b) | refine dg S 100 (fun _ _ => ?_) | (refine uP ?_ ?_ <;> (intro h; ((try simp only [zs, ne_eq, and_true, true_and, eq_self, reduceCtorEq] at h); try exact zx))) | refine da 101 ?_ | fail)
    exact sp2 (L' := L) uL ⟨rfl, rfl⟩ (hx := rcell S (hg := gets_self _))
  simp only [if_neg h3]
  by_cases h4 : badF (frOf s)
  · simp only [if_pos h4] at kc ⊢
    repeat' (first | refine uN ?_ | refine g_k S ?_ | refine g_w S ?_ | refine g_q (qC (kc _ ((((hG.cons _).cons _).cons _).cons _).sub)) ?_ | refine k_q (qC (kc _ ((((hG.cons _).cons _).cons _).cons _).sub)) ?_ | refine uD0 (fun _ => kc _ ((((hG.cons _).cons _).cons _).cons _).sub) ?_ | refine uD1 (fun _ => kc _ ((((hG.cons _).cons _).cons _).cons _).sub) ?_ | refine uD2 (fun _ => kc _ ((((hG.cons _).cons _).cons _).cons _).sub) ?_ | refine uD3 (fun _ => kc _ ((((hG.cons _).cons _).cons _).cons _).sub) ?_ | (refine uB ?_; intro b) | refine dg S 100 (fun _ _ => ?_) | (refine uP ?_ ?_ <;> (intro h; ((try simp only [zs, ne_eq, and_true, true_and, eq_self, reduceCtorEq] at h); try exact zx))) | refine da 101 ?_ | fail)
    exact sp2 (L' := L) uL ⟨rfl, rfl⟩ (hx := rcell S (hg := gets_self _))
  · simp only [if_neg h4] at kc ⊢
    repeat' (first | refine uN ?_ | refine g_k S ?_ | refine g_w S ?_ | refine g_q (qC (kc _ ((((hG.cons _).cons _).cons _).cons _).sub)) ?_ | refine k_q (qC (kc _ ((((hG.cons _).cons _).cons _).cons _).sub)) ?_ | refine uD0 (fun _ => kc _ ((((hG.cons _).cons _).cons _).cons _).sub) ?_ | refine uD1 (fun _ => kc _ ((((hG.cons _).cons _).cons _).cons _).sub) ?_ | refine uD2 (fun _ => kc _ ((((hG.cons _).cons _).cons _).cons _).sub) ?_ | refine uD3 (fun _ => kc _ ((((hG.cons _).cons _).cons _).cons _).sub) ?_ | (refine uB ?_; intro b) | refine dg S 100 (fun _ _ => ?_) | (refine uP ?_ ?_ <;> (intro h; ((try simp only [zs, ne_eq, and_true, true_and, eq_self, reduceCtorEq] at h); try exact zx))) | refine da 101 ?_ | fail)
    exact sp2 (L' := L) uL ⟨rfl, rfl⟩ (hx := rcell S (hg := gets_self _))
end Go.HL
end

/-! QWrD -/
section
namespace Go.HL
set_option linter.unusedSectionVars false
variable [Tasks]
open Go Go.Proofs
set_option linter.unusedVariables false
set_option linter.unusedSimpArgs false
def ends9 : List Int := [1, 2, 3, 4, 8, 9, 10, 14, 18]
def en9 : Nat → Nat
  | 0 => 1 | 1 => 2 | 2 => 3 | 3 => 4 | 4 => 8 | 5 => 9 | 6 => 10 | 7 => 14 | _ => 18
def be9 : Nat → Nat
  | 0 => 0
  | i + 1 => en9 i
theorem en9_get {i : Nat} (h : i < 9) : ends9[i]? = some (en9 i : Int) := by
  have : ∀ i, i < 9 → ends9[i]? = some (en9 i : Int) := by decide
  exact this i h
theorem en9_fact {i : Nat} (h : i < 9) : be9 i ≤ en9 i ∧ en9 i ≤ 18 ∧ en9 i ≤ be9 i + 4 := by
  have : ∀ i, i < 9 → be9 i ≤ en9 i ∧ en9 i ≤ 18 ∧ en9 i ≤ be9 i + 4 := by decide
  exact this i h
def val9 (s : List UInt8) (i : Nat) : List Int := (List.range i).map fun q => fld s (be9 q) (en9 q)
theorem map_getW {α : Type} {enc : α → Value} {xs : List α} {k : Nat} {x : α} (h : xs[k]? = some x) : (xs.map enc)[0 + (k : Int).toNat]? = some (enc x) := by simp [h]
theorem val9_succ (s : List UInt8) (i : Nat) : val9 s (i + 1) = val9 s i ++ [fld s (be9 i) (en9 i)] := by
  unfold val9
  rw [List.range_succ, List.map_append]; rfl
theorem val9_len (s : List UInt8) (i : Nat) : (val9 s i).length = i := by simp [val9]
theorem fld_same (s : List UInt8) (a : Nat) : fld s a a = 0 := by
  unfold fld
  rw [List.drop_eq_nil_of_le (by simp; omega)]; rfl
theorem fld_snoc {s : List UInt8} {a k : Nat} (h : a ≤ k) (hk : k < s.length) : fld s a (k + 1) = 256 * fld s a k + ((s.getD k 0).toNat : Nat) := by
  unfold fld
  rw [List.take_succ_eq_append_getElem hk, List.drop_append_of_le_length (by simp; omega), rdN_snoc]
  simp [List.getD, hk]
  omega
theorem fld_lt {s : List UInt8} {a k : Nat} (h : k ≤ a + 4) : 0 ≤ fld s a k ∧ fld s a k < 4294967296 := by
  unfold fld
  have h1 := rdN_lt ((s.take k).drop a)
  have h2 : ((s.take k).drop a).length ≤ 4 := by simp; omega
  have h3 : 256 ^ ((s.take k).drop a).length ≤ 256 ^ 4 := Nat.pow_le_pow_right (by decide) h2
  omega
set_option maxHeartbeats 2000000 attribute [local irreducible] HW HO HQ HD HC QOp Has Upd Puts Gets seqQ blkQ loopQ fnQ actQ nextP unQ MapF
attribute [local irreducible] numB crc encA encB lowB rdN fld
theorem frameOf_calls (s : List UInt8) (L : Heap) (hl : s.length ≤ 1000000) : HC Tryd.prog 32 [bs s] L (fun v L' => v = .tuple ⟨[.agg ⟨fc (decM s).1⟩, iv (cdF (decM s).2)]⟩ ∧ L' = L) := by
  unfold decM
  have k1 := fun h L => rcrc_calls (s.take 18) L h
  have k2 := fun h1 h2 L => rlow_calls (crc (s.take 18)) L h1 h2
  have hcl : ((crc (s.take 18) : Nat) : Int) < 4294967296 := by unfold crc; omega
  have hc0 : 0 ≤ ((crc (s.take 18) : Nat) : Int) := by omega
  refine Ze (by kernel_rfl) Tryd.func32 rfl Tryd.ntmps32 (Nat.le_of_ble_eq_true rfl) ?_; simp only [args0, Nat.reduceAdd]
  by_cases h1 : s.length ≠ 22
  · simp only [if_pos h1]
    repeat' (first | refine uN ?_ | refine g_d S ?_ | (refine uB ?_; intro b) | (refine uP ?_ ?_ <;> (intro h; ((try simp only [zs, ne_eq, and_true, true_and, eq_self, reduceCtorEq] at h); try exact zx))) | refine da 101 ?_ | fail)
    exact sp2 uZ ⟨rfl, rfl⟩ (hx := rcell S (hg := gets_self _))
  simp only [if_neg h1]
  have h22 : s.length = 22 := by omega
  have hl18 : (s.take 18).length ≤ 1000000 := by simp; omega
  by_cases h2 : lowB (crc (s.take 18)) ≠ s.drop 18
  · simp only [if_pos h2]
    repeat' (first | refine uN ?_ | refine g_k S ?_ | refine g_w S ?_ | refine uC (k1 hl18 _) ?_ | refine uC (k2 hc0 hcl _) ?_ | refine uD0 (fun _ => k1 hl18 _) ?_ | refine uD1 (fun _ => k1 hl18 _) ?_ | refine uD2 (fun _ => k1 hl18 _) ?_ | refine uD3 (fun _ => k1 hl18 _) ?_ | refine uD0 (fun _ => k2 hc0 hcl _) ?_ | refine uD1 (fun _ => k2 hc0 hcl _) ?_ | refine uD2 (fun _ => k2 hc0 hcl _) ?_ | refine uD3 (fun _ => k2 hc0 hcl _) ?_ | (refine uB ?_; intro b) | (refine uP ?_ ?_ <;> (intro h; ((try simp only [zs, ne_eq, and_true, true_and, eq_self, reduceCtorEq] at h); try exact zx))) | refine da 101 ?_ | fail)
    · exact sp2 uZ ⟨rfl, rfl⟩ (hx := rcell S (hg := gets_self _))
    · exact absurd h h2
  simp only [if_neg h2]
  rw [Decidable.not_not] at h2
  repeat' (first | refine uN ?_ | refine g_k S ?_ | refine g_w S ?_ | refine uC (k1 hl18 _) ?_ | refine uC (k2 hc0 hcl _) ?_ | refine uD0 (fun _ => k1 hl18 _) ?_ | refine uD1 (fun _ => k1 hl18 _) ?_ | refine uD2 (fun _ => k1 hl18 _) ?_ | refine uD3 (fun _ => k1 hl18 _) ?_ | refine uD0 (fun _ => k2 hc0 hcl _) ?_ | refine uD1 (fun _ => k2 hc0 hcl _) ?_ | refine uD2 (fun _ => k2 hc0 hcl _) ?_ | refine uD3 (fun _ => k2 hc0 hcl _) ?_ | (refine uB ?_; intro b) | (refine uP ?_ ?_ <;> (intro h; ((try simp only [zs, ne_eq, and_true, true_and, eq_self, reduceCtorEq] at h); try exact zx))) | refine da 101 ?_ | fail)
  · exact absurd h2 h
  rename_i bR hq
  generalize b = bE
  refine hw_sp (L' := [] :: [(bE, .cells ⟨ends9.map iv⟩ 3)] :: [(bR, .cells ⟨fc zeroF⟩ 45)] :: L) ?_ uL
  refine hw_loop (σ := Nat × Value × List Blk) (fun q => [(0, bs s), (2, pt bR 0), (4, q.2.1), (5, sl bE 0 9 9), (6, iv (be9 q.1)), (7, iv q.1)]) (fun q => q.2.2 :: [(bE, .cells ⟨ends9.map iv⟩ 3)] :: [(bR, .cells ⟨fc zeroF⟩ 45)] :: L) (fun q => q.1 ≤ 9 ∧ Vec 3 1 ic q.2.1 (val9 s q.1) q.2.2) (fun q => 9 - q.1) (0, nilS, []) uS (List.Sublist.refl _) ⟨by simp, vec_nil⟩ ?_
  rintro ⟨i, v, c⟩ ⟨hi, hv⟩
  simp only at hi hv ⊢
  by_cases hlt : i < 9
  · obtain ⟨f1, f2, f3⟩ := en9_fact hlt
    have ge := map_getW (enc := iv) (en9_get hlt)
    repeat' (first | refine uN ?_ | refine g_d S ?_ | (refine uB ?_; intro b) | (refine uP ?_ ?_ <;> (intro h; ((try simp only [zs, ne_eq, and_true, true_and, eq_self, reduceCtorEq] at h); try exact zx))) | refine da 101 ?_ | fail)
    have e0 : (Value.int .i64 0) = iv (fld s (be9 i) (be9 i)) := by rw [fld_same]
    rw [e0]
    refine hw_loop (σ := Nat) (fun k => [(0, bs s), (2, pt bR 0), (4, v), (5, sl bE 0 9 9), (6, iv k), (7, iv i), (8, iv (fld s (be9 i) k))]) (fun _ => c :: [(bE, .cells ⟨ends9.map iv⟩ 3)] :: [(bR, .cells ⟨fc zeroF⟩ 45)] :: L) (fun k => be9 i ≤ k ∧ k ≤ en9 i) (fun k => en9 i - k) (be9 i) uS (List.Sublist.refl _) ⟨Nat.le_refl _, f1⟩ ?_
    rintro k ⟨k3, k4⟩
    have hfl := fld_lt (s := s) (a := be9 i) (k := k) (by omega)
    by_cases hk : k < en9 i
    · have hb2 := (s.getD (k : Int).toNat 0).toNat_lt
      have hsn := fld_snoc (s := s) k3 (show k < s.length by omega)
      have ek : s.getD (k : Int).toNat 0 = s.getD k 0 := rfl
      repeat' (first | refine uN ?_ | refine g_d S ?_ | (refine uB ?_; intro b) | (refine uP ?_ ?_ <;> (intro h; ((try simp only [zs, ne_eq, and_true, true_and, eq_self, reduceCtorEq] at h); try exact zx))) | refine da 101 ?_ | fail)
      rw [ek, ← hsn]
      exact loopQ_sp (k + 1) uS uL ⟨by omega, by omega⟩ (by omega)
    · have hke : k = en9 i := by omega
      subst hke
      have hvl := val9_len s i
      repeat' (first | refine uN ?_ | refine g_d S ?_ | (refine uB ?_; intro b) | (refine uP ?_ ?_ <;> (intro h; ((try simp only [zs, ne_eq, and_true, true_and, eq_self, reduceCtorEq] at h); try exact zx))) | refine da 101 ?_ | fail)
      refine fo 1 ?_
      refine wp1 S (fld s (be9 i) (en9 i)) hv (fun _ => rfl) (fun _ => rfl) ?_
      intro v' c' hv'
      rw [← val9_succ] at hv'
      repeat' (first | refine uN ?_ | refine g_d S ?_ | (refine uB ?_; intro b) | (refine uP ?_ ?_ <;> (intro h; ((try simp only [zs, ne_eq, and_true, true_and, eq_self, reduceCtorEq] at h); try exact zx))) | refine da 101 ?_ | fail)
      exact loopQ_sp (i + 1, v', c') uS uL ⟨by simp only; omega, hv'⟩ (by simp only; omega)
  · have hi9 : i = 9 := by omega
    subst hi9
    rcases hv with ⟨rfl, h0, -, rfl⟩ | ⟨bv, capv, spv, rfl, rfl, hcs, hle, hall⟩
    · simp [val9_len] at h0
    have ev : (List.map ic (val9 s 9)).flatten ++ spv = [iv (fld s 0 1), iv (fld s 1 2), iv (fld s 2 3), iv (fld s 3 4), iv (fld s 4 8), iv (fld s 8 9), iv (fld s 9 10), iv (fld s 10 14), iv (fld s 14 18)] ++ spv := rfl
    rw [ev, val9_len]
    have kc := fun L => rferr_calls (frOf s) L
    unfold frameE at kc
    by_cases h3 : 1 < fld s 8 9
    · simp only [if_pos h3]
      repeat' (first | refine uN ?_ | refine g_d S ?_ | (refine uB ?_; intro b) | (refine uP ?_ ?_ <;> (intro h; ((try simp only [zs, ne_eq, and_true, true_and, eq_self, reduceCtorEq] at h); try exact zx))) | refine da 101 ?_ | fail)
      all_goals first | exact sp2 (L' := L) uL ⟨rfl, rfl⟩ (hx := rcell S (hg := gets_self _)) | contradiction
    simp only [if_neg h3]
    by_cases h4 : badF (frOf s)
    · simp only [if_pos h4] at kc ⊢
      repeat' (first | refine uN ?_ | refine g_d S ?_ | refine uC (kc _) ?_ | refine uD0 (fun _ => kc _) ?_ | refine uD1 (fun _ => kc _) ?_ | refine uD2 (fun _ => kc _) ?_ | refine uD3 (fun _ => kc _) ?_ | (refine uB ?_; intro b) | (refine uP ?_ ?_ <;> (intro h; ((try simp only [zs, ne_eq, and_true, true_and, eq_self, reduceCtorEq] at h); try exact zx))) | refine da 101 ?_ | fail)
      exact sp2 (L' := L) uL ⟨rfl, rfl⟩ (hx := rcell S (hg := gets_self _))
    · simp only [if_neg h4] at kc ⊢
      repeat' (first | refine uN ?_ | refine g_d S ?_ | refine uC (kc _) ?_ | refine uD0 (fun _ => kc _) ?_ | refine uD1 (fun _ => kc _) ?_ | refine uD2 (fun _ => kc _) ?_ | refine uD3 (fun _ => kc _) ?_ | (refine uB ?_; intro b) | (refine uP ?_ ?_ <;> (intro h; ((try simp only [zs, ne_eq, and_true, true_and, eq_self, reduceCtorEq] at h); try exact zx))) | refine da 101 ?_ | fail)
      exact sp2 (L' := L) uL ⟨rfl, rfl⟩ (hx := rcell S (hg := gets_self _))
end Go.HL
end

/-! QSdA -/
section
namespace Go.HL
set_option linter.unusedSectionVars false
variable [Tasks]
open Go Go.Proofs
set_option linter.unusedVariables false
set_option linter.unusedSimpArgs false
set_option maxHeartbeats 2000000 attribute [local irreducible] HW HO HQ HD HC QOp Has Upd Puts Gets seqQ blkQ loopQ fnQ actQ nextP unQ MapF
def rightM (wk many : Int) : Option Nat := if wk < 1 then some 3 else if 16 < wk then some 3 else if 100 < many then some 2 else none
theorem right_calls (T : Nat) (E : Nat → Addr) (wk many : Int) (L : Heap) (hG : Er T E [2, 3] L) : HC Tryd.prog 126 [iv wk, iv many] L (fun v L' => v = eV T E (rightM wk many) ∧ L' = L) := by
  unfold rightM
  refine Ze (by kernel_rfl) Tryd.func126 rfl Tryd.ntmps126 (Nat.le_of_ble_eq_true rfl) ?_; simp only [args0, Nat.reduceAdd]
  by_cases h1 : wk < 1
  · simp only [if_pos h1]
    repeat' (first | refine uN ?_ | (refine uP ?_ ?_ <;> (intro h; ((try simp only [zs, ne_eq, and_true, true_and, eq_self, reduceCtorEq] at h); try exact zx))) | fail)
    all_goals (first | omega | exact sp1 uZ ⟨rfl, rfl⟩)
  simp only [if_neg h1]
  by_cases h2 : 16 < wk
  · simp only [if_pos h2]
    repeat' (first | refine uN ?_ | (refine uP ?_ ?_ <;> (intro h; ((try simp only [zs, ne_eq, and_true, true_and, eq_self, reduceCtorEq] at h); try exact zx))) | fail)
    all_goals (first | omega | exact sp1 uZ ⟨rfl, rfl⟩)
  simp only [if_neg h2]
  by_cases h3 : 100 < many
  · simp only [if_pos h3]
    repeat' (first | refine uN ?_ | (refine uP ?_ ?_ <;> (intro h; ((try simp only [zs, ne_eq, and_true, true_and, eq_self, reduceCtorEq] at h); try exact zx))) | fail)
    all_goals (first | omega | exact sp1 uZ ⟨rfl, rfl⟩)
  simp only [if_neg h3]
  repeat' (first | refine uN ?_ | (refine uP ?_ ?_ <;> (intro h; ((try simp only [zs, ne_eq, and_true, true_and, eq_self, reduceCtorEq] at h); try exact zx))) | fail)
  all_goals first | omega | exact sp1 uZ ⟨rfl, rfl⟩
end Go.HL
end

/-! QSdB -/
section
namespace Go.HL
set_option linter.unusedSectionVars false
variable [Tasks]
open Go Go.Proofs
set_option linter.unusedVariables false
set_option linter.unusedSimpArgs false
set_option maxHeartbeats 2000000 attribute [local irreducible] HW HO HQ HD HC QOp Has Upd Puts Gets seqQ blkQ loopQ fnQ actQ nextP unQ MapF
end Go.HL
end

/-! QSdE -/
section
namespace Go.HL
set_option linter.unusedSectionVars false
variable [Tasks]
open Go Go.Proofs
set_option linter.unusedVariables false
set_option linter.unusedSimpArgs false
set_option maxHeartbeats 2000000 attribute [local irreducible] HW HO HQ HD HC QOp Has Upd Puts Gets seqQ blkQ loopQ fnQ actQ nextP unQ MapF
section
variable [Go.ConcR.Payload]
/-- what a task yields: its number, a frame, an error -/
def doneV (i : Nat) (x : Fr) (e : Value) : Value := .agg ⟨iv i :: fc x ++ [e]⟩
theorem all1_calls (t : Tk) (bt bh bb td bk F : Nat) (cap : List Value) (fr : Nat → Fr) (er : Nat → Value) (f1 f2 f3 : Nat × Nat) (L0 : Heap) (h20 : t.st = 20) (htd : t.todo = td) (hbk : t.back = bk)
    (hbt : Has L0 bt (.cells ⟨[.chan (some td)]⟩ 203 f1)) (hbh : Has L0 bh (.cells ⟨[.func (.func F) #[] ⟨cap⟩]⟩ 190 f2)) (hbb : Has L0 bb (.cells ⟨[.chan (some bk)]⟩ 204 f3))
    (hF : ∀ i, i < t.many → ∀ c, HC Tryd.prog F (iv i :: cap) (c :: L0) (fun v L' => v = .tuple ⟨[.agg ⟨fc (fr i)⟩, er i]⟩ ∧ L' = c :: L0)) (hR : ∀ i, i < t.many → Tasks.R t.tag i (doneV i (fr i) (er i)) []) (he : ∀ i, er i = .nilIface ∨ ∃ t p, er i = .iface t (.pointer p)) :
    HC Tryd.prog 143 [pt bt 0, pt bh 0, pt bb 0] ([t.at_] :: L0) (fun v L' => v = .tuple #[] ∧ ∃ t' : Tk, t'.st = 22 ∧ t'.wg = t.wg ∧ L' = [t'.at_] :: L0) := by
  obtain ⟨g, td0, bk0, wg, m, nn, st, a0, b0, l⟩ := t
  obtain rfl : st = 20 := h20
  obtain rfl : td0 = td := htd
  obtain rfl : bk0 = bk := hbk
  refine Ze (by kernel_rfl) Tryd.func143 rfl Tryd.ntmps143 (Nat.le_of_ble_eq_true rfl) ?_; simp only [args0, Nat.reduceAdd]
  repeat' (first | refine uN ?_ | (refine uB ?_; intro b) | (refine uP ?_ ?_ <;> (intro h; ((try simp only [zs, ne_eq, and_true, true_and, eq_self, reduceCtorEq] at h); try exact zx))) | fail)
  refine hw_loop (σ := Nat × Nat) (fun q => [(0, pt bt 0), (1, pt bh 0), (2, pt bb 0), (6, .chan (some td0))]) (fun q => [(⟨g, td0, bk0, wg, m, nn, 20, q.1, q.2, l⟩ : Tk).at_] :: L0) (fun _ => True) (fun q => m - q.2) (a0, b0) uS (List.Sublist.refl _) trivial ?_
  rintro ⟨a, b⟩ -
  repeat' (first | refine uN ?_ | (refine uB ?_; intro b) | (refine uP ?_ ?_ <;> (intro h; ((try simp only [zs, ne_eq, and_true, true_and, eq_self, reduceCtorEq] at h); try exact zx))) | fail)
  refine e_recv rfl rfl Tryd.runUnderlying203 (Tryd.zeroValue3) (fun i hb hi => ?_) ?_
  · simp only at hb hi
    have kf := hF i hi [(⟨g, td0, bk0, wg, m, nn, 21, i, i + 1, l⟩ : Tk).at_]
    have hRi := hR i hi
    rcases he i with e | ⟨t1, p1, e⟩ <;> rw [e] at kf hRi
    all_goals (
      repeat' (first | refine uN ?_ | (refine uB ?_; intro b) | (refine uP ?_ ?_ <;> (intro h; ((try simp only [zs, ne_eq, and_true, true_and, eq_self, reduceCtorEq] at h); try exact zx))) | fail)
      refine gc kf ?_
      clear kf
      rintro v L' ⟨rfl, rfl⟩
      repeat' (first | refine uN ?_ | (refine uB ?_; intro b) | (refine uP ?_ ?_ <;> (intro h; ((try simp only [zs, ne_eq, and_true, true_and, eq_self, reduceCtorEq] at h); try exact zx))) | fail)
      refine fo 1 ?_
      refine e_send (bl := []) (L1 := L0) rfl rfl hRi (by simp) uZ ?_
      repeat' (first | refine uN ?_ | (refine uB ?_; intro b) | (refine uP ?_ ?_ <;> (intro h; ((try simp only [zs, ne_eq, and_true, true_and, eq_self, reduceCtorEq] at h); try exact zx))) | fail)
      exact loopQ_sp (i, i + 1) uS (LS.refl _) trivial (by simp only; omega))
  · repeat' (first | refine uN ?_ | (refine uB ?_; intro b) | (refine uP ?_ ?_ <;> (intro h; ((try simp only [zs, ne_eq, and_true, true_and, eq_self, reduceCtorEq] at h); try exact zx))) | fail)
    exact ee0 rfl ⟨rfl, _, rfl, rfl, rfl⟩
end
end Go.HL
end

/-! QKWd -/
section
namespace Go.HL
set_option linter.unusedSectionVars false
variable [Tasks]
open Go Go.Conc
set_option linter.unusedVariables false
set_option linter.unusedSectionVars false
set_option linter.unusedSimpArgs false
section
variable [Go.ConcR.Payload] {P : Program} {Wg C : Nat} {o : Obj} {v : Value} {L : Heap} {Φ : Goroutine → Heap → Prop}
theorem lo_callG {b : Frame} {a : Act} {k : List Item} {cs : List Frame} {ops : Array Oper} {i : Nat} {rest : List Nat} {o' : Oper} {f : Nat} {fn : Func} {c : Code} {as9 : Array Operand} {ats : Array TypeId} {args : Array Value} (ho : ops[i]? = some o') (hw : Region.wanted o' (yielded ops a.tmps) = true) (hk : b.kind ≠ .early)
    (hop : o'.op = .call { callee := .value (.func f), args := as9, argTypes := ats }) (hf : P.funcs[f]? = some fn) (hb : fn.body = some c) (hname : (fn.name == "runtime.NumGoroutine") = false) (hargs : as9.map a.eval = args)
    (n : Lo P false Φ (G (Frame.enter P f args .normal) (b.at a (.inRegion ops (i :: rest) :: k) :: cs)) L) : Lo P false Φ (G (b.at a (.inRegion ops (i :: rest) :: k)) cs) L :=
  .ctl rfl rfl (fun w => by
    have h1 : ¬ fn.name = "runtime.NumGoroutine" := by simpa using hname
    rw [stepG_enter ho hw hk (by rw [execOp_call_func hop, hargs]; exact (enters_of hf hb hname).run _ w)]
    unfold listed
    rw [execOp_call_func hop]
    simp [callFunc, hf, h1, hb, seen_none]) n
set_option maxRecDepth 100000 in
set_option maxHeartbeats 1000000 in
theorem done_neg {K : Lib.WgLink} (H : Lib.WgLib P K) (hT : Tasks.T = K.tWg) {t : Tk} {E : Nat} {l : Array Value} {fr : Nat × Nat} (h : At22 Wg C (.cells l E fr) t L) (hl : l[0]? = some v) {b₀ : Frame} {a₀ : Act} {ops₀ : Array Oper} {i₀ : Nat} {rest₀ : List Nat} {k₀ : List Item} {cs : List Frame} {qt : Nat}
    (hQ : QuitsD P qt 0 (G (b₀.at (a₀.put ((ops₀[i₀]?).bind (·.dst)) (.tuple #[])) (.inRegion ops₀ rest₀ :: k₀)) cs)) :
    Lo P false Φ (G (Frame.enter P K.done #[.pointer (some ⟨Wg, 0, none⟩)] .normal) (b₀.at a₀ (.inRegion ops₀ (i₀ :: rest₀) :: k₀) :: cs)) L := by
  have hb : (Lib.doneFn K).body = some ((Lib.doneFn K).body.getD .skip) := by rw [Lib.doneFn]; rfl
  have hn : (Lib.doneFn K).ntmps = 4 := rfl
  rw [Conc.enter_at _ H.f_done hb, hn]
  simp only [List.size_toArray, List.length_cons, List.length_nil, Nat.reduceAdd, Nat.reduceSub, Array.replicate_succ, Array.replicate_zero, List.push_toArray, List.append_toArray, List.nil_append, List.cons_append]
  simp only [Lib.doneFn, Option.getD_some]
  refine .ctl rfl rfl (fun w => stepG_region) ?_
  simp only [List.size_toArray, List.length_cons, List.length_nil, Nat.reduceAdd, Nat.zero_add, List.range, List.range.loop]
  refine .ctl rfl rfl (fun w => step_val (.pointer (some ⟨Wg, 0, none⟩)) rfl rfl (by k_ne) (by go_simp) (by simp [go_sem])) ?_
  walk_nrm
  refine lo_callG rfl rfl (by k_ne) rfl H.f_add (c := ConcR.Gen.body_add K) (by unfold ConcR.Gen.body_add; rw [Lib.addFn]; rfl) (ConcR.Gen.nm_add K) (by walk_nrm) (add_neg H hT h hl (b₀ := base K.done) (qt := qt + 3) ?_)
  walk_nrm
  refine QuitsD.ctl rfl (fun _ => stepG_region_end) ?_
  refine QuitsD.ctl rfl (fun _ => stepG_end) ?_
  exact QuitsD.leave0 rfl rfl H.f_done rfl hQ
end
end Go.HL
end

/-! QSdF -/
section
namespace Go.HL
set_option linter.unusedSectionVars false
variable [Tasks]
open Go Go.Proofs
set_option linter.unusedVariables false
set_option linter.unusedSimpArgs false
set_option maxHeartbeats 2000000 attribute [local irreducible] HW HO HQ HD HC QOp Has Upd Puts Gets seqQ blkQ loopQ fnQ actQ nextP unQ MapF
section
variable [Go.ConcR.Payload]
theorem last_lo {t : Tk} {wg C b2 E : Nat} {o : Array Value} {f f2 : Nat × Nat} {v : Value} {L : Heap} {T : Array Value} {todo : List Item} (hT : Tasks.T = 212) (h : At22 wg C (.cells o E f) t L) (hl : o[0]? = some v) (hb2 : Has L b2 (.cells ⟨[pt wg 0]⟩ 231 f2)) :
    Lo Tryd.prog false (fun _ _ => False) (Conc.G { (Conc.baseD 153).at ⟨T, [dclo 154 [pt b2 0]]⟩ todo with mode := .returning } [bornR Tryd.prog]) L := by
  refine .ctl rfl rfl (fun w => stepG_unwindC rfl Tryd.func154 (by kernel_rfl) rfl) ?_
  have ha := agr_enter (vs := [pt b2 0]) (m := 8) (by simp)
  rw [show Tryd.f154.ntmps = 8 from rfl]
  refine .ctl rfl rfl (fun w => Conc.stepG_seq) ?_
  refine .ctl rfl rfl (fun w => Conc.stepG_seq) ?_
  refine .ctl rfl rfl (fun w => Conc.stepG_region) ?_
  refine .ctl rfl rfl (fun w => stepG_recover rfl rfl rfl rfl rfl) ?_
  replace ha := ha.put (d := 2) (by decide) .nilIface
  refine lo_q rfl (by decide) rfl ha (q_assign rfl) fun ha => ?_
  refine .ctl rfl rfl (fun w => Conc.stepG_region_end) ?_
  refine hw_run_n (K := fun ρ' L' => lk ρ' 0 = some (pt b2 0) ∧ L' = L) ?_ ha (by decide) fun a' ρ' L' hd ha' ⟨h0, e⟩ => ?_
  · simp only [args0, Nat.reduceAdd]
    repeat' (first | refine uN ?_ | (refine uB ?_; intro b) | refine dg S 100 (fun _ _ => ?_) | (refine uP ?_ ?_ <;> (intro h; ((try simp only [zs, ne_eq, and_true, true_and, eq_self, reduceCtorEq] at h); try exact zx))) | refine da 101 ?_ | fail)
    exact ⟨rfl, rfl, rfl⟩
  subst e
  refine .ctl rfl rfl (fun w => Conc.stepG_region) ?_
  refine lo_q rfl (by decide) rfl ha' (q_load S (x := .tmp 0) h0 rfl rfl rfl hb2 rfl) fun ha2 => ?_
  have e6 := ha2.ev (x := .tmp 6) rfl
  refine lo_callG rfl rfl (by decide) rfl wgLib.f_done rfl (by kernel_rfl) (args := #[pt wg 0]) (by simp [e6]) ?_
  refine done_neg wgLib hT h hl (qt := 5) ?_
  refine Conc.QuitsD.ctl rfl (fun _ => Conc.stepG_region_end) ?_
  refine Conc.QuitsD.ctl rfl (fun _ => Conc.stepG_end) ?_
  refine Conc.QuitsD.leaveD rfl hd Tryd.func154 rfl rfl ?_
  exact quits_born rfl rfl Tryd.func153 rfl
/-- block C is as9 it was -/
structure AtC (C : Nat) (o : Obj) (L : Heap) : Prop where
  blk : ∃ o', (C, o') ∈ L.flatten ∧ gho o' = false ∧ act o' = o
  old : Tasks.O C
  at0 : Tasks.W0.heap[C]? = some o
  ne : ∀ a b c, o ≠ wgObj Tasks.T a b c
theorem worker_lo {t : Tk} {wg C b2 b3 E F : Nat} {cap : List Value} {o : Array Value} {f f2 f3 : Nat × Nat} {v : Value} {L : Heap} (hT : Tasks.T = 212) (h : AtC C (.cells o E f) L) (hw : t.wg = wg) (hl : o[0]? = some v)
    (hb2 : Has L b2 (.cells ⟨[pt wg 0]⟩ 231 f2)) (hb3 : Has L b3 (.cells ⟨[.func (.func F) #[] ⟨cap⟩]⟩ 1 f3))
    (hF : HC Tryd.prog F cap ([t.at_] :: L) (fun v L' => v = .tuple #[] ∧ ∃ t' : Tk, t'.st = 22 ∧ t'.wg = t.wg ∧ L' = [t'.at_] :: L)) :
    Lo Tryd.prog false (fun _ _ => False) (Conc.born Tryd.prog (dclo 153 [pt b2 0, pt b3 0])) ([t.at_] :: L) := by
  refine .ctl rfl rfl (fun w => stepG_born Tryd.func153 (by kernel_rfl) rfl) ?_
  have ha := agr_enter (vs := [pt b2 0, pt b3 0]) (m := 5) (by simp)
  rw [show Tryd.f153.ntmps = 5 from rfl]
  simp only [args0, Nat.reduceAdd] at ha
  refine hwd_run_n (d := [dclo 154 [pt b2 0]]) (K := fun _ L' => ∃ t' : Tk, t'.st = 22 ∧ t'.wg = t.wg ∧ L' = [t'.at_] :: L) ?_ ha (by decide) fun a' ρ' L' hd ha' ⟨t', h22, hwg, e⟩ => ?_
  · refine hwd_seq (d := [dclo 154 [pt b2 0]]) (d' := []) ?_
    refine hwd_deferC rfl (q_makeFunc rfl) rfl ?_
    refine ⟨rfl, ?_⟩
    refine HW.hwd ?_
    repeat' (first | refine uN ?_ | (refine uB ?_; intro b) | refine dg S 100 (fun _ _ => ?_) | (refine uP ?_ ?_ <;> (intro h; ((try simp only [zs, ne_eq, and_true, true_and, eq_self, reduceCtorEq] at h); try exact zx))) | refine da 101 ?_ | fail)
    refine gc hF ?_
    rintro v L' ⟨rfl, t', h22, hwg, rfl⟩
    repeat' (first | refine uN ?_ | (refine uB ?_; intro b) | refine dg S 100 (fun _ _ => ?_) | (refine uP ?_ ?_ <;> (intro h; ((try simp only [zs, ne_eq, and_true, true_and, eq_self, reduceCtorEq] at h); try exact zx))) | refine da 101 ?_ | fail)
    exact ⟨rfl, t', h22, hwg, rfl⟩
  · subst e
    refine .ctl rfl rfl (fun w => Conc.stepG_end) ?_
    obtain ⟨T, ds⟩ := a'
    simp only [List.append_nil] at hd
    subst hd
    obtain ⟨o', h1, h2, h3⟩ := h.blk
    exact last_lo hT ⟨h22, hwg.trans hw, by simp, ⟨o', by simp [h1], h2, h3⟩, h.old, h.at0, h.ne⟩ hl (has_next hb2)
theorem go_calls {t : Tk} {wg C E F : Nat} {cap : List Value} {o : Array Value} {f : Nat × Nat} {v : Value} {Lr L0 : Heap} (hT : Tasks.T = 212) (h : AtC C (.cells o E f) Lr) (hl : o[0]? = some v) (h0 : t.st = 0) (hn : t.n < 1000) (hw : t.wg = wg) (hro : ∀ p ∈ Lr.flatten, rob p.2 = true) (hls : LS Lr.flatten L0.flatten)
    (hF : ∀ c c', HC Tryd.prog F cap ([({ t with st := 20 } : Tk).at_] :: c :: c' :: Lr) (fun v L' => v = .tuple #[] ∧ ∃ t' : Tk, t'.st = 22 ∧ t'.wg = t.wg ∧ L' = [t'.at_] :: c :: c' :: Lr)) :
    HC Tryd.prog 142 [pt wg 0, .func (.func F) #[] ⟨cap⟩] ([t.at_] :: L0) (fun v L' => v = .tuple #[] ∧ L' = [({ t with n := t.n + 1 } : Tk).at_] :: L0) := by
  obtain ⟨g, td, bk, w0, m, nn, st, x, y, l⟩ := t
  obtain rfl : st = 0 := h0
  obtain rfl : w0 = wg := hw
  have k1 := fun L => addP_calls ⟨g, td, bk, w0, m, nn, 0, x, y, l⟩ w0 L rfl hn rfl
  refine Ze (by kernel_rfl) Tryd.func142 rfl Tryd.ntmps142 (Nat.le_of_ble_eq_true rfl) ?_; simp only [args0, Nat.reduceAdd]
  repeat' (first | refine uN ?_ | (refine uB ?_; intro b) | fail)
  rename_i b2
  generalize b = b3
  refine fo 2 ?_
  refine gc (k1 _) ?_
  rintro v L' ⟨rfl, rfl⟩
  refine ho_nil ?_
  refine seqQ_normal ?_
  refine hw_ro (L' := _ :: [(b3, ronly _)] :: [(b2, _)] :: L0) ?_
  refine hw_ro (L' := _ :: [(b3, ronly _)] :: [(b2, ronly _)] :: L0) ?_
  refine hw_nodup fun hnd => ?_
  repeat' (first | refine uN ?_ | (refine uB ?_; intro b) | fail)
  refine e_go (Lc := [(b2, ronly (.cells ⟨[pt w0 0]⟩ 231 (0, 0)))] :: [(b3, ronly (.cells ⟨[.func (.func F) #[] ⟨cap⟩]⟩ 1 (0, 0)))] :: Lr) rfl hnd ?_ ?_ ?_ ?_
  · obtain ⟨q, p1, p2⟩ := hls
    exact ⟨_ :: _ :: q, (List.Perm.swap _ _ _).trans ((p1.cons _).cons _), (p2.cons_cons _).cons_cons _⟩
  · intro p hp
    simp only [List.flatten_cons, List.cons_append, List.nil_append, List.mem_cons] at hp
    rcases hp with rfl | rfl | hp
    · exact rob_mark _ _ _
    · exact rob_mark _ _ _
    · exact hro p hp
  · refine worker_lo (C := C) (E := E) (o := o) (f := f) (v := v) (F := F) (f2 := (0 + (Tasks.m + 1), 0)) (f3 := (0 + (Tasks.m + 1), 0)) hT ?_ rfl hl ?_ ?_ (hF _ _)
    · obtain ⟨o', h1, h2, h3⟩ := h.blk
      exact ⟨⟨o', by simp [h1], h2, h3⟩, h.old, h.at0, h.ne⟩
    · exact has_here
    · exact has_next has_here
  repeat' (first | refine uN ?_ | (refine uB ?_; intro b) | fail)
  exact fn_end0 rfl ((((List.Sublist.refl L0).cons _).cons _).cons_cons _) ⟨rfl, rfl⟩
end
end Go.HL
end

/-! QHLKk -/
section
namespace Go.HL
set_option linter.unusedSectionVars false
variable [Tasks]
open Go
set_option linter.unusedVariables false
section c
variable {P : Program} {n : Nat} {ops : List Oper} {Q : Exit → Env → Heap → Prop} {ρ : Env} {L : Heap}
def splits {α : Type} : List α → List (α × List α)
  | [] => []
  | x :: r => (x, r) :: (splits r).map fun p => (p.1, x :: p.2)
theorem mem_splits {α : Type} : ∀ {a b : List α} {x : α}, (x, a ++ b) ∈ splits (a ++ x :: b)
  | [], b, x => .head _
  | y :: a, b, x => .tail _ (List.mem_map.2 ⟨(x, a ++ b), mem_splits, rfl⟩)
/-- whatever may come next -/
def nexts (ops : List Oper) (rem : List (Nat × Oper)) : List ((Nat × Oper) × List (Nat × Oper)) := (splits rem).filter fun p => readyR ops.length rem p.1.2
theorem hd_all {Ss : List (Nat × Blk)} {rem : List (Nat × Oper)} (h0 : nexts ops rem ≠ []) (h : ∀ x ∈ nexts ops rem, HO P n ops (actQ P n ops Q x.1.1 Ss x.2) [x.1.2] ρ L) : HD P n ops Q Ss rem ρ L := fun hS l hu => by
  obtain ⟨x0, hx0⟩ := List.exists_mem_of_ne_nil _ h0
  have hx1 := List.mem_filter.1 hx0
  have mem_of : ∀ {rem : List (Nat × Oper)} {x : (Nat × Oper) × List (Nat × Oper)}, x ∈ splits rem → x.1 ∈ rem := by
    intro rem
    induction rem with
    | nil => intro x hx; cases hx
    | cons y r ih =>
      intro x hx
      rcases List.mem_cons.1 hx with rfl | hx
      · exact .head _
      · obtain ⟨z, hz, rfl⟩ := List.mem_map.1 hx
        have h8 := ih hz
        exact .tail _ h8
  have hne : rem.length ≠ 0 := fun e => by
    rw [List.eq_nil_of_length_eq_zero e] at hx1
    cases hx1.1
  obtain ⟨m, hm⟩ := Nat.exists_eq_succ_of_ne_zero hne
  rw [hm]
  have hrd := hu.ready (show (x0.1.1, x0.1.2) ∈ rem from mem_of hx1.1) hx1.2
  refine ⟨fun h0 => (by rw [h0] at hrd; cases hrd), fun j hj => ?_⟩
  obtain ⟨o, hmj, hrj⟩ := hu.readyR_of hj
  obtain ⟨a, b, rfl⟩ := List.append_of_mem hmj
  have h9 := h ((j, o), a ++ b) (List.mem_filter.2 ⟨mem_splits, hrj⟩)
  simp only at h9
  have hlen : m = (a ++ b).length := by simp at hm ⊢; omega
  subst hlen
  obtain ⟨h1, h2⟩ := (hu.iff j o).1 hmj
  intro ac ha
  have h3 := ho_uncons h9 ac ha
  have fin : ∀ (a1 : Act) (L1 : Heap), (∃ ρ', Agr n a1 ρ' ∧ HO P n ops (actQ P n ops Q j Ss (a ++ b)) [] ρ' L1) → ∃ ρ', Agr n a1 ρ' ∧ ssOk ops j L1 Ss ∧ HAny P n ops Q (a ++ b).length (ssF ops j Ss) (l.setIfInBounds j true) ρ' L1 := fun a1 L1 hx => by
    obtain ⟨ρ', e1, L2, hw, e3, e4⟩ := hx
    have e5 : ssOk ops j L1 Ss := ssOk_ls hw e3
    refine ⟨ρ', e1, e5, HAny.ls (e4 (fun s hs => ?_) _ hu.drop) hw⟩
    have := List.mem_filter.1 hs
    exact ssOk_all.1 e3 s this.1 this.2
  unfold KOp
  rw [show ops.toArray[j]? = some o by simpa using h1]
  simp only
  split
  · rename_i hw
    rw [if_pos hw] at h3
    exact h3.mono fun v L1 hx => fin _ _ hx
  · rename_i hw
    rw [if_neg hw] at h3
    exact fin _ _ h3
/-- several actions may come next, in any order -/
theorem hd_two {Ss : List (Nat × Blk)} {rem r1 r2 : List (Nat × Oper)} {i j : Nat} {o p : Oper} (h1 : HO P n ops (actQ P n ops Q i Ss r1) [o] ρ L) (h2 : HO P n ops (actQ P n ops Q j Ss r2) [p] ρ L) (hn : nexts ops rem = [((i, o), r1), ((j, p), r2)] := by exact rfl) : HD P n ops Q Ss rem ρ L :=
  hd_all (by rw [hn]; simp) fun x hx => by
    rw [hn] at hx
    simp only [List.mem_cons, List.not_mem_nil, or_false] at hx
    rcases hx with rfl | rfl
    · exact h1
    · exact h2
theorem hd_three {Ss : List (Nat × Blk)} {rem r1 r2 r3 : List (Nat × Oper)} {i j k : Nat} {o p q : Oper} (h1 : HO P n ops (actQ P n ops Q i Ss r1) [o] ρ L) (h2 : HO P n ops (actQ P n ops Q j Ss r2) [p] ρ L) (h3 : HO P n ops (actQ P n ops Q k Ss r3) [q] ρ L) (hn : nexts ops rem = [((i, o), r1), ((j, p), r2), ((k, q), r3)] := by exact rfl) : HD P n ops Q Ss rem ρ L :=
  hd_all (by rw [hn]; simp) fun x hx => by
    rw [hn] at hx
    simp only [List.mem_cons, List.not_mem_nil, or_false] at hx
    rcases hx with rfl | rfl | rfl
    · exact h1
    · exact h2
    · exact h3
theorem hd_four {Ss : List (Nat × Blk)} {rem r1 r2 r3 r4 : List (Nat × Oper)} {i j k m : Nat} {o p q r : Oper} (h1 : HO P n ops (actQ P n ops Q i Ss r1) [o] ρ L) (h2 : HO P n ops (actQ P n ops Q j Ss r2) [p] ρ L) (h3 : HO P n ops (actQ P n ops Q k Ss r3) [q] ρ L) (h4 : HO P n ops (actQ P n ops Q m Ss r4) [r] ρ L)
    (hn : nexts ops rem = [((i, o), r1), ((j, p), r2), ((k, q), r3), ((m, r), r4)] := by exact rfl) : HD P n ops Q Ss rem ρ L :=
  hd_all (by rw [hn]; simp) fun x hx => by
    rw [hn] at hx
    simp only [List.mem_cons, List.not_mem_nil, or_false] at hx
    rcases hx with rfl | rfl | rfl | rfl
    · exact h1
    · exact h2
    · exact h3
    · exact h4
end c
section w
variable {P : Program} {n : Nat} {ops : List Oper} {Q : Exit → Env → Heap → Prop} {rest : List Oper} {ρ : Env} {L : Heap} {ty : TypeId} {pos : String} {af : Array Edge}
/-- a channel without room -/
theorem w_chan (S : Tab P) {d : Nat} {T E : TypeId} {ti : TyI} {dir : ChanDir} {x : Operand} (hu : ∀ w, (underlying T).run P w = .ok (.chan dir E) w) (he : lkN S.ty E = some ti) (h : ∀ b, HO P n ops Q rest ((d, .chan (some b)) :: ρ) ([(b, .chan 0 #[] false 0 0 false)] :: L)) (hx : ev ρ x = some (.int .i64 0) := by exact rfl) (hn : Nat.blt d n = true := by exact rfl) :
    HO P n ops Q (⟨some d, .makeChan T x, ty, pos, af, none⟩ :: rest) ρ L :=
  ho_run rfl rfl hn fun ρe hh k w hs => ⟨.chan (some w.heap.size), w.alloc (.chan 0 #[] false 0 0 false), _, by
    obtain ⟨dd, j, hd, hj, _⟩ := ty_desc (S.tyI he)
    simp [execOp, Instr.makeChan, hh x (by simp [Op.operands]) _ hx, asInt, asIntOf, hu w, typeInfo, hj, newObj, Result.andThen, show ¬ IntKind.i64.max < 0 by decide]
    rfl, hs.new _, h _⟩
end w
end Go.HL
end

/-! QSdG -/
section
namespace Go.HL
set_option linter.unusedSectionVars false
variable [Tasks]
open Go Go.Proofs
set_option linter.unusedVariables false
set_option linter.unusedSimpArgs false
/-- how far the starter has come: which tasks are out, what has come back -/
structure AllI (fr : Nat → Fr) (er : Nat → Value) (m a b : Nat) (l : List Nat) (xs : List Fr) (es : List Value) : Prop where
  lx : xs.length = m
  le : es.length = m
  nd : l.Nodup
  lt : ∀ i ∈ l, i < a
  sum : b + l.length = a
  am : a ≤ m
  fin : ∀ i, i < a → i ∉ l → xs[i]? = some (fr i) ∧ es[i]? = some (er i)
theorem AllI.out {fr : Nat → Fr} {er : Nat → Value} {m a b : Nat} {l : List Nat} {xs : List Fr} {es : List Value} (h : AllI fr er m a b l xs es) (ha : a < m) : AllI fr er m (a + 1) b (a :: l) xs es :=
  ⟨h.lx, h.le, List.nodup_cons.2 ⟨fun hm => by have := h.lt a hm; omega, h.nd⟩, fun i hi => by
    rcases List.mem_cons.1 hi with rfl | hi
    · omega
    · have := h.lt i hi; omega, by simp only [List.length_cons]; have := h.sum; omega, by omega, fun i hi hn => by
    simp only [List.mem_cons, not_or] at hn
    exact h.fin i (by omega) hn.2⟩
theorem AllI.back {fr : Nat → Fr} {er : Nat → Value} {m a b : Nat} {l : List Nat} {xs : List Fr} {es : List Value} (h : AllI fr er m a b l xs es) {i : Nat} (hi : i ∈ l) : i < m ∧ AllI fr er m a (b + 1) (l.erase i) (xs.set i (fr i)) (es.set i (er i)) := by
  have hlt := h.lt i hi
  have ham := h.am
  refine ⟨by omega, by simp [h.lx], by simp [h.le], h.nd.erase i, fun j hj => h.lt j (List.mem_of_mem_erase hj), ?_, h.am, fun j hj hn => ?_⟩
  · rw [List.length_erase_of_mem hi]
    have := h.sum
    have : 1 ≤ l.length := List.length_pos_iff.2 (List.ne_nil_of_mem hi)
    omega
  · by_cases e : i = j
    · subst e
      rw [List.getElem?_set_self (by rw [h.lx]; omega), List.getElem?_set_self (by rw [h.le]; omega)]
      exact ⟨rfl, rfl⟩
    · rw [List.getElem?_set_ne e, List.getElem?_set_ne e]
      exact h.fin j hj fun hm => hn ((List.mem_erase_of_ne (fun q => e q.symm)).2 hm)
theorem AllI.all {fr : Nat → Fr} {er : Nat → Value} {m a b : Nat} {l : List Nat} {xs : List Fr} {es : List Value} (h : AllI fr er m a b l xs es) (hb : m ≤ b) : l = [] ∧ xs = (List.range m).map fr ∧ es = (List.range m).map er := by
  have hl : l = [] := List.length_eq_zero_iff.1 (by have := h.sum; have := h.am; omega)
  have ha : a = m := by have := h.sum; have := h.am; omega
  subst hl ha
  refine ⟨rfl, List.ext_getElem? fun i => ?_, List.ext_getElem? fun i => ?_⟩
  · by_cases hi : i < a
    · rw [(h.fin i hi (by simp)).1]; simp [hi]
    · rw [List.getElem?_eq_none (by rw [h.lx]; omega), List.getElem?_eq_none (by simp; omega)]
  · by_cases hi : i < a
    · rw [(h.fin i hi (by simp)).2]; simp [hi]
    · rw [List.getElem?_eq_none (by rw [h.le]; omega), List.getElem?_eq_none (by simp; omega)]
theorem AtC.mono [Tasks] {C : Nat} {o : Obj} {L L' : Heap} (h : AtC C o L) (hm : ∀ p ∈ L.flatten, p ∈ L'.flatten) : AtC C o L' := ⟨let ⟨o', a, b⟩ := h.blk; ⟨o', hm _ a, b⟩, h.old, h.at0, h.ne⟩
theorem puts_fr {xs : List Fr} {i : Nat} {x : Fr} (h : i < xs.length) : Puts (xs.map fc).flatten (0 + (i : Int).toNat * 9) (fc x) ((xs.set i x).map fc).flatten := by
  have := puts_row (enc := fc) (sz := 9) (fun _ => rfl) xs [] [] i (0 + (i : Int).toNat * 9) x h (by simp)
  simpa using this
set_option maxHeartbeats 2000000 attribute [local irreducible] HW HO HQ HD HC QOp Has Upd Puts Gets seqQ blkQ loopQ fnQ actQ nextP unQ MapF
section
variable [Go.ConcR.Payload]
set_option maxRecDepth 100000 in
theorem all_calls {t : Tk} {C E F g many wk : Nat} {cap : List Value} {o : Array Value} {f : Nat × Nat} {v0 : Value} {Lr L0 : Heap} (fr : Nat → Fr) (er : Nat → Value) (hT : Tasks.T = 212) (h : AtC C (.cells o E f) Lr) (hl : o[0]? = some v0) (h12 : t.st = 12) (hk1 : 1 ≤ wk) (hk2 : wk ≤ 100) (hm : many ≤ 1000)
    (hro : ∀ p ∈ Lr.flatten, rob p.2 = true) (hls : LS Lr.flatten L0.flatten) (he : ∀ i, er i = .nilIface ∨ ∃ t p, er i = .iface t (.pointer p))
    (hF : ∀ i, i < many → ∀ X, HC Tryd.prog F (iv i :: cap) (X ++ Lr) (fun v L' => v = .tuple ⟨[.agg ⟨fc (fr i)⟩, er i]⟩ ∧ L' = X ++ Lr)) (hR : ∀ i, i < many → Tasks.R g i (doneV i (fr i) (er i)) []) (hR2 : ∀ i v bl, Tasks.R g i v bl → v = doneV i (fr i) (er i) ∧ bl = []) :
    HC Tryd.prog 127 [iv many, iv wk, .func (.func F) #[] ⟨cap⟩] ([t.at_] :: L0) (fun v L' => ∃ (bo be : Nat) (t' : Tk), v = .tuple ⟨[sl bo 0 many many, sl be 0 many many]⟩ ∧ t'.st = 12 ∧ L' = [t'.at_] :: [(bo, .cells ⟨(((List.range many).map fr).map fc).flatten⟩ 45)] :: [(be, .cells ⟨(List.range many).map er⟩ 37)] :: L0) := by
  refine Ze (by kernel_rfl) Tryd.func127 rfl Tryd.ntmps127 (Nat.le_of_ble_eq_true rfl) ?_; simp only [args0, Nat.reduceAdd]
  refine hw_seq ?_
  refine hw_region ?_
  refine wb (fun bh => ?_)
  refine uN ?_
  refine uN ?_
  refine uN ?_
  refine uN ?_
  refine hw_seq ?_
  apply once_w (ι := Nat × Nat × Nat × Nat) (fun _ => True) (fun q => [(0, iv many), (1, iv wk), (2, .func (.func F) #[] ⟨cap⟩), (5, pt bh 0), (8, pt q.1 0), (9, pt q.2.1 0)])
    (fun q => [(q.1, .cells ⟨[.chan (some q.2.2.1)]⟩ 203)] :: [(q.2.1, .cells ⟨[.chan (some q.2.2.2)]⟩ 204)] :: [(q.2.2.1, .chan 0 #[] false 0 0 false)] :: [(q.2.2.2, .chan 0 #[] false 0 0 false)] :: [(bh, .cells ⟨[.func (.func F) #[] ⟨cap⟩]⟩ 190)] :: [t.at_] :: L0)
  · intro key
    have kk := fun bt bb c d ρ' L' hs hl => hw_sub (ρ := ρ') (hw_sp (L := L') (key (bt, bb, c, d) trivial) hl) hs
    simp only at kk
    refine g_d S ?_
    repeat' first
      | (show HO _ _ _ _ _ _ _; first | refine ho_nil ?_ | refine w_chan S Tryd.runUnderlying203 rfl (fun b => ?_) | refine w_chan S Tryd.runUnderlying204 rfl (fun b => ?_) | refine wa S (fun b => ?_) | refine ws S ?_)
      | (show HD _ _ _ _ _ _ _ _; first | refine hd_nil ?_ | refine hd_four ?_ ?_ ?_ ?_ | refine hd_three ?_ ?_ ?_ | refine hd_two ?_ ?_ | refine da 101 ?_)
      | refine dx ?_
      | refine dx0 ?_
    all_goals (
      refine seqQ_normal ?_
      exact kk _ _ _ _ _ _ ⟨rfl, rfl, rfl, rfl, rfl, rfl, trivial⟩ uL)
  rintro ⟨bt, bb, c, d⟩ -
  simp only
  refine hw_seq ?_
  refine hw_region ?_
  refine wa S (fun u => ?_)
  refine ho_nil ?_
  refine seqQ_normal ?_
  refine hw_ro (L' := _ :: [(bt, ronly _)] :: _ :: _ :: _ :: _ :: _) ?_
  refine hw_ro (L' := _ :: _ :: [(bb, ronly _)] :: _ :: _ :: _ :: _) ?_
  refine hw_ro (L' := _ :: _ :: _ :: _ :: _ :: [(bh, ronly _)] :: _) ?_
  refine hw_begin (t := t) (t' := ⟨g, c, d, u, many, 0, 0, 0, 0, []⟩) c d u 0 h12 rfl rfl rfl rfl rfl rfl rfl rfl (r := (bh, ronly (.cells ⟨[.func (.func F) #[] ⟨cap⟩]⟩ 190 (0, 0))) :: (bt, ronly (.cells ⟨[.chan (some c)]⟩ 203 (0, 0))) :: (bb, ronly (.cells ⟨[.chan (some d)]⟩ 204 (0, 0))) :: L0.flatten) ?_ ?_
  · have ew : wgObj 212 0 0 0 = .cells ⟨[.int .u64 0, .int .u32 0]⟩ 212 := rfl
    rw [hT, ew]
    show LS (([t.at_] :: [(c, _)] :: [(d, _)] :: [(u, _)] :: [(bh, ronly (.cells ⟨[.func (.func F) #[] ⟨cap⟩]⟩ 190 (0, 0)))] :: [(bt, ronly (.cells ⟨[.chan (some c)]⟩ 203 (0, 0)))] :: [(bb, ronly (.cells ⟨[.chan (some d)]⟩ 204 (0, 0)))] :: L0 : Heap).flatten) _
    exact uL
  refine hw_fl (L' := [(⟨g, c, d, u, many, 0, 0, 0, 0, []⟩ : Tk).at_] :: [(bh, ronly (.cells ⟨[.func (.func F) #[] ⟨cap⟩]⟩ 190 (0, 0)))] :: [(bt, ronly (.cells ⟨[.chan (some c)]⟩ 203 (0, 0)))] :: [(bb, ronly (.cells ⟨[.chan (some d)]⟩ 204 (0, 0)))] :: L0) ?_ (by simp)
  refine uN ?_
  repeat' (first | refine uN ?_ | (refine uB ?_; intro b) | (refine uP ?_ ?_ <;> (intro h; ((try simp only [zs, ne_eq, and_true, true_and, eq_self, reduceCtorEq] at h); try exact zx))) | refine da 101 ?_ | fail)
  refine hw_loop (σ := Nat) (fun i => [(0, iv many), (1, iv wk), (5, pt bh 0), (8, pt bt 0), (9, pt bb 0), (10, pt u 0), (17, iv wk), (18, iv i)]) (fun i => [(⟨g, c, d, u, many, i, 0, 0, 0, []⟩ : Tk).at_] :: [(bh, ronly (.cells ⟨[.func (.func F) #[] ⟨cap⟩]⟩ 190 (0, 0)))] :: [(bt, ronly (.cells ⟨[.chan (some c)]⟩ 203 (0, 0)))] :: [(bb, ronly (.cells ⟨[.chan (some d)]⟩ 204 (0, 0)))] :: L0) (fun i => i ≤ wk) (fun i => wk - i) 0 uS (List.Sublist.refl _) (Nat.zero_le _) ?_
  intro i hi
  have kg := go_calls (t := ⟨g, c, d, u, many, i, 0, 0, 0, []⟩) (wg := u) (C := C) (E := E) (F := 143) (cap := [pt bt 0, pt bh 0, pt bb 0]) (o := o) (f := f) (v := v0) (Lr := [(bh, ronly (.cells ⟨[.func (.func F) #[] ⟨cap⟩]⟩ 190 (0, 0)))] :: [(bt, ronly (.cells ⟨[.chan (some c)]⟩ 203 (0, 0)))] :: [(bb, ronly (.cells ⟨[.chan (some d)]⟩ 204 (0, 0)))] :: Lr) (L0 := [(bh, ronly (.cells ⟨[.func (.func F) #[] ⟨cap⟩]⟩ 190 (0, 0)))] :: [(bt, ronly (.cells ⟨[.chan (some c)]⟩ 203 (0, 0)))] :: [(bb, ronly (.cells ⟨[.chan (some d)]⟩ 204 (0, 0)))] :: L0) hT (h.mono fun p hp => by simp [hp]) hl rfl (show i < 1000 by omega) rfl
    (fun p hp => by
      simp only [List.flatten_cons, List.cons_append, List.nil_append, List.mem_cons] at hp
      rcases hp with rfl | rfl | rfl | hp
      · exact rob_mark _ _ _
      · exact rob_mark _ _ _
      · exact rob_mark _ _ _
      · exact hro p hp) (LS.k (LS.k (LS.k hls)))
    (fun c1 c2 => all1_calls _ bt bh bb c d F cap fr er _ _ _ (c1 :: c2 :: [(bh, ronly (.cells ⟨[.func (.func F) #[] ⟨cap⟩]⟩ 190 (0, 0)))] :: [(bt, ronly (.cells ⟨[.chan (some c)]⟩ 203 (0, 0)))] :: [(bb, ronly (.cells ⟨[.chan (some d)]⟩ 204 (0, 0)))] :: Lr) rfl rfl rfl (has_next (has_next (has_next has_here))) (has_next (has_next has_here)) (has_next (has_next (has_next (has_next has_here)))) (fun j hj c0 => hF j hj [c0, c1, c2, _, _, _]) hR he)
  by_cases hlt : i < wk
  · repeat' (first | refine uN ?_ | (refine uB ?_; intro b) | (refine uP ?_ ?_ <;> (intro h; ((try simp only [zs, ne_eq, and_true, true_and, eq_self, reduceCtorEq] at h); try exact zx))) | refine da 101 ?_ | fail)
    refine gc kg ?_
    rintro v L' ⟨rfl, rfl⟩
    repeat' (first | refine uN ?_ | (refine uB ?_; intro b) | (refine uP ?_ ?_ <;> (intro h; ((try simp only [zs, ne_eq, and_true, true_and, eq_self, reduceCtorEq] at h); try exact zx))) | refine da 101 ?_ | fail)
    exact loopQ_sp (i + 1) uS (LS.refl _) (by omega) (by omega)
  obtain rfl : i = wk := by omega
  clear kg
  repeat' (first | refine uN ?_ | (refine uB ?_; intro b) | (refine uP ?_ ?_ <;> (intro h; ((try simp only [zs, ne_eq, and_true, true_and, eq_self, reduceCtorEq] at h); try exact zx))) | refine da 101 ?_ | fail)
  apply once_w (ι := Nat × Nat) (fun _ => True) (fun q => [(0, iv many), (5, pt bh 0), (6, sl q.1 0 many many), (7, sl q.2 0 many many), (8, pt bt 0), (9, pt bb 0), (10, pt u 0)])
    (fun q => [(q.1, .cells ⟨(List.replicate many (fc zeroF)).flatten⟩ 45)] :: [(q.2, .cells ⟨List.replicate many .nilIface⟩ 37)] :: [(⟨g, c, d, u, many, i, 0, 0, 0, []⟩ : Tk).at_] :: [(bh, ronly (.cells ⟨[.func (.func F) #[] ⟨cap⟩]⟩ 190 (0, 0)))] :: [(bt, ronly (.cells ⟨[.chan (some c)]⟩ 203 (0, 0)))] :: [(bb, ronly (.cells ⟨[.chan (some d)]⟩ 204 (0, 0)))] :: L0)
  · intro key
    have kk := fun bo be ρ' L' hs hl => hw_sub (ρ := ρ') (hw_sp (L := L') (key (bo, be) trivial) hl) hs
    simp only at kk
    refine g_d S ?_
    repeat' first
      | (show HO _ _ _ _ _ _ _; first | refine ho_nil ?_ | (refine uB ?_; intro b))
      | (show HD _ _ _ _ _ _ _ _; first | refine hd_nil ?_ | refine uN ?_ | refine hd_two ?_ ?_ | refine da 101 ?_)
      | refine dx ?_
      | refine dx0 ?_
    all_goals (
      refine seqQ_normal ?_
      exact kk _ _ _ _ ⟨rfl, rfl, rfl, rfl, rfl, rfl, rfl, trivial⟩ uL)
  rintro ⟨bo, be⟩ -
  simp only
  rw [show (List.replicate many (fc zeroF)).flatten = ((List.replicate many zeroF).map fc).flatten by rw [List.map_replicate]]
  repeat' (first | refine uN ?_ | (refine uB ?_; intro b) | (refine uP ?_ ?_ <;> (intro h; ((try simp only [zs, ne_eq, and_true, true_and, eq_self, reduceCtorEq] at h); try exact zx))) | refine da 101 ?_ | fail)
  refine hw_loop (σ := Nat × Nat × List Nat × List Fr × List Value) (fun q => [(0, iv many), (6, sl bo 0 many many), (7, sl be 0 many many), (8, pt bt 0), (9, pt bb 0), (10, pt u 0), (11, iv q.1), (12, iv q.2.1)])
    (fun q => [(bo, .cells ⟨(q.2.2.2.1.map fc).flatten⟩ 45)] :: [(be, .cells ⟨q.2.2.2.2⟩ 37)] :: [(⟨g, c, d, u, many, i, 0, q.1, q.2.1, q.2.2.1⟩ : Tk).at_] :: [(bh, ronly (.cells ⟨[.func (.func F) #[] ⟨cap⟩]⟩ 190 (0, 0)))] :: [(bt, ronly (.cells ⟨[.chan (some c)]⟩ 203 (0, 0)))] :: [(bb, ronly (.cells ⟨[.chan (some d)]⟩ 204 (0, 0)))] :: L0) (fun q => AllI fr er many q.1 q.2.1 q.2.2.1 q.2.2.2.1 q.2.2.2.2) (fun q => (many - q.1) + (many - q.2.1)) (0, 0, [], List.replicate many zeroF, List.replicate many .nilIface) uS (List.Sublist.refl _)
    ⟨by simp, by simp, by simp, by simp, by simp, by simp, fun j hj => by simp at hj⟩ ?_
  rintro ⟨a, y, l, xs, es⟩ hI
  simp only at hI ⊢
  have hsum := hI.sum
  have ham := hI.am
  by_cases hb : y < many
  · by_cases hae : a = many
    · have hae' : (a : Int) = many := by omega
      repeat' (first | refine uN ?_ | (refine uB ?_; intro b) | (refine uP ?_ ?_ <;> (intro h; ((try simp only [zs, ne_eq, and_true, true_and, eq_self, reduceCtorEq] at h); try exact zx))) | refine da 101 ?_ | fail)
      refine fo 2 ?_
      refine e_select (t := ⟨g, c, d, u, many, i, 0, a, y, l⟩) rfl rfl hb hk1 rfl rfl Tryd.zeroValue3 Tryd.zeroValue215 ?_ ?_ (by show _ = some (Value.chan (if a = many then none else some c)); rw [if_pos hae]; rfl)
      · intro h; exact absurd hae (by simp only at h; omega)
      · intro j v bl hj hRv
        obtain ⟨rfl, rfl⟩ := hR2 j v bl hRv
        obtain ⟨hjm, hI2⟩ := hI.back hj
        have hp1 := puts_fr (x := fr j) (show j < xs.length by rw [hI.lx]; exact hjm)
        have hp2 : Puts es (0 + (j : Int).toNat) [er j] (es.set j (er j)) := by simpa using puts_set (v := er j) (show j < es.length by rw [hI.le]; exact hjm)
        rcases he j with e | ⟨t1, p1, e⟩ <;> rw [e] at hp2 hI2 ⊢
        all_goals (
          repeat' (first | refine uN ?_ | refine g_d S ?_ | (refine uB ?_; intro b) | (refine uP ?_ ?_ <;> (intro h; ((try simp only [zs, ne_eq, and_true, true_and, eq_self, reduceCtorEq] at h); try exact zx))) | refine da 101 ?_ | fail)
          exact loopQ_sp (a, y + 1, l.erase j, xs.set j (fr j), es.set j _) uS uL hI2 (by simp only; omega))
    · have hae' : ¬ (a : Int) = many := by omega
      repeat' (first | refine uN ?_ | (refine uB ?_; intro b) | (refine uP ?_ ?_ <;> (intro h; ((try simp only [zs, ne_eq, and_true, true_and, eq_self, reduceCtorEq] at h); try exact zx))) | refine da 101 ?_ | fail)
      refine fo 2 ?_
      refine e_select (t := ⟨g, c, d, u, many, i, 0, a, y, l⟩) rfl rfl hb hk1 rfl rfl Tryd.zeroValue3 Tryd.zeroValue215 ?_ ?_ (by show _ = some (Value.chan (if a = many then none else some c)); rw [if_neg hae]; rfl)
      · intro h
        repeat' (first | refine uN ?_ | (refine uB ?_; intro b) | (refine uP ?_ ?_ <;> (intro h; ((try simp only [zs, ne_eq, and_true, true_and, eq_self, reduceCtorEq] at h); try exact zx))) | refine da 101 ?_ | fail)
        exact loopQ_sp (a + 1, y, a :: l, xs, es) uS uL (hI.out (by omega)) (by simp only; omega)
      · intro j v bl hj hRv
        obtain ⟨rfl, rfl⟩ := hR2 j v bl hRv
        obtain ⟨hjm, hI2⟩ := hI.back hj
        have hp1 := puts_fr (x := fr j) (show j < xs.length by rw [hI.lx]; exact hjm)
        have hp2 : Puts es (0 + (j : Int).toNat) [er j] (es.set j (er j)) := by simpa using puts_set (v := er j) (show j < es.length by rw [hI.le]; exact hjm)
        rcases he j with e | ⟨t1, p1, e⟩ <;> rw [e] at hp2 hI2 ⊢
        all_goals (
          repeat' (first | refine uN ?_ | refine g_d S ?_ | (refine uB ?_; intro b) | (refine uP ?_ ?_ <;> (intro h; ((try simp only [zs, ne_eq, and_true, true_and, eq_self, reduceCtorEq] at h); try exact zx))) | refine da 101 ?_ | fail)
          exact loopQ_sp (a, y + 1, l.erase j, xs.set j (fr j), es.set j _) uS uL hI2 (by simp only; omega))
  obtain ⟨rfl, rfl, rfl⟩ := hI.all (by omega)
  repeat' (first | refine uN ?_ | (refine uB ?_; intro b) | (refine uP ?_ ?_ <;> (intro h; ((try simp only [zs, ne_eq, and_true, true_and, eq_self, reduceCtorEq] at h); try exact zx))) | refine da 101 ?_ | fail)
  refine fo 2 ?_
  refine e_close rfl rfl rfl ?_
  repeat' (first | refine uN ?_ | (refine uB ?_; intro b) | (refine uP ?_ ?_ <;> (intro h; ((try simp only [zs, ne_eq, and_true, true_and, eq_self, reduceCtorEq] at h); try exact zx))) | refine da 101 ?_ | fail)
  refine gc (wait_calls _ u _ rfl rfl) ?_
  rintro v L' ⟨rfl, t', ht', rfl⟩
  repeat' (first | refine uN ?_ | (refine uB ?_; intro b) | (refine uP ?_ ?_ <;> (intro h; ((try simp only [zs, ne_eq, and_true, true_and, eq_self, reduceCtorEq] at h); try exact zx))) | refine da 101 ?_ | fail)
  exact sp2 (L' := [t'.at_] :: [(bo, _)] :: [(be, _)] :: L0) uZ ⟨bo, be, t', rfl, ht', rfl⟩
end
end Go.HL
end

/-! QKNr -/
section
namespace Go.HL
set_option linter.unusedSectionVars false
variable [Tasks]
open Go
set_option linter.unusedVariables false
set_option linter.unusedSimpArgs false
/-- what it yields, if it looks at no memory -/
def Nrm {α : Type} (P : Program) : Nat → Sem α → Option α
  | _, .pure a => some a
  | n + 1, .program k => Nrm P n (k P)
  | n + 1, .mark (.extern _) k => Nrm P n k
  | _, _ => none
theorem nrm_spec {α : Type} {P : Program} : ∀ {n : Nat} {s : Sem α} {a : α}, Nrm P n s = some a → (∀ w, s.run P w = .ok a w) ∧ ∀ B W N, Plo P B W N s := by
  intro n
  induction n with
  | zero =>
    intro s a h
    cases s <;> simp [Nrm] at h
    subst h
    exact ⟨fun w => rfl, fun B W N => trivial⟩
  | succ n ih =>
    intro s a h
    cases s with
    | pure b =>
      simp [Nrm] at h
      subst h
      exact ⟨fun w => rfl, fun B W N => trivial⟩
    | program k =>
      simp only [Nrm] at h
      obtain ⟨h1, h2⟩ := ih h
      exact ⟨fun w => h1 w, fun B W N => .inl (h2 B W N)⟩
    | mark m k =>
      cases m with
      | extern f =>
        simp only [Nrm] at h
        obtain ⟨h1, h2⟩ := ih h
        exact ⟨fun w => h1 w, fun B W N => .inl ⟨.inr ⟨f, rfl⟩, h2 B W N⟩⟩
      | _ => simp [Nrm] at h
    | _ => simp [Nrm] at h
theorem nrm_bind {α β : Type} {P : Program} {B W : Nat → Prop} {N : Nat} : ∀ {n : Nat} {s : Sem α} {a : α} {f : α → Sem β}, Nrm P n s = some a → Plo P B W N (f a) → Plo P B W N (s.bind f) := by
  intro n
  induction n with
  | zero =>
    intro s a f h hf
    cases s <;> simp [Nrm] at h
    subst h
    exact hf
  | succ n ih =>
    intro s a f h hf
    cases s with
    | pure b =>
      simp [Nrm] at h
      subst h
      exact hf
    | program k => exact .inl (ih (by simpa only [Nrm] using h) hf)
    | mark m k =>
      cases m with
      | extern g => exact .inl ⟨.inr ⟨g, rfl⟩, ih (by simpa only [Nrm] using h) hf⟩
      | _ => simp [Nrm] at h
    | _ => simp [Nrm] at h
theorem nrm_bindM {α β : Type} {P : Program} {B W : Nat → Prop} {N n : Nat} {s : Sem α} {a : α} {f : α → Sem β} (h : Nrm P n s = some a) (hf : Plo P B W N (f a)) : Plo P B W N (s >>= f) := nrm_bind h hf
/-- it makes one block, and looks at no memory else -/
def NewIs {α : Type} (P : Program) (o : Obj) (u : Nat → α) : Nat → Sem α → Prop
  | n + 1, .program k => NewIs P o u n (k P)
  | n + 1, .mark (.extern _) k => NewIs P o u n k
  | n + 1, .new o' k => o' = o ∧ ∀ r, Nrm P n (k r) = some (u r)
  | _, _ => False
def NewOk {α : Type} (o : Obj) (u : Nat → α) : Prop := o = o ∧ ∀ r, some (u r) = some (u r)
theorem new_ok {α : Type} {P : Program} {o : Obj} {u : Nat → α} {n : Nat} {s : Sem α} (h : NewIs P o u n s = NewOk o u) : NewIs P o u n s := h.mpr ⟨rfl, fun _ => rfl⟩
theorem new_spec {α : Type} {P : Program} {o : Obj} {u : Nat → α} (ho : noView o = true) : ∀ {n : Nat} {s : Sem α}, NewIs P o u n s → (∀ w, s.run P w = .ok (u w.heap.size) (w.alloc o)) ∧ ∀ B W N, Plo P B W N s := by
  intro n
  induction n with
  | zero => intro s h; cases s <;> simp [NewIs] at h
  | succ n ih =>
    intro s h
    cases s with
    | program k =>
      obtain ⟨h1, h2⟩ := ih (show NewIs P o u n (k P) from h)
      exact ⟨fun w => h1 w, fun B W N => .inl (h2 B W N)⟩
    | mark m k =>
      cases m with
      | extern f =>
        obtain ⟨h1, h2⟩ := ih (show NewIs P o u n k from h)
        exact ⟨fun w => h1 w, fun B W N => .inl ⟨.inr ⟨f, rfl⟩, h2 B W N⟩⟩
      | _ => simp [NewIs] at h
    | new o' k =>
      obtain ⟨rfl, h⟩ := h
      exact ⟨fun w => (nrm_spec (h _)).1 _, fun B W N => .inl ⟨ho, fun r _ => (nrm_spec (h r)).2 B W N⟩⟩
    | _ => simp [NewIs] at h
section
variable {P : Program} {n : Nat} {ρ : Env} {L : Heap} {d : Option Tmp} {ty : TypeId} {pos : String} {af : Array Edge} {g : Option (Nat × Bool)}
theorem pl_ext {F : Nat} {vs : Array Value} {fn : Func} {E : Array Value → Sem Value} {B W : Nat → Prop} {N : Nat} (hf : P.funcs[F]? = some fn) (hname : (fn.name == "runtime.NumGoroutine") = false) (hb : fn.body.isNone = true) (hn : Extern.findNext fn = none) (he : Extern.find fn = some E) (hp : Plo P B W N (E vs)) : Plo P B W N (callFunc F vs) := by
  have key : (match P.funcs[F]? with
      | none => stuck "call: no such function"
      | some fn =>
        if fn.name == "runtime.NumGoroutine" then pure .numGoroutine
        else if fn.body.isNone then do
          mark (.extern F)
          if let some e := Extern.findNext fn then return ← e vs
          match Extern.find fn with
          | some e => pure (.value (← e vs))
          | none =>
            if fn.name.endsWith ".init" && !fn.name.startsWith "(" && !fn.name.startsWith "gosem." then pure (.value (.tuple #[]))
            else unsupported (.extern fn.name)
        else pure (.enter F vs) : Sem Next) = (mark (.extern F) >>= fun _ => E vs >>= fun v => pure (.value v)) := by
    rw [hf]
    simp only [hname, hb, hn, he, Bool.false_eq_true, if_false, if_true]
  have h2 : Plo P B W N (mark (.extern F) >>= fun _ => E vs >>= fun v => (pure (Next.value v) : Sem Next)) := .inl ⟨.inr ⟨F, rfl⟩, (Plo.bind hp fun _ => trivial : Plo P B W N (E vs >>= fun v => (pure (Next.value v) : Sem Next)))⟩
  rw [← key] at h2
  exact .inl h2
/-- a method of an interface value -/
theorem q_inv {x : Operand} {name : String} {as9 : Array Operand} {ats : Array TypeId} {r : Value} {vs : List Value} (u : Value) (hN : Nrm P 2000 (callMethod r name ⟨vs⟩) = some (.value u)) (hx : ev ρ x = some r := by exact rfl) (hv : evs ρ as9.toList = some vs := by exact rfl) :
    QOp P ⟨d, .call { callee := .invoke x name, args := as9, argTypes := ats }, ty, pos, af, g⟩ ρ L u := by
  have key : ∀ (ρe : Operand → Value), (∀ y ∈ (Op.call { callee := .invoke x name, args := as9, argTypes := ats }).operands, ∀ v, ev ρ y = some v → ρe y = v) → execOp ρe ⟨d, .call { callee := .invoke x name, args := as9, argTypes := ats }, ty, pos, af, g⟩ = callMethod r name ⟨vs⟩ := fun ρe he => by
    have h1 := he x (by simp [Op.operands, Call.operands]) r hx
    have h2 : as9.map ρe = ⟨vs⟩ := by
      have := evs_map (l := as9.toList) (ρe := ρe) (fun y hy v hv => he y (by simp [Op.operands, Call.operands]; exact .inr (Array.mem_toList_iff.1 hy)) v hv) hv
      apply Array.toList_inj.1
      simpa using this
    simp only [execOp, resolve, h1, h2]
    simp [invoke]
  obtain ⟨h1, h2⟩ := nrm_spec hN
  exact q_runp (fun ρe he N => by rw [key ρe he]; exact h2 _ _ _) fun ρe he k w hs => by rw [key ρe he]; exact h1 w
/-- an entry of the model's -/
theorem q_ext {F : Nat} {as9 : Array Operand} {ats : Array TypeId} {vs : List Value} (u : Value) (hN : Nrm P 2000 (callFunc F ⟨vs⟩) = some (.value u)) (hv : evs ρ as9.toList = some vs := by exact rfl) :
    QOp P ⟨d, .call { callee := .value (.func F), args := as9, argTypes := ats }, ty, pos, af, g⟩ ρ L u := by
  have key : ∀ (ρe : Operand → Value), (∀ y ∈ (Op.call { callee := .value (.func F), args := as9, argTypes := ats }).operands, ∀ v, ev ρ y = some v → ρe y = v) → execOp ρe ⟨d, .call { callee := .value (.func F), args := as9, argTypes := ats }, ty, pos, af, g⟩ = callFunc F ⟨vs⟩ := fun ρe he => by
    have h1 : ρe (.func F) = .func (.func F) #[] #[] := he (.func F) (by simp [Op.operands, Call.operands]) _ rfl
    have h2 : as9.map ρe = ⟨vs⟩ := by
      have := evs_map (l := as9.toList) (ρe := ρe) (fun y hy v hv => he y (by simp [Op.operands, Call.operands]; exact .inr (Array.mem_toList_iff.1 hy)) v hv) hv
      apply Array.toList_inj.1
      simpa using this
    simp only [execOp, resolve, h1, h2]
    simp [invoke, Deferred.ofValue]
  obtain ⟨h1, h2⟩ := nrm_spec hN
  exact q_runp (fun ρe he N => by rw [key ρe he]; exact h2 _ _ _) fun ρe he k w hs => by rw [key ρe he]; exact h1 w
theorem q_asrt {x : Operand} {xT T : TypeId} {r u : Value} (h : ∀ w, (Instr.typeAssert r xT T true).run P w = .ok u w) (hx : ev ρ x = some r := by exact rfl) : QOp P ⟨d, .typeAssert x xT T true, ty, pos, af, g⟩ ρ L u :=
  q_run fun ρe he k w hs => by simp [execOp, he x (by simp [Op.operands]) r hx, h w]
/-- a method of an interface value that has a Go body -/
theorem gv {m : Nat} {ops rest : List Oper} {Q : Exit → Env → Heap → Prop} {dd : Nat} {x : Operand} {name : String} {as9 : Array Operand} {ats : Array TypeId} {r : Value} {vs : List Value} {F : Nat} {args : List Value} {R : Value → Heap → Prop} (hc : HC P F args L R) (hN : Nrm P 2000 (callMethod r name ⟨vs⟩) = some (.enter F ⟨args⟩)) (h : ∀ v L', R v L' → HO P m ops Q rest ((dd, v) :: ρ) L')
    (hx : ev ρ x = some r := by exact rfl) (hv : evs ρ as9.toList = some vs := by exact rfl) (hn : Nat.blt dd m = true := by exact rfl) : HO P m ops Q (⟨some dd, .call { callee := .invoke x name, args := as9, argTypes := ats }, ty, pos, af, none⟩ :: rest) ρ L :=
  ho_op (fun a _ => wanted_none _ rfl _) fun a ha => by
    have key : execOp a.eval ⟨some dd, .call { callee := .invoke x name, args := as9, argTypes := ats }, ty, pos, af, none⟩ = callMethod r name ⟨vs⟩ := by
      have h2 : as9.map a.eval = ⟨vs⟩ := by
        have := evs_map (l := as9.toList) (ρe := a.eval) (fun y _ v hv => ha.ev hv) hv
        apply Array.toList_inj.1
        simpa using this
      simp only [execOp, resolve, ha.ev hx, h2]
      simp [invoke]
    obtain ⟨h1, h2⟩ := nrm_spec hN
    refine .call F args (fun k w hs => ?_) (hc.mono fun v L' hr => ⟨_, ha.put (Nat.le_of_ble_eq_true hn) v, h v L' hr⟩)
    have hr : (execOp a.eval ⟨some dd, .call { callee := .invoke x name, args := as9, argTypes := ats }, ty, pos, af, none⟩).run P w = .ok (.enter F ⟨args⟩) w := by rw [key]; exact h1 w
    exact ⟨hr, tr_pl hs (by rw [key]; exact h2 _ _ _) (fun w2 _ => ⟨_, w2, by rw [key]; exact h1 w2⟩) hr (.refl _ _)⟩
theorem exec_call {F : Nat} {as9 : Array Operand} {ats : Array TypeId} {vs : List Value} (hv : evs ρ as9.toList = some vs) (ρe : Operand → Value) (he : ∀ y ∈ (Op.call { callee := .value (.func F), args := as9, argTypes := ats }).operands, ∀ v, ev ρ y = some v → ρe y = v) :
    execOp ρe ⟨d, .call { callee := .value (.func F), args := as9, argTypes := ats }, ty, pos, af, g⟩ = callFunc F ⟨vs⟩ := by
  have h1 : ρe (.func F) = .func (.func F) #[] #[] := he (.func F) (by simp [Op.operands, Call.operands]) _ rfl
  have h2 : as9.map ρe = ⟨vs⟩ := by
    have := evs_map (l := as9.toList) (ρe := ρe) (fun y hy v hv => he y (by simp [Op.operands, Call.operands]; exact .inr (Array.mem_toList_iff.1 hy)) v hv) hv
    apply Array.toList_inj.1
    simpa using this
  simp only [execOp, resolve, h1, h2]
  simp [invoke, Deferred.ofValue]
/-- an entry that makes a block -/
theorem ho_new {m : Nat} {ops rest : List Oper} {Q : Exit → Env → Heap → Prop} {dd F : Nat} {as9 : Array Operand} {ats : Array TypeId} {vs : List Value} (o : Obj) (u : Nat → Value) (hN : NewIs P o (fun b => Next.value (u b)) 2000 (callFunc F ⟨vs⟩)) (h : ∀ b, HO P m ops Q rest ((dd, u b) :: ρ) ([(b, o)] :: L)) (hp : pln o = true := by rfl) (hw : noView o = true := by rfl)
    (hv : evs ρ as9.toList = some vs := by exact rfl) (hn : Nat.blt dd m = true := by exact rfl) : HO P m ops Q (⟨some dd, .call { callee := .value (.func F), args := as9, argTypes := ats }, ty, pos, af, none⟩ :: rest) ρ L := by
  obtain ⟨h1, h2⟩ := new_spec hw hN
  exact ho_run rfl rfl hn (fun ρe he k w hs => ⟨_, _, _, by rw [exec_call hv ρe he]; exact h1 w, hs.new o hp hw, h _⟩) fun ρe he N => by rw [exec_call hv ρe he]; exact h2 _ _ _
/-- an entry that reads what is one's own -/
theorem q_rd {F : Nat} {as9 : Array Operand} {ats : Array TypeId} {vs : List Value} {u : Value} {fn : Func} {E : Array Value → Sem Value} (hf : P.funcs[F]? = some fn) (hname : (fn.name == "runtime.NumGoroutine") = false) (hb : fn.body.isNone = true) (hn : Extern.findNext fn = none) (he : Extern.find fn = some E)
    (hr : ∀ k w, Sat k w L → (E ⟨vs⟩).run P w = .ok u w) (hp : ∀ N, Plo P (InB L) (InW L) N (E ⟨vs⟩)) (hv : evs ρ as9.toList = some vs := by exact rfl) : QOp P ⟨d, .call { callee := .value (.func F), args := as9, argTypes := ats }, ty, pos, af, g⟩ ρ L u :=
  q_runp (fun ρe hh N => by rw [exec_call hv ρe hh]; exact pl_ext hf hname hb hn he (hp N)) fun ρe hh k w hs => by rw [exec_call hv ρe hh, run_callFunc_extern hf hname hb hn he, hr k w hs]; rfl
/-- an entry that writes a cell of one's own -/
theorem ho_put {m : Nat} {ops rest : List Oper} {Q : Exit → Env → Heap → Prop} {dd F : Nat} {as9 : Array Operand} {ats : Array TypeId} {vs : List Value} {u v old : Value} {fn : Func} {E : Array Value → Sem Value} {b T : Nat} (hf : P.funcs[F]? = some fn) (hname : (fn.name == "runtime.NumGoroutine") = false) (hb : fn.body.isNone = true) (hn : Extern.findNext fn = none) (he : Extern.find fn = some E)
    (hr : ∀ k w, Sat k w ([(b, .cells ⟨[old]⟩ T)] :: L) → (E ⟨vs⟩).run P w = .ok u (w.setCell ⟨b, 0, none⟩ v)) (hp : ∀ N, Plo P (InB ([(b, .cells ⟨[old]⟩ T)] :: L)) (InW ([(b, .cells ⟨[old]⟩ T)] :: L)) N (E ⟨vs⟩)) (h : HO P m ops Q rest ((dd, u) :: ρ) ([(b, .cells ⟨[v]⟩ T)] :: L))
    (hv : evs ρ as9.toList = some vs := by exact rfl) (hd : Nat.blt dd m = true := by exact rfl) : HO P m ops Q (⟨some dd, .call { callee := .value (.func F), args := as9, argTypes := ats }, ty, pos, af, none⟩ :: rest) ρ ([(b, .cells ⟨[old]⟩ T)] :: L) :=
  ho_run rfl rfl hd (fun ρe hh k w hs => ⟨u, w.setCell ⟨b, 0, none⟩ v, [(b, .cells ⟨[v]⟩ T)] :: L, by rw [exec_call hv ρe hh, run_callFunc_extern hf hname hb hn he, hr k w hs]; rfl,
    hs.upd upd_here rfl rfl rfl (setCell_heap (hs.heap has_here) 0 v) (fun j hj => heap_setCell_other _ _ j _ hj), h⟩) fun ρe hh N => by rw [exec_call hv ρe hh]; exact pl_ext hf hname hb hn he (hp N)
end
end Go.HL
end

/-! QKEq -/
section
namespace Go.HL
set_option linter.unusedSectionVars false
variable [Tasks]
open Go
set_option linter.unusedVariables false
set_option linter.unusedSimpArgs false
section
variable {P : Program} {B W : Nat → Prop} {N : Nat}
theorem pl_frozen {a : Addr} (h : B a.block) : Plo P B W N (Go.frozen a) := .inl ⟨.inl h, fun _ => trivial⟩
theorem pl_shape {r : Nat} (h : B r) : Plo P B W N (Go.shape r) := .inl ⟨.inl h, fun _ => trivial⟩
theorem pl_viewAt {r : Nat} (h : B r) : Plo P B W N (viewAt r) := by
  unfold viewAt
  repeat' first | (with_reducible first | exact pl_shape h) | (with_reducible first | assumption | exact pl_pure _ | exact pl_stuck _ | exact pl_unsup _ | exact pl_halt _ | exact pl_program | exact Zd _ | exact pl_sizeOf _ | exact pl_typeInfo _ | exact pl_zeroValue _ | exact pl_isAgg _ | exact pl_load _ _ | exact pl_loadVar _ _ | exact pl_loadCells _ _ | exact pl_getObj _ | exact pl_newRow _ _ | exact pl_newVar _ _ | exact pl_newObj rfl | exact pl_choose _ | exact pl_askRoom _ | exact pl_runtimePanic _ | exact pl_goPanic _ | exact pl_boundsPanic _ _ _ _ | exact pl_asIntOf _ | exact pl_asInt _ | exact pl_asBool _ | exact pl_asString _ | exact pl_asAgg _ | exact pl_asAddr _ | exact pl_part _ _ _ | exact pl_elemOf _ | refine Plo.bind ?_ (fun _ => ?_) | refine Plo.ite ?_ ?_) | split | dsimp only
theorem pl_stringish {a : Addr} (h : B a.block) : Plo P B W N (stringish a) := by
  unfold stringish
  repeat' first | (with_reducible first | exact pl_shape h | exact pl_frozen h) | (with_reducible first | assumption | exact pl_pure _ | exact pl_stuck _ | exact pl_unsup _ | exact pl_halt _ | exact pl_program | exact Zd _ | exact pl_sizeOf _ | exact pl_typeInfo _ | exact pl_zeroValue _ | exact pl_isAgg _ | exact pl_load _ _ | exact pl_loadVar _ _ | exact pl_loadCells _ _ | exact pl_getObj _ | exact pl_newRow _ _ | exact pl_newVar _ _ | exact pl_newObj rfl | exact pl_choose _ | exact pl_askRoom _ | exact pl_runtimePanic _ | exact pl_goPanic _ | exact pl_boundsPanic _ _ _ _ | exact pl_asIntOf _ | exact pl_asInt _ | exact pl_asBool _ | exact pl_asString _ | exact pl_asAgg _ | exact pl_asAddr _ | exact pl_part _ _ _ | exact pl_elemOf _ | refine Plo.bind ?_ (fun _ => ?_) | refine Plo.ite ?_ ?_) | split | dsimp only
theorem pl_mayBeOne {a b : Addr} (ha : B a.block) (hb : B b.block) : Plo P B W N (mayBeOne a b) := by
  unfold mayBeOne
  repeat' first | (with_reducible first | exact pl_shape ha | exact pl_shape hb | exact pl_stringish ha | exact pl_stringish hb) | (with_reducible first | assumption | exact pl_pure _ | exact pl_stuck _ | exact pl_unsup _ | exact pl_halt _ | exact pl_program | exact Zd _ | exact pl_sizeOf _ | exact pl_typeInfo _ | exact pl_zeroValue _ | exact pl_isAgg _ | exact pl_load _ _ | exact pl_loadVar _ _ | exact pl_loadCells _ _ | exact pl_getObj _ | exact pl_newRow _ _ | exact pl_newVar _ _ | exact pl_newObj rfl | exact pl_choose _ | exact pl_askRoom _ | exact pl_runtimePanic _ | exact pl_goPanic _ | exact pl_boundsPanic _ _ _ _ | exact pl_asIntOf _ | exact pl_asInt _ | exact pl_asBool _ | exact pl_asString _ | exact pl_asAgg _ | exact pl_asAddr _ | exact pl_part _ _ _ | exact pl_elemOf _ | refine Plo.bind ?_ (fun _ => ?_) | refine Plo.ite ?_ ?_) | split | dsimp only
theorem pl_sameAddr {a b : Addr} (ha : B a.block) (hb : B b.block) : Plo P B W N (sameAddr a b) := by
  unfold sameAddr Go.noView
  repeat' first | (with_reducible first | exact pl_frozen ha | exact pl_frozen hb | exact pl_viewAt ha | exact pl_viewAt hb | exact pl_mayBeOne ha hb) | (with_reducible first | assumption | exact pl_pure _ | exact pl_stuck _ | exact pl_unsup _ | exact pl_halt _ | exact pl_program | exact Zd _ | exact pl_sizeOf _ | exact pl_typeInfo _ | exact pl_zeroValue _ | exact pl_isAgg _ | exact pl_load _ _ | exact pl_loadVar _ _ | exact pl_loadCells _ _ | exact pl_getObj _ | exact pl_newRow _ _ | exact pl_newVar _ _ | exact pl_newObj rfl | exact pl_choose _ | exact pl_askRoom _ | exact pl_runtimePanic _ | exact pl_goPanic _ | exact pl_boundsPanic _ _ _ _ | exact pl_asIntOf _ | exact pl_asInt _ | exact pl_asBool _ | exact pl_asString _ | exact pl_asAgg _ | exact pl_asAddr _ | exact pl_part _ _ _ | exact pl_elemOf _ | refine Plo.bind ?_ (fun _ => ?_) | refine Plo.ite ?_ ?_) | split | dsimp only
end
/-- a block that is there, as9 it was made -/
def Bk (L : Heap) (b : Nat) : Prop := ∃ c E, Has L b (.cells c E (0, 0)) ∨ Has L b (ronly (.cells c E (0, 0)))
theorem Bk.cons {L : Heap} {b : Nat} (h : Bk L b) (c : List Blk) : Bk (c :: L) b := let ⟨x, E, h⟩ := h; ⟨x, E, h.imp has_next has_next⟩
theorem Bk.inB {L : Heap} {b : Nat} (h : Bk L b) : InB L b := by
  obtain ⟨c, E, h | h⟩ := h
  · exact ⟨_, h, rfl⟩
  · exact ⟨_, h, rfl⟩
theorem Bk.heap {L : Heap} {b : Nat} {k : Ctx} {w : World} (h : Bk L b) (hs : Sat k w L) : ∃ c E, w.heap[b]? = some (.cells c E (0, 0)) := by
  obtain ⟨c, E, h | h⟩ := h
  · have := hs.has _ h rfl
    exact ⟨c, E, by rw [this]; simp [act, Nat.blt]⟩
  · have := hs.has _ h rfl
    rw [act_mark] at this
    exact ⟨c, E, this⟩
section
variable {P : Program} {ρ : Env} {L : Heap} {d : Option Tmp} {ty : TypeId} {pos : String} {af : Array Edge} {g : Option (Nat × Bool)}
/-- two errors by their addresses -/
theorem q_eqlE {t t' tp te : TypeId} {ms : Array (String × TypeId)} {i j : TypeInfo} {x y : Operand} {a b : Addr} (hi : P.underlying t = some (.interface ms)) (hp : P.underlying tp = some (.pointer te)) (hinfo : P.info? tp = some i) (hcomp : i.comparable = true) (hte : P.info? te = some j) (hsz : j.size ≠ 0)
    (h : a = b ∨ (a ≠ b ∧ Bk L a.block ∧ Bk L b.block)) (hx : ev ρ x = some (.iface tp (.pointer (some a)))) (hy : ev ρ y = some (.iface tp (.pointer (some b)))) :
    QOp P ⟨d, .binOp .eql t x y t', ty, pos, af, g⟩ ρ L (.bool (decide (a = b))) :=
  q_runp (fun ρe he N => by
    refine pl_bin ?_ ?_
    · rw [he x (by simp [Op.operands]) _ hx, he y (by simp [Op.operands]) _ hy]; exact trivial
    · rw [he x (by simp [Op.operands]) _ hx, he y (by simp [Op.operands]) _ hy]
      refine Plo.bind (pl_equal_of fun dd => ?_) fun _ => trivial
      unfold Op.equalIn
      refine Zc hi ?_
      simp only [ne_eq, not_true_eq_false, if_false]
      refine pl_typeInfo_at hinfo ?_
      simp only [hcomp, Bool.not_true, Bool.false_eq_true, if_false]
      have key : Plo P (InB L) (InW L) N (sameAddr a b) := by
        rcases h with rfl | ⟨hne, ha, hb⟩
        · unfold sameAddr
          simp only [beq_self_eq_true, if_true]
          exact trivial
        · exact pl_sameAddr ha.inB hb.inB
      cases dd with
      | zero => exact pl_unsup _
      | succ dd =>
        unfold Op.equalIn
        refine Zc hp ?_
        simp only
        repeat' first | (with_reducible first | exact key) | (with_reducible first | assumption | exact pl_pure _ | exact pl_stuck _ | exact pl_unsup _ | exact pl_halt _ | exact pl_program | exact Zd _ | exact pl_sizeOf _ | exact pl_typeInfo _ | exact pl_zeroValue _ | exact pl_isAgg _ | exact pl_load _ _ | exact pl_loadVar _ _ | exact pl_loadCells _ _ | exact pl_getObj _ | exact pl_newRow _ _ | exact pl_newVar _ _ | exact pl_newObj rfl | exact pl_choose _ | exact pl_askRoom _ | exact pl_runtimePanic _ | exact pl_goPanic _ | exact pl_boundsPanic _ _ _ _ | exact pl_asIntOf _ | exact pl_asInt _ | exact pl_asBool _ | exact pl_asString _ | exact pl_asAgg _ | exact pl_asAddr _ | exact pl_part _ _ _ | exact pl_elemOf _ | refine Plo.bind ?_ (fun _ => ?_) | refine Plo.ite ?_ ?_) | split | dsimp only) fun ρe he k w hs => by
    simp only [execOp, he x (by simp [Op.operands]) _ hx, he y (by simp [Op.operands]) _ hy]
    rcases h with rfl | ⟨hne, ha, hb⟩
    · simp [eqGuard, run_eql_iface_ptr_same (P := P) w a hi hp hinfo hcomp hte]
    · obtain ⟨ca, ta, ha⟩ := ha.heap hs
      obtain ⟨cb, tb, hb⟩ := hb.heap hs
      simp [eqGuard, run_eql_iface_ptr_other (P := P) w hi hp hinfo hcomp hte hsz hne ha hb, hne]
/-- errors of two types -/
theorem q_eqlT {t t' tp tq : TypeId} {ms : Array (String × TypeId)} {x y : Operand} {u v : Value} (hi : P.underlying t = some (.interface ms)) (hne : tp ≠ tq) (hx : ev ρ x = some (.iface tp u)) (hy : ev ρ y = some (.iface tq v)) :
    QOp P ⟨d, .binOp .eql t x y t', ty, pos, af, g⟩ ρ L (.bool false) :=
  q_runp (fun ρe he N => by
    refine pl_bin ?_ ?_
    · rw [he x (by simp [Op.operands]) _ hx, he y (by simp [Op.operands]) _ hy]; exact trivial
    · rw [he x (by simp [Op.operands]) _ hx, he y (by simp [Op.operands]) _ hy]
      refine Plo.bind (pl_equal_of fun dd => ?_) fun _ => trivial
      unfold Op.equalIn
      refine Zc hi ?_
      simp only [ne_eq, hne, not_false_eq_true, if_true]
      exact trivial) fun ρe he k w hs => by
    simp only [execOp, he x (by simp [Op.operands]) _ hx, he y (by simp [Op.operands]) _ hy]
    simp [eqGuard, Go.run_eql_iface_types (P := P) tp tq u v hi hne w]
end
end Go.HL
end

/-! QErP -/
section
namespace Go.HL
set_option linter.unusedSectionVars false
variable [Tasks]
open Go Go.Proofs Go.Stop Go.Extern.Stop
set_option linter.unusedVariables false
set_option linter.unusedSimpArgs false
theorem is_comp : (Tryd.prog.info? 267).map (·.comparable) = some true := by kernel_rfl
theorem is_size : (Tryd.prog.info? 286).map (·.size) = some 1 := by kernel_rfl
theorem is_noIsE (v : Value) (xT : TypeId) (w : World) : (Instr.typeAssert (.iface 267 v) xT 252 true).run Tryd.prog w = .ok (.tuple #[.nilIface, .bool false]) w := run_typeAssert_lacksB Tryd.underlying252 (by kernel_rfl) (by kernel_rfl) v xT w
theorem is_noUnwrapE (v : Value) (xT : TypeId) (w : World) : (Instr.typeAssert (.iface 267 v) xT 248 true).run Tryd.prog w = .ok (.tuple #[.nilIface, .bool false]) w := run_typeAssert_lacksB Tryd.underlying248 (by kernel_rfl) (by kernel_rfl) v xT w
theorem is_noUnwrapsE (v : Value) (xT : TypeId) (w : World) : (Instr.typeAssert (.iface 267 v) xT 250 true).run Tryd.prog w = .ok (.tuple #[.nilIface, .bool false]) w := run_typeAssert_lacksB Tryd.underlying250 (by kernel_rfl) (by kernel_rfl) v xT w
theorem is_noIsF (v : Value) (xT : TypeId) (w : World) : (Instr.typeAssert (.iface 144 v) xT 252 true).run Tryd.prog w = .ok (.tuple #[.nilIface, .bool false]) w := run_typeAssert_lacksB Tryd.underlying252 (by kernel_rfl) (by kernel_rfl) v xT w
theorem is_hasUnwrapF (v : Value) (xT : TypeId) (w : World) : (Instr.typeAssert (.iface 144 v) xT 248 true).run Tryd.prog w = .ok (.tuple #[.iface 144 v, .bool true]) w := run_typeAssert_hasB Tryd.underlying248 (by kernel_rfl) v xT w
theorem as_noAsE (v : Value) (xT : TypeId) (w : World) : (Instr.typeAssert (.iface 267 v) xT 245 true).run Tryd.prog w = .ok (.tuple #[.nilIface, .bool false]) w := run_typeAssert_lacksB Tryd.underlying245 (by kernel_rfl) (by kernel_rfl) v xT w
abbrev errI (a : Addr) : Value := .iface 267 (.pointer (some a))
theorem q_err {ρ : Env} {L : Heap} {d : Option Tmp} {ty : TypeId} {pos : String} {af : Array Edge} {g : Option (Nat × Bool)} {t' : TypeId} {x y : Operand} {a b : Addr} (h : a = b ∨ (a ≠ b ∧ Bk L a.block ∧ Bk L b.block)) (hx : ev ρ x = some (errI a) := by exact rfl) (hy : ev ρ y = some (errI b) := by exact rfl) :
    QOp Tryd.prog ⟨d, .binOp .eql 37 x y t', ty, pos, af, g⟩ ρ L (.bool (decide (a = b))) := by
  obtain ⟨i, hi, hcmp⟩ := Option.map_eq_some_iff.1 is_comp
  obtain ⟨j, hj, hjs⟩ := Option.map_eq_some_iff.1 is_size
  exact q_eqlE Tryd.underlying37 Tryd.underlying267 hi hcmp hj (by rw [hjs]; decide) h hx hy
set_option maxHeartbeats 2000000 attribute [local irreducible] HW HO HQ HD HC QOp Has Upd Puts Gets seqQ blkQ loopQ fnQ actQ nextP unQ MapF
theorem isI_calls (a b : Addr) (L : Heap) (h : a = b ∨ (a ≠ b ∧ Bk L a.block ∧ Bk L b.block)) : HC Tryd.prog 150 [errI a, errI b, .bool true] L (fun v L' => v = .bool (decide (a = b)) ∧ L' = L) := by
  refine Ze (by kernel_rfl) Tryd.func150 rfl Tryd.ntmps150 (Nat.le_of_ble_eq_true rfl) ?_; simp only [args0, Nat.reduceAdd]
  repeat' (first | refine uN ?_ | (refine uP ?_ ?_ <;> (intro h; ((try simp only [zs, ne_eq, and_true, true_and, eq_self, reduceCtorEq] at h); try exact zx))) | fail)
  refine hw_loop (σ := Nat) (fun _ => [(0, errI a), (1, errI b), (2, .bool true)]) (fun _ => L) (fun _ => True) (fun q => q) 0 uS (List.Sublist.refl _) trivial ?_
  rintro q -
  repeat' (first | refine uN ?_ | (refine uP ?_ ?_ <;> (intro h; ((try simp only [zs, ne_eq, and_true, true_and, eq_self, reduceCtorEq] at h); try exact zx))) | fail)
  refine g_q (q_err h) ?_
  repeat' (first | refine uN ?_ | (refine uP ?_ ?_ <;> (intro h; ((try simp only [zs, ne_eq, and_true, true_and, eq_self, reduceCtorEq] at h); try exact zx))) | fail)
  · refine sp1 (LS.refl _) ⟨?_, rfl⟩
    simp [h]
  refine g_q (q_asrt (is_noIsE _ _)) ?_
  repeat' (first | refine uN ?_ | (refine uP ?_ ?_ <;> (intro h; ((try simp only [zs, ne_eq, and_true, true_and, eq_self, reduceCtorEq] at h); try exact zx))) | fail)
  refine g_q (q_asrt (is_noUnwrapE _ _)) ?_
  repeat' (first | refine uN ?_ | (refine uP ?_ ?_ <;> (intro h; ((try simp only [zs, ne_eq, and_true, true_and, eq_self, reduceCtorEq] at h); try exact zx))) | fail)
  refine g_q (q_asrt (is_noUnwrapsE _ _)) ?_
  repeat' (first | refine uN ?_ | (refine uP ?_ ?_ <;> (intro h; ((try simp only [zs, ne_eq, and_true, true_and, eq_self, reduceCtorEq] at h); try exact zx))) | fail)
  refine sp1 (LS.refl _) ⟨?_, rfl⟩
  simp [h]
theorem unw_calls (pb po : Nat) (a : Addr) (l : List Value) (t : Nat) (fr : Nat × Nat) (L : Heap) (hp : Has L pb (.cells ⟨l⟩ t fr)) (hl : l[po + 1]? = some (errI a)) : HC Tryd.prog 200 [pt pb po] L (fun v L' => v = errI a ∧ L' = L) := by
  refine Ze (by kernel_rfl) Tryd.func200 rfl Tryd.ntmps200 (Nat.le_of_ble_eq_true rfl) ?_; simp only [args0, Nat.reduceAdd]
  repeat' (first | refine uN ?_)
  exact sp1 (LS.refl _) ⟨rfl, rfl⟩
/-- an error, or a fault around one -/
theorem isW_calls (pb po : Nat) (a b : Addr) (l : List Value) (t : Nat) (fr : Nat × Nat) (L : Heap) (hp : Has L pb (.cells ⟨l⟩ t fr)) (hl : l[po + 1]? = some (errI a)) (h : a = b ∨ (a ≠ b ∧ Bk L a.block ∧ Bk L b.block)) :
    HC Tryd.prog 150 [.iface 144 (pt pb po), errI b, .bool true] L (fun v L' => v = .bool (decide (a = b)) ∧ L' = L) := by
  refine Ze (by kernel_rfl) Tryd.func150 rfl Tryd.ntmps150 (Nat.le_of_ble_eq_true rfl) ?_; simp only [args0, Nat.reduceAdd]
  repeat' (first | refine uN ?_ | (refine uP ?_ ?_ <;> (intro h; ((try simp only [zs, ne_eq, and_true, true_and, eq_self, reduceCtorEq] at h); try exact zx))) | fail)
  refine hw_loop (σ := Bool) (fun q => [(0, bif q then .iface 144 (pt pb po) else errI a), (1, errI b), (2, .bool true)]) (fun _ => L) (fun _ => True) (fun q => bif q then 1 else 0) true uS (List.Sublist.refl _) trivial ?_
  have ku := fun L h => unw_calls pb po a l t fr L h hl
  rintro (_ | _) -
  · simp only [cond_false]
    repeat' (first | refine uN ?_ | (refine uP ?_ ?_ <;> (intro h; ((try simp only [zs, ne_eq, and_true, true_and, eq_self, reduceCtorEq] at h); try exact zx))) | fail)
    refine g_q (q_err h) ?_
    repeat' (first | refine uN ?_ | (refine uP ?_ ?_ <;> (intro h; ((try simp only [zs, ne_eq, and_true, true_and, eq_self, reduceCtorEq] at h); try exact zx))) | fail)
    · refine sp1 (LS.refl _) ⟨?_, rfl⟩
      simp [h]
    refine g_q (q_asrt (is_noIsE _ _)) ?_
    repeat' (first | refine uN ?_ | (refine uP ?_ ?_ <;> (intro h; ((try simp only [zs, ne_eq, and_true, true_and, eq_self, reduceCtorEq] at h); try exact zx))) | fail)
    refine g_q (q_asrt (is_noUnwrapE _ _)) ?_
    repeat' (first | refine uN ?_ | (refine uP ?_ ?_ <;> (intro h; ((try simp only [zs, ne_eq, and_true, true_and, eq_self, reduceCtorEq] at h); try exact zx))) | fail)
    refine g_q (q_asrt (is_noUnwrapsE _ _)) ?_
    repeat' (first | refine uN ?_ | (refine uP ?_ ?_ <;> (intro h; ((try simp only [zs, ne_eq, and_true, true_and, eq_self, reduceCtorEq] at h); try exact zx))) | fail)
    refine sp1 (LS.refl _) ⟨?_, rfl⟩
    simp [h]
  · simp only [cond_true]
    repeat' (first | refine uN ?_ | (refine uP ?_ ?_ <;> (intro h; ((try simp only [zs, ne_eq, and_true, true_and, eq_self, reduceCtorEq] at h); try exact zx))) | fail)
    refine g_q (q_eqlT Tryd.underlying37 (by decide) rfl rfl) ?_
    repeat' (first | refine uN ?_ | (refine uP ?_ ?_ <;> (intro h; ((try simp only [zs, ne_eq, and_true, true_and, eq_self, reduceCtorEq] at h); try exact zx))) | fail)
    refine g_q (q_asrt (is_noIsF _ _)) ?_
    repeat' (first | refine uN ?_ | (refine uP ?_ ?_ <;> (intro h; ((try simp only [zs, ne_eq, and_true, true_and, eq_self, reduceCtorEq] at h); try exact zx))) | fail)
    refine g_q (q_asrt (is_hasUnwrapF _ _)) ?_
    repeat' (first | refine uN ?_ | (refine uP ?_ ?_ <;> (intro h; ((try simp only [zs, ne_eq, and_true, true_and, eq_self, reduceCtorEq] at h); try exact zx))) | fail)
    refine gv (ku _ hp) (by kernel_rfl) ?_
    rintro v L' ⟨rfl, rfl⟩
    repeat' (first | refine uN ?_ | (refine uP ?_ ?_ <;> (intro h; ((try simp only [zs, ne_eq, and_true, true_and, eq_self, reduceCtorEq] at h); try exact zx))) | fail)
    exact loopQ_sp false uS (LS.refl _) trivial (by decide)
def rtV (t : Nat) : Value := .iface 241 (.agg ⟨[.pointer (some ⟨10, t, none⟩)]⟩)
theorem is_calls (a b : Addr) (L : Heap) (h : a = b ∨ (a ≠ b ∧ Bk L a.block ∧ Bk L b.block)) : HC Tryd.prog 130 [errI a, errI b] L (fun v L' => v = .bool (decide (a = b)) ∧ L' = L) := by
  have k1 := isI_calls a b L h
  refine Ze (by kernel_rfl) Tryd.func130 rfl Tryd.ntmps130 (Nat.le_of_ble_eq_true rfl) ?_; simp only [args0, Nat.reduceAdd]
  repeat' (first | refine uN ?_ | (refine uP ?_ ?_ <;> (intro h; ((try simp only [zs, ne_eq, and_true, true_and, eq_self, reduceCtorEq] at h); try exact zx))) | fail)
  refine g_q (q_ext (rtV 267) (by kernel_rfl)) ?_
  refine g_q (q_inv (.bool true) (by kernel_rfl)) ?_
  repeat' (first | refine uN ?_ | refine uC (k1) ?_ | (refine uP ?_ ?_ <;> (intro h; ((try simp only [zs, ne_eq, and_true, true_and, eq_self, reduceCtorEq] at h); try exact zx))) | fail)
  exact sp1 (LS.refl _) ⟨rfl, rfl⟩
theorem isw_calls (pb po : Nat) (a b : Addr) (l : List Value) (t : Nat) (fr : Nat × Nat) (L : Heap) (hp : Has L pb (.cells ⟨l⟩ t fr)) (hl : l[po + 1]? = some (errI a)) (h : a = b ∨ (a ≠ b ∧ Bk L a.block ∧ Bk L b.block)) :
    HC Tryd.prog 130 [.iface 144 (pt pb po), errI b] L (fun v L' => v = .bool (decide (a = b)) ∧ L' = L) := by
  have k1 := isW_calls pb po a b l t fr L hp hl h
  refine Ze (by kernel_rfl) Tryd.func130 rfl Tryd.ntmps130 (Nat.le_of_ble_eq_true rfl) ?_; simp only [args0, Nat.reduceAdd]
  repeat' (first | refine uN ?_ | (refine uP ?_ ?_ <;> (intro h; ((try simp only [zs, ne_eq, and_true, true_and, eq_self, reduceCtorEq] at h); try exact zx))) | fail)
  refine g_q (q_ext (rtV 267) (by kernel_rfl)) ?_
  refine g_q (q_inv (.bool true) (by kernel_rfl)) ?_
  repeat' (first | refine uN ?_ | refine uC (k1) ?_ | (refine uP ?_ ?_ <;> (intro h; ((try simp only [zs, ne_eq, and_true, true_and, eq_self, reduceCtorEq] at h); try exact zx))) | fail)
  exact sp1 (LS.refl _) ⟨rfl, rfl⟩
/-! ### errors.As -/
attribute [local irreducible] NewIs NewOk Nrm
abbrev hnd (t : Nat) : Value := .pointer (some ⟨10, t, none⟩)
abbrev rvV (t b : Nat) (fl : Int) : Value := .agg ⟨[hnd t, .pointer (some ⟨b, 0, none⟩), .int .u64 fl]⟩
theorem as_vF (t : Addr) : NewIs Tryd.prog (.cells ⟨[.pointer (some t)]⟩ 192) (fun b => Next.value (rvV 192 b 150)) 2000 (callFunc 145 ⟨[.iface 192 (.pointer (some t))]⟩) :=
  new_ok (by kernel_rfl)
end Go.HL
end

/-! QErQ -/
section
namespace Go.HL
set_option linter.unusedSectionVars false
variable [Tasks]
open Go Go.Proofs Go.Extern
set_option linter.unusedVariables false
set_option linter.unusedSimpArgs false
def rnlE : Array Value → Sem Value := ReflectliteValue.method (ReflectliteValue.valueError "reflectlite.Value.IsNil" 0) ReflectliteValue.isNil
def elmE : Array Value → Sem Value := ReflectliteValue.method (ReflectliteValue.valueError "reflectlite.Value.Elem" 0) ReflectliteValue.elem
def setE : Array Value → Sem Value := ReflectliteValue.set
theorem rlm (z : Sem Value) (f : TypeId → Addr → Nat → Nat → Sem Value) (v : Value) :
    ReflectliteValue.method z f #[v] = (do match ← ReflectliteValue.parts v with | none => z | some (t, a, fl) => f t a fl (fl % 32)) := rfl
theorem n_pFF (a : Addr) : Nrm Tryd.prog 2000 (ReflectliteValue.parts (.agg #[.pointer (some ⟨10, 192, none⟩), .pointer (some a), .int .u64 150])) = some (some (192, a, 150)) := by kernel_rfl
theorem n_pF (a : Addr) : Nrm Tryd.prog 2000 (ReflectliteValue.parts (.agg #[.pointer (some ⟨10, 144, none⟩), .pointer (some a), .int .u64 150])) = some (some (144, a, 150)) := by kernel_rfl
theorem n_pFa (a : Addr) : Nrm Tryd.prog 2000 (ReflectliteValue.parts (.agg #[.pointer (some ⟨10, 144, none⟩), .pointer (some a), .int .u64 406])) = some (some (144, a, 406)) := by kernel_rfl
theorem n_elemOf : Nrm Tryd.prog 2000 (Rtype.elem? 192) = some (some 144) := by kernel_rfl
theorem n_mk (p : Addr) : Nrm Tryd.prog 2000 (ReflectliteValue.mk 144 p ReflectliteValue.flagAddr) = some (.agg #[.pointer (some ⟨10, 144, none⟩), .pointer (some p), .int .u64 406]) := by kernel_rfl
theorem n_direct : Nrm Tryd.prog 2000 (Rtype.directlyAssignable 144 144) = some true := by kernel_rfl
attribute [local irreducible] Nrm NewIs NewOk
theorem as_isNil (a p : Addr) (W : World) (ha : W.cell? a = some (.pointer (some p))) :
    (rnlE #[.agg #[.pointer (some ⟨10, 192, none⟩), .pointer (some a), .int .u64 150]]).run Tryd.prog W = .ok (.bool false) W := by
  unfold rnlE
  rw [rlm]
  simp only [Sem.run_bind, (nrm_spec (n_pFF a)).1, Result.andThen]
  simp [ReflectliteValue.isNil, loadVar, isAgg, underlying, Tryd.underlying192, ha, Result.andThen]
theorem pl_valErr {α : Type} {B W : Nat → Prop} {N : Nat} (m : String) (q : Nat) : Plo Tryd.prog B W N (ReflectliteValue.valueError m q : Sem α) := by
  unfold ReflectliteValue.valueError cutType
  repeat' first | fail | (with_reducible first | assumption | exact pl_pure _ | exact pl_stuck _ | exact pl_unsup _ | exact pl_halt _ | exact pl_program | exact Zd _ | exact pl_sizeOf _ | exact pl_typeInfo _ | exact pl_zeroValue _ | exact pl_isAgg _ | exact pl_load _ _ | exact pl_loadVar _ _ | exact pl_loadCells _ _ | exact pl_getObj _ | exact pl_newRow _ _ | exact pl_newVar _ _ | exact pl_newObj rfl | exact pl_choose _ | exact pl_askRoom _ | exact pl_runtimePanic _ | exact pl_goPanic _ | exact pl_boundsPanic _ _ _ _ | exact pl_asIntOf _ | exact pl_asInt _ | exact pl_asBool _ | exact pl_asString _ | exact pl_asAgg _ | exact pl_asAddr _ | exact pl_part _ _ _ | exact pl_elemOf _ | refine Plo.bind ?_ (fun _ => ?_) | refine Plo.ite ?_ ?_) | split | dsimp only
theorem pl_isNil {B W : Nat → Prop} {N : Nat} (a : Addr) : Plo Tryd.prog B W N (rnlE #[.agg #[.pointer (some ⟨10, 192, none⟩), .pointer (some a), .int .u64 150]]) := by
  unfold rnlE
  rw [rlm]
  refine nrm_bindM (n_pFF a) ?_
  unfold ReflectliteValue.isNil
  repeat' first | (with_reducible first | exact pl_valErr _ _) | (with_reducible first | assumption | exact pl_pure _ | exact pl_stuck _ | exact pl_unsup _ | exact pl_halt _ | exact pl_program | exact Zd _ | exact pl_sizeOf _ | exact pl_typeInfo _ | exact pl_zeroValue _ | exact pl_isAgg _ | exact pl_load _ _ | exact pl_loadVar _ _ | exact pl_loadCells _ _ | exact pl_getObj _ | exact pl_newRow _ _ | exact pl_newVar _ _ | exact pl_newObj rfl | exact pl_choose _ | exact pl_askRoom _ | exact pl_runtimePanic _ | exact pl_goPanic _ | exact pl_boundsPanic _ _ _ _ | exact pl_asIntOf _ | exact pl_asInt _ | exact pl_asBool _ | exact pl_asString _ | exact pl_asAgg _ | exact pl_asAddr _ | exact pl_part _ _ _ | exact pl_elemOf _ | refine Plo.bind ?_ (fun _ => ?_) | refine Plo.ite ?_ ?_) | split | dsimp only
theorem as_elemV (a p : Addr) (W : World) (ha : W.cell? a = some (.pointer (some p))) :
    (elmE #[.agg #[.pointer (some ⟨10, 192, none⟩), .pointer (some a), .int .u64 150]]).run Tryd.prog W = .ok (.agg #[.pointer (some ⟨10, 144, none⟩), .pointer (some p), .int .u64 406]) W := by
  unfold elmE
  rw [rlm]
  simp only [Sem.run_bind, (nrm_spec (n_pFF a)).1, Result.andThen]
  simp [ReflectliteValue.elem, loadVar, isAgg, underlying, Tryd.underlying192, ha, Result.andThen, (nrm_spec n_elemOf).1, (nrm_spec (n_mk p)).1]
theorem pl_elemV {B W : Nat → Prop} {N : Nat} (a : Addr) : Plo Tryd.prog B W N (elmE #[.agg #[.pointer (some ⟨10, 192, none⟩), .pointer (some a), .int .u64 150]]) := by
  unfold elmE
  rw [rlm]
  refine nrm_bindM (n_pFF a) ?_
  unfold ReflectliteValue.elem
  show Plo Tryd.prog B W N (loadVar 192 a >>= fun v => Rtype.elem? 192 >>= fun e => _)
  refine Plo.bind (pl_loadVar _ _) fun v => ?_
  refine nrm_bindM n_elemOf ?_
  cases v with
  | pointer p =>
    cases p with
    | none => exact trivial
    | some p => exact (nrm_spec (n_mk p)).2 _ _ _
  | _ => exact pl_valErr _ _
theorem rls (v x : Value) : ReflectliteValue.set #[v, x] = (do
    let (some (dst, a, fl), some (src, b, _)) := (← ReflectliteValue.parts v, ← ReflectliteValue.parts x)
      | unsupported (.noEntry "extern/(internal/reflectlite.Value).Set.zeroValue")
    if fl / ReflectliteValue.flagAddr % 2 == 0 then unsupported (.noEntry "extern/(internal/reflectlite.Value).Set.unaddressable")
    let val ← loadVar src b
    if ← Rtype.directlyAssignable dst src then storeVar dst a val
    else if ← Rtype.implements dst src then
      if (← Rtype.kind src) == 20 then
        match val with
        | .nilIface => unsupported (.noEntry "extern/reflectlite: a nil value of one interface type handed on as a value of another")
        | _ => storeVar dst a val
      else storeVar dst a (.iface src val)
    else panicString ("reflectlite.Set: value of type " ++ (← Rtype.spelt src) ++ " is not assignable to type " ++ (← Rtype.spelt dst))
    pure (.tuple #[])) := rfl
theorem as_set (ta b e : Addr) (old : Value) (W : World) (hb : W.cell? b = some (.pointer (some e))) (ht : W.cell? ta = some old) (hf : W.frozen? ta = false) :
    (setE #[.agg #[.pointer (some ⟨10, 144, none⟩), .pointer (some ta), .int .u64 406], .agg #[.pointer (some ⟨10, 144, none⟩), .pointer (some b), .int .u64 150]]).run Tryd.prog W
      = .ok (.tuple #[]) (W.setCell ta (.pointer (some e))) := by
  unfold setE
  rw [rls]
  simp only [Sem.run_bind, (nrm_spec (n_pFa ta)).1, (nrm_spec (n_pF b)).1, Result.andThen]
  simp [ReflectliteValue.flagAddr, loadVar, isAgg, underlying, Tryd.underlying144, hb, Result.andThen, (nrm_spec n_direct).1, storeVar, Value.cells, storeCells, Addr.add]
  rw [run_store Tryd.prog W ta _ _ (by rfl)]
  simp [ht, hf]
theorem pl_set {B W : Nat → Prop} {N : Nat} (ta b : Addr) (hW : W ta.block) : Plo Tryd.prog B W N (setE #[.agg #[.pointer (some ⟨10, 144, none⟩), .pointer (some ta), .int .u64 406], .agg #[.pointer (some ⟨10, 144, none⟩), .pointer (some b), .int .u64 150]]) := by
  unfold setE
  rw [rls]
  refine nrm_bindM (n_pFa ta) ?_
  refine nrm_bindM (n_pF b) ?_
  show Plo Tryd.prog B W N (loadVar 144 b >>= fun v => Rtype.directlyAssignable 144 144 >>= fun e => _)
  refine Plo.bind (pl_loadVar _ _) fun v => ?_
  refine nrm_bindM n_direct ?_
  exact Plo.bind (pl_storeVar (.inl hW)) fun _ => trivial
end Go.HL
end

/-! QErR -/
section
namespace Go.HL
set_option linter.unusedSectionVars false
variable [Tasks]
open Go Go.Proofs
set_option linter.unusedVariables false
set_option linter.unusedSimpArgs false
attribute [local irreducible] NewIs NewOk Nrm
theorem as_vF2 (t : Addr) : NewIs Tryd.prog (.cells ⟨[.pointer (some t)]⟩ 144) (fun b => Next.value (rvV 144 b 150)) 2000 (callFunc 145 ⟨[.iface 144 (.pointer (some t))]⟩) :=
  new_ok (by kernel_rfl)
theorem f_isNil : Extern.find Tryd.f147 = some rnlE := by kernel_rfl
theorem f_elem : Extern.find Tryd.f166 = some elmE := by kernel_rfl
theorem f_set : Extern.find Tryd.f167 = some setE := by kernel_rfl
set_option maxHeartbeats 2000000 attribute [local irreducible] HW HO HQ HD HC QOp Has Upd Puts Gets seqQ blkQ loopQ fnQ actQ nextP unQ MapF
theorem q_isNil {ρ : Env} {L : Heap} {d : Option Tmp} {ty : TypeId} {pos : String} {af : Array Edge} {g : Option (Nat × Bool)} {xs : Array Operand} {ats : Array TypeId} {bv : Nat} {t : Addr} (hb : Has L bv (.cells ⟨[.pointer (some t)]⟩ 192 (0, 0))) (hv : evs ρ xs.toList = some [rvV 192 bv 150] := by exact rfl) :
    QOp Tryd.prog ⟨d, .call { callee := .value (.func 147), args := xs, argTypes := ats }, ty, pos, af, g⟩ ρ L (.bool false) :=
  q_rd Tryd.func147 (by kernel_rfl) (by kernel_rfl) (by kernel_rfl) f_isNil (fun k w hs => as_isNil ⟨bv, 0, none⟩ t w (by rw [hs.cell hb]; rfl)) (fun N => pl_isNil _) hv
theorem q_elemV {ρ : Env} {L : Heap} {d : Option Tmp} {ty : TypeId} {pos : String} {af : Array Edge} {g : Option (Nat × Bool)} {xs : Array Operand} {ats : Array TypeId} {bv b : Nat} (hb : Has L bv (.cells ⟨[.pointer (some ⟨b, 0, none⟩)]⟩ 192 (0, 0))) (hv : evs ρ xs.toList = some [rvV 192 bv 150] := by exact rfl) :
    QOp Tryd.prog ⟨d, .call { callee := .value (.func 166), args := xs, argTypes := ats }, ty, pos, af, g⟩ ρ L (rvV 144 b 406) :=
  q_rd Tryd.func166 (by kernel_rfl) (by kernel_rfl) (by kernel_rfl) f_elem (fun k w hs => as_elemV ⟨bv, 0, none⟩ ⟨b, 0, none⟩ w (by rw [hs.cell hb]; rfl)) (fun N => pl_elemV _) hv
theorem as1_miss (e : Addr) (t : Value) (h v : Value) (x : Int) (L : Heap) : HC Tryd.prog 148 [errI e, t, .agg ⟨[h, v, .int .u64 x]⟩, rtV 144] L (fun v L' => v = .bool false ∧ L' = L) := by
  refine Ze (by kernel_rfl) Tryd.func148 rfl Tryd.ntmps148 (Nat.le_of_ble_eq_true rfl) ?_; simp only [args0, Nat.reduceAdd]
  repeat' (first | refine uN ?_ | (refine uB ?_; intro b) | (refine uP ?_ ?_ <;> (intro h; ((try simp only [zs, ne_eq, and_true, true_and, eq_self, reduceCtorEq] at h); try exact zx))) | fail)
  refine hw_loop (σ := Unit) (fun _ => [(0, errI e), (1, t), (3, rtV 144)]) (fun _ => L) (fun _ => True) (fun _ => 0) () uS ((List.Sublist.refl _).cons _) trivial ?_
  rintro _ -
  repeat' (first | refine uN ?_ | (refine uB ?_; intro b) | (refine uP ?_ ?_ <;> (intro h; ((try simp only [zs, ne_eq, and_true, true_and, eq_self, reduceCtorEq] at h); try exact zx))) | fail)
  refine g_q (q_ext (rtV 267) (by kernel_rfl)) ?_
  repeat' (first | refine uN ?_ | (refine uB ?_; intro b) | (refine uP ?_ ?_ <;> (intro h; ((try simp only [zs, ne_eq, and_true, true_and, eq_self, reduceCtorEq] at h); try exact zx))) | fail)
  refine g_q (q_inv (.bool false) (by kernel_rfl)) ?_
  repeat' (first | refine uN ?_ | (refine uB ?_; intro b) | (refine uP ?_ ?_ <;> (intro h; ((try simp only [zs, ne_eq, and_true, true_and, eq_self, reduceCtorEq] at h); try exact zx))) | fail)
  refine g_q (q_asrt (as_noAsE _ _)) ?_
  repeat' (first | refine uN ?_ | (refine uB ?_; intro b) | (refine uP ?_ ?_ <;> (intro h; ((try simp only [zs, ne_eq, and_true, true_and, eq_self, reduceCtorEq] at h); try exact zx))) | fail)
  refine g_q (q_asrt (is_noUnwrapE _ _)) ?_
  repeat' (first | refine uN ?_ | (refine uB ?_; intro b) | (refine uP ?_ ?_ <;> (intro h; ((try simp only [zs, ne_eq, and_true, true_and, eq_self, reduceCtorEq] at h); try exact zx))) | fail)
  refine g_q (q_asrt (is_noUnwrapsE _ _)) ?_
  repeat' (first | refine uN ?_ | (refine uB ?_; intro b) | (refine uP ?_ ?_ <;> (intro h; ((try simp only [zs, ne_eq, and_true, true_and, eq_self, reduceCtorEq] at h); try exact zx))) | fail)
  exact sp1 (LS.refl _) ⟨rfl, rfl⟩
theorem as_miss_calls (e : Addr) (t : Addr) (L : Heap) (hg : Gl L 9 (rtV 37)) : HC Tryd.prog 129 [errI e, .iface 192 (.pointer (some t))] L (fun v L' => v = .bool false ∧ L' = L) := by
  have k1 := fun bv L => as1_miss e (.iface 192 (.pointer (some t))) (hnd 192) (.pointer (some ⟨bv, 0, none⟩)) 150 L
  refine Ze (by kernel_rfl) Tryd.func129 rfl Tryd.ntmps129 (Nat.le_of_ble_eq_true rfl) ?_; simp only [args0, Nat.reduceAdd]
  repeat' (first | refine uN ?_ | (refine uB ?_; intro b) | (refine uP ?_ ?_ <;> (intro h; ((try simp only [zs, ne_eq, and_true, true_and, eq_self, reduceCtorEq] at h); try exact zx))) | fail)
  refine ho_new _ (fun b => rvV 192 b 150) (as_vF t) (fun bv => ?_)
  repeat' (first | refine uN ?_ | (refine uB ?_; intro b) | (refine uP ?_ ?_ <;> (intro h; ((try simp only [zs, ne_eq, and_true, true_and, eq_self, reduceCtorEq] at h); try exact zx))) | fail)
  refine g_q (q_ext (rtV 192) (by kernel_rfl)) ?_
  repeat' (first | refine uN ?_ | (refine uB ?_; intro b) | (refine uP ?_ ?_ <;> (intro h; ((try simp only [zs, ne_eq, and_true, true_and, eq_self, reduceCtorEq] at h); try exact zx))) | fail)
  refine g_q (q_inv (.int .u8 22) (by kernel_rfl)) ?_
  repeat' (first | refine uN ?_ | (refine uB ?_; intro b) | (refine uP ?_ ?_ <;> (intro h; ((try simp only [zs, ne_eq, and_true, true_and, eq_self, reduceCtorEq] at h); try exact zx))) | fail)
  refine g_q (q_isNil (has_next has_here)) ?_
  repeat' (first | refine uN ?_ | (refine uB ?_; intro b) | (refine uP ?_ ?_ <;> (intro h; ((try simp only [zs, ne_eq, and_true, true_and, eq_self, reduceCtorEq] at h); try exact zx))) | fail)
  refine g_q (q_inv (rtV 144) (by kernel_rfl)) ?_
  repeat' (first | refine uN ?_ | (refine uB ?_; intro b) | (refine uP ?_ ?_ <;> (intro h; ((try simp only [zs, ne_eq, and_true, true_and, eq_self, reduceCtorEq] at h); try exact zx))) | fail)
  refine g_q (q_inv (.int .u8 22) (by kernel_rfl)) ?_
  have hg2 := (hg.cons (c := [(bv, .cells ⟨[.pointer (some t)]⟩ 192)])).cons (c := [(b, .cells ⟨[hnd 192, .pointer (some ⟨bv, 0, none⟩), .int .u64 150]⟩ 219)])
  repeat' (first | refine uN ?_ | (refine uB ?_; intro b) | (refine uP ?_ ?_ <;> (intro h; ((try simp only [zs, ne_eq, and_true, true_and, eq_self, reduceCtorEq] at h); try exact zx))) | fail)
  refine g_q (q_inv (.bool true) (by kernel_rfl)) ?_
  repeat' (first | refine uN ?_ | refine uC (k1 _ _) ?_ | (refine uB ?_; intro b) | (refine uP ?_ ?_ <;> (intro h; ((try simp only [zs, ne_eq, and_true, true_and, eq_self, reduceCtorEq] at h); try exact zx))) | fail)
  exact sp1 (L' := L) uZ ⟨rfl, rfl⟩
theorem as1_hit (e : Addr) (t : Value) (b bv E : Nat) (old : Value) (L : Heap) : HC Tryd.prog 148 [.iface 144 (.pointer (some e)), t, rvV 192 bv 150, rtV 144] ([(b, .cells ⟨[old]⟩ E)] :: [(bv, .cells ⟨[pt b 0]⟩ 192)] :: L)
    (fun v L' => v = .bool true ∧ L' = [(b, .cells ⟨[.pointer (some e)]⟩ E)] :: [(bv, .cells ⟨[pt b 0]⟩ 192)] :: L) := by
  generalize b = b0
  refine Ze (by kernel_rfl) Tryd.func148 rfl Tryd.ntmps148 (Nat.le_of_ble_eq_true rfl) ?_; simp only [args0, Nat.reduceAdd]
  repeat' (first | refine uN ?_ | (refine uB ?_; intro b) | (refine uP ?_ ?_ <;> (intro h; ((try simp only [zs, ne_eq, and_true, true_and, eq_self, reduceCtorEq] at h); try exact zx))) | fail)
  generalize b = b6
  refine hw_loop (σ := Unit) (fun _ => [(0, .iface 144 (.pointer (some e))), (1, t), (3, rtV 144), (6, pt b6 0)]) (fun _ => [(b6, .cells ⟨[hnd 192, .pointer (some ⟨bv, 0, none⟩), .int .u64 150]⟩ 219)] :: [(b0, .cells ⟨[old]⟩ E)] :: [(bv, .cells ⟨[pt b0 0]⟩ 192)] :: L) (fun _ => True) (fun _ => 0) () uS (List.Sublist.refl _) trivial ?_
  rintro _ -
  repeat' (first | refine uN ?_ | (refine uB ?_; intro b) | (refine uP ?_ ?_ <;> (intro h; ((try simp only [zs, ne_eq, and_true, true_and, eq_self, reduceCtorEq] at h); try exact zx))) | fail)
  refine g_q (q_ext (rtV 144) (by kernel_rfl)) ?_
  repeat' (first | refine uN ?_ | (refine uB ?_; intro b) | (refine uP ?_ ?_ <;> (intro h; ((try simp only [zs, ne_eq, and_true, true_and, eq_self, reduceCtorEq] at h); try exact zx))) | fail)
  refine g_q (q_inv (.bool true) (by kernel_rfl)) ?_
  repeat' (first | refine uN ?_ | (refine uB ?_; intro b) | (refine uP ?_ ?_ <;> (intro h; ((try simp only [zs, ne_eq, and_true, true_and, eq_self, reduceCtorEq] at h); try exact zx))) | fail)
  refine g_q (q_elemV (has_next (has_next has_here))) ?_
  repeat' (first | refine uN ?_ | (refine uB ?_; intro b) | (refine uP ?_ ?_ <;> (intro h; ((try simp only [zs, ne_eq, and_true, true_and, eq_self, reduceCtorEq] at h); try exact zx))) | fail)
  refine ho_new _ (fun b => rvV 144 b 150) (as_vF2 e) (fun bw => ?_)
  refine fo 2 ?_
  refine ho_put Tryd.func167 (by kernel_rfl) (by kernel_rfl) (by kernel_rfl) f_set (v := .pointer (some e))
    (fun k w hs => as_set ⟨b0, 0, none⟩ ⟨bw, 0, none⟩ e old w (by rw [hs.cell (has_next has_here)]; rfl) (by rw [hs.cell has_here]; rfl) (by simp [World.frozen?, hs.heap has_here])) (fun N => pl_set ⟨b0, 0, none⟩ ⟨bw, 0, none⟩ ⟨.cells ⟨[old]⟩ E, by simp, rfl⟩) ?_
  repeat' (first | refine uN ?_ | (refine uB ?_; intro b) | (refine uP ?_ ?_ <;> (intro h; ((try simp only [zs, ne_eq, and_true, true_and, eq_self, reduceCtorEq] at h); try exact zx))) | fail)
  exact sp1 (L' := [(b0, .cells ⟨[.pointer (some e)]⟩ E)] :: [(bv, .cells ⟨[pt b0 0]⟩ 192)] :: L) uL ⟨rfl, rfl⟩
theorem as_hit_calls (e : Addr) (b E : Nat) (old : Value) (L : Heap) (hg : Gl L 9 (rtV 37)) : HC Tryd.prog 129 [.iface 144 (.pointer (some e)), .iface 192 (pt b 0)] ([(b, .cells ⟨[old]⟩ E)] :: L) (fun v L' => v = .bool true ∧ L' = [(b, .cells ⟨[.pointer (some e)]⟩ E)] :: L) := by
  generalize b = b0
  have k1 := fun bv L => as1_hit e (.iface 192 (pt b0 0)) b0 bv E old L
  refine Ze (by kernel_rfl) Tryd.func129 rfl Tryd.ntmps129 (Nat.le_of_ble_eq_true rfl) ?_; simp only [args0, Nat.reduceAdd]
  repeat' (first | refine uN ?_ | (refine uB ?_; intro b) | (refine uP ?_ ?_ <;> (intro h; ((try simp only [zs, ne_eq, and_true, true_and, eq_self, reduceCtorEq] at h); try exact zx))) | fail)
  refine ho_new _ (fun b => rvV 192 b 150) (as_vF ⟨b0, 0, none⟩) (fun bv => ?_)
  repeat' (first | refine uN ?_ | (refine uB ?_; intro b) | (refine uP ?_ ?_ <;> (intro h; ((try simp only [zs, ne_eq, and_true, true_and, eq_self, reduceCtorEq] at h); try exact zx))) | fail)
  refine g_q (q_ext (rtV 192) (by kernel_rfl)) ?_
  repeat' (first | refine uN ?_ | (refine uB ?_; intro b) | (refine uP ?_ ?_ <;> (intro h; ((try simp only [zs, ne_eq, and_true, true_and, eq_self, reduceCtorEq] at h); try exact zx))) | fail)
  refine g_q (q_inv (.int .u8 22) (by kernel_rfl)) ?_
  repeat' (first | refine uN ?_ | (refine uB ?_; intro b) | (refine uP ?_ ?_ <;> (intro h; ((try simp only [zs, ne_eq, and_true, true_and, eq_self, reduceCtorEq] at h); try exact zx))) | fail)
  refine g_q (q_isNil (has_next has_here)) ?_
  repeat' (first | refine uN ?_ | (refine uB ?_; intro b) | (refine uP ?_ ?_ <;> (intro h; ((try simp only [zs, ne_eq, and_true, true_and, eq_self, reduceCtorEq] at h); try exact zx))) | fail)
  refine g_q (q_inv (rtV 144) (by kernel_rfl)) ?_
  repeat' (first | refine uN ?_ | (refine uB ?_; intro b) | (refine uP ?_ ?_ <;> (intro h; ((try simp only [zs, ne_eq, and_true, true_and, eq_self, reduceCtorEq] at h); try exact zx))) | fail)
  refine g_q (q_inv (.int .u8 22) (by kernel_rfl)) ?_
  have hg2 := ((hg.cons (c := [(b0, .cells ⟨[old]⟩ E)])).cons (c := [(bv, .cells ⟨[pt b0 0]⟩ 192)])).cons (c := [(b, .cells ⟨[hnd 192, .pointer (some ⟨bv, 0, none⟩), .int .u64 150]⟩ 219)])
  repeat' (first | refine uN ?_ | (refine uB ?_; intro b) | (refine uP ?_ ?_ <;> (intro h; ((try simp only [zs, ne_eq, and_true, true_and, eq_self, reduceCtorEq] at h); try exact zx))) | fail)
  refine g_q (q_inv (.bool true) (by kernel_rfl)) ?_
  repeat' (first | refine uN ?_ | (refine uB ?_; intro b) | (refine uP ?_ ?_ <;> (intro h; ((try simp only [zs, ne_eq, and_true, true_and, eq_self, reduceCtorEq] at h); try exact zx))) | fail)
  refine fo 1 ?_
  refine fo 2 ?_
  refine gc (k1 bv _) ?_
  rintro v L' ⟨rfl, rfl⟩
  repeat' (first | refine uN ?_ | (refine uB ?_; intro b) | (refine uP ?_ ?_ <;> (intro h; ((try simp only [zs, ne_eq, and_true, true_and, eq_self, reduceCtorEq] at h); try exact zx))) | fail)
  exact sp1 (L' := [(b0, .cells ⟨[.pointer (some e)]⟩ E)] :: L) uL ⟨rfl, rfl⟩
end Go.HL
end

/-! QErC -/
section
namespace Go.HL
set_option linter.unusedSectionVars false
variable [Tasks]
open Go Go.Proofs
set_option linter.unusedVariables false
set_option linter.unusedSimpArgs false
def all9 : List Nat := [1, 2, 3, 4, 5, 6, 7, 8, 9]
/-- the nine errors: their variables, their blocks; no two are one -/
structure Ez (T : Nat) (E : Nat → Addr) (L : Heap) : Prop where
  ty : T = 267
  errs : Er T E all9 L
  blk : ∀ c, List.elem c all9 = true → Bk L (E c).block
  one : ∀ c c', List.elem c all9 = true → List.elem c' all9 = true → E c = E c' → c = c'
  et : Gl L 9 (.iface 241 (.agg #[.pointer (some ⟨10, 37, none⟩)]))
theorem Ez.cons {T : Nat} {E : Nat → Addr} {L : Heap} (h : Ez T E L) (c : List Blk) : Ez T E (c :: L) :=
  ⟨h.ty, h.errs.cons c, fun k hk => (h.blk k hk).cons c, h.one, h.et.cons⟩
theorem Ez.mono {T : Nat} {E : Nat → Addr} {L L' : Heap} (h : Ez T E L) (hl : ∀ b o, Has L b o → Has L' b o) : Ez T E L' :=
  ⟨h.ty, h.errs.mono hl, fun k hk => let ⟨c, E, hb⟩ := h.blk k hk; ⟨c, E, hb.imp (hl _ _) (hl _ _)⟩, h.one, h.et.mono hl⟩
theorem Ez.er {T : Nat} {E : Nat → Addr} {L : Heap} (h : Ez T E L) (cs : List Nat) (hm : (cs.all fun g => all9.elem g) = true := by rfl) : Er T E cs L := h.errs.sub hm
/-- errors of the document, plain or at a place -/
def faC (pb : Nat) (at_ : Int) (T : Nat) (E : Nat → Addr) (c : Option Nat) : List Blk := [(pb, .cells ⟨[iv at_, eV T E c]⟩ 146)]
set_option maxHeartbeats 2000000 attribute [local irreducible] HW HO HQ HD HC QOp Has Upd Puts Gets seqQ blkQ loopQ fnQ actQ nextP unQ MapF
theorem code_nil (L : Heap) : HC Tryd.prog 86 [.nilIface] L (fun v L' => v = .tuple ⟨[iv 0, iv (-1)]⟩ ∧ L' = L) := by
  refine Ze (by kernel_rfl) Tryd.func86 rfl Tryd.ntmps86 (Nat.le_of_ble_eq_true rfl) ?_; simp only [args0, Nat.reduceAdd]
  repeat' (first | refine uN ?_ | (refine uB ?_; intro b) | (refine uP ?_ ?_ <;> (intro h; ((try simp only [zs, ne_eq, and_true, true_and, eq_self, reduceCtorEq] at h); try exact zx))) | fail)
  exact sp2 (LS.refl _) ⟨rfl, rfl⟩
def eL (T : Nat) (E : Nat → Addr) : List Value := all9.map fun c => eV T E (some c)
theorem eL_get {T : Nat} {E : Nat → Addr} {i : Nat} (h : i < 9) : (eL T E)[0 + (i : Int).toNat]? = some (errV T E (i + 1)) := by
  have : ∀ i, i < 9 → (all9.map fun c => eV T E (some c))[i]? = some (errV T E (i + 1)) := by
    intro i h
    match i, h with
    | 0, _ => rfl
    | 1, _ => rfl
    | 2, _ => rfl
    | 3, _ => rfl
    | 4, _ => rfl
    | 5, _ => rfl
    | 6, _ => rfl
    | 7, _ => rfl
    | 8, _ => rfl
  simpa [eL] using this i h
theorem elem9 {i : Nat} (h : i < 9) : List.elem (i + 1) all9 = true := by
  have : ∀ i, i < 9 → List.elem (i + 1) all9 = true := by decide
  exact this i h
theorem code_calls (T : Nat) (E : Nat → Addr) (c : Nat) (L : Heap) (hE : Ez T E L) (hc : List.elem c all9 = true) : HC Tryd.prog 86 [eV T E (some c)] L (fun v L' => v = .tuple ⟨[iv c, iv (-1)]⟩ ∧ L' = L) := by
  have hT := hE.ty
  have hG := hE.errs
  have hA := as_miss_calls (E c)
  have hI : ∀ i L', Ez T E L' → i < 9 → HC Tryd.prog 130 [eV T E (some c), errV T E (i + 1)] L' (fun v L2 => v = .bool (decide (E c = E (i + 1))) ∧ L2 = L') := fun i L' h9 hi => by
    subst hT
    refine is_calls (E c) (E (i + 1)) L' ?_
    by_cases he : E c = E (i + 1)
    · exact .inl he
    · exact .inr ⟨he, h9.blk c hc, h9.blk (i + 1) (elem9 hi)⟩
  subst hT
  refine Ze (by kernel_rfl) Tryd.func86 rfl Tryd.ntmps86 (Nat.le_of_ble_eq_true rfl) ?_; simp only [args0, Nat.reduceAdd]
  repeat' (first | refine uN ?_ | (refine uB ?_; intro b) | (refine uP ?_ ?_ <;> (intro h; ((try simp only [zs, ne_eq, and_true, true_and, eq_self, reduceCtorEq] at h); try exact zx))) | fail)
  refine gc (hA ⟨b, 0, none⟩ _ hE.et.cons) ?_
  rintro v L' ⟨rfl, rfl⟩
  have hG2 := hG.cons [(b, .cells ⟨[.pointer none]⟩ 144)]
  repeat' (first | refine uN ?_ | (refine uB ?_; intro b) | (refine uP ?_ ?_ <;> (intro h; ((try simp only [zs, ne_eq, and_true, true_and, eq_self, reduceCtorEq] at h); try exact zx))) | fail)
  rename_i b0
  refine hw_loop (σ := Nat) (fun i => [(0, eV 267 E (some c)), (3, iv (-1)), (25, sl b 0 9 9), (26, iv 9), (27, iv i)]) (fun _ => [(b, .cells ⟨eL 267 E⟩ 37)] :: [(b0, .cells ⟨[.pointer none]⟩ 144)] :: L) (fun i => i ≤ 8 ∧ i < c) (fun i => 9 - i) 0 uS (List.Sublist.refl _) ⟨by omega, ?_⟩ ?_
  · cases c with
    | zero => exact absurd hc (by decide)
    | succ c => omega
  rintro i ⟨h8, hlt⟩
  have g := eL_get (T := 267) (E := E) (show i < 9 by omega)
  have hz := hI i _ ((hE.cons [(b0, .cells ⟨[.pointer none]⟩ 144)]).cons [(b, .cells ⟨eL 267 E⟩ 37)]) (by omega)
  repeat' (first | refine uN ?_ | refine uC (hz) ?_ | (refine uB ?_; intro b) | (refine uP ?_ ?_ <;> (intro h; ((try simp only [zs, ne_eq, and_true, true_and, eq_self, reduceCtorEq] at h); try exact zx))) | fail)
  · obtain rfl := hE.one c (i + 1) hc (elem9 (by omega)) h
    exact sp2 uZ ⟨rfl, rfl⟩
  · have hne : c ≠ i + 1 := fun e => h (congrArg E e)
    have h10 : c < 10 := by
      have := List.elem_iff.1 hc
      simp [all9] at this
      omega
    exact loopQ_normal (i + 1) uS (List.Sublist.refl _) ⟨by omega, by omega⟩ (by omega)
theorem codeF_calls (T : Nat) (E : Nat → Addr) (c : Nat) (pb : Nat) (at_ : Int) (fr : Nat × Nat) (t : Nat) (L : Heap) (hE : Ez T E L) (hc : List.elem c all9 = true) (hp : Has L pb (.cells ⟨[iv at_, eV T E (some c)]⟩ t fr)) :
    HC Tryd.prog 86 [.iface 144 (pt pb 0)] L (fun v L' => v = .tuple ⟨[iv c, iv at_]⟩ ∧ L' = L) := by
  have hT := hE.ty
  have hG := hE.errs
  have hA := as_hit_calls ⟨pb, 0, none⟩
  have hI : ∀ i L', Ez T E L' → Has L' pb (.cells ⟨[iv at_, eV T E (some c)]⟩ t fr) → i < 9 → HC Tryd.prog 130 [.iface 144 (pt pb 0), errV T E (i + 1)] L' (fun v L2 => v = .bool (decide (E c = E (i + 1))) ∧ L2 = L') := fun i L' h9 hp' hi => by
    subst hT
    refine isw_calls pb 0 (E c) (E (i + 1)) _ t fr L' hp' rfl ?_
    by_cases he : E c = E (i + 1)
    · exact .inl he
    · exact .inr ⟨he, h9.blk c hc, h9.blk (i + 1) (elem9 hi)⟩
  subst hT
  refine Ze (by kernel_rfl) Tryd.func86 rfl Tryd.ntmps86 (Nat.le_of_ble_eq_true rfl) ?_; simp only [args0, Nat.reduceAdd]
  repeat' (first | refine uN ?_ | (refine uB ?_; intro b) | (refine uP ?_ ?_ <;> (intro h; ((try simp only [zs, ne_eq, and_true, true_and, eq_self, reduceCtorEq] at h); try exact zx))) | fail)
  refine gc (hA b _ _ _ hE.et) ?_
  rintro v L' ⟨rfl, rfl⟩
  have hG2 := hG.cons [(b, .cells ⟨[.pointer (some ⟨pb, 0, none⟩)]⟩ 144)]
  repeat' (first | refine uN ?_ | (refine uB ?_; intro b) | (refine uP ?_ ?_ <;> (intro h; ((try simp only [zs, ne_eq, and_true, true_and, eq_self, reduceCtorEq] at h); try exact zx))) | fail)
  rename_i b0
  refine hw_loop (σ := Nat) (fun i => [(0, .iface 144 (pt pb 0)), (3, iv at_), (25, sl b 0 9 9), (26, iv 9), (27, iv i)]) (fun _ => [(b, .cells ⟨eL 267 E⟩ 37)] :: [(b0, .cells ⟨[.pointer (some ⟨pb, 0, none⟩)]⟩ 144)] :: L) (fun i => i ≤ 8 ∧ i < c) (fun i => 9 - i) 0 uS (List.Sublist.refl _) ⟨by omega, ?_⟩ ?_
  · cases c with
    | zero => exact absurd hc (by decide)
    | succ c => omega
  rintro i ⟨h8, hlt⟩
  have g := eL_get (T := 267) (E := E) (show i < 9 by omega)
  have hz := hI i _ ((hE.cons [(b0, .cells ⟨[.pointer (some ⟨pb, 0, none⟩)]⟩ 144)]).cons [(b, .cells ⟨eL 267 E⟩ 37)]) (has_next (has_next hp)) (by omega)
  repeat' (first | refine uN ?_ | refine uC (hz) ?_ | (refine uB ?_; intro b) | (refine uP ?_ ?_ <;> (intro h; ((try simp only [zs, ne_eq, and_true, true_and, eq_self, reduceCtorEq] at h); try exact zx))) | fail)
  · obtain rfl := hE.one c (i + 1) hc (elem9 (by omega)) h
    exact sp2 uZ ⟨rfl, rfl⟩
  · have hne : c ≠ i + 1 := fun e => h (congrArg E e)
    have h10 : c < 10 := by
      have := List.elem_iff.1 hc
      simp [all9] at this
      omega
    exact loopQ_normal (i + 1) uS (List.Sublist.refl _) ⟨by omega, by omega⟩ (by omega)
/-- an error's number: 0, or its code -/
def cdN : Option Nat → Int
  | none => 0
  | some c => c
def okE : Option Nat → Prop
  | none => True
  | some c => List.elem c all9 = true
theorem code_all (T : Nat) (E : Nat → Addr) (e : Option Nat) (L : Heap) (hE : Ez T E L) (he : okE e) : HC Tryd.prog 86 [eV T E e] L (fun v L' => v = .tuple ⟨[iv (cdN e), iv (-1)]⟩ ∧ L' = L) := by
  cases e with
  | none => exact code_nil L
  | some c => exact code_calls T E c L hE he
end Go.HL
end

/-! QSdH -/
section
namespace Go.HL
set_option linter.unusedSectionVars false
variable [Tasks]
open Go Go.Proofs
set_option linter.unusedVariables false
set_option linter.unusedSimpArgs false
/-- a slice of strings that all may read -/
def StrS (v : Value) (ss : List (List UInt8)) (L : Heap) : Prop :=
  ∃ (a : Option Addr) (cp : Nat), v = .slice a ss.length cp ∧ (ss = [] ∨ ∃ (d o : Nat) (l : List Value) (f : Nat × Nat), a = some ⟨d, o, none⟩ ∧ Has L d (.cells ⟨l⟩ 9 f) ∧ o + ss.length ≤ l.length ∧ ∀ (i : Nat) s, ss[i]? = some s → l[o + i]? = some (bs s))
def frD (ss : List (List UInt8)) (i : Nat) : Fr := (decM (ss.getD i [])).1
def ecD (ss : List (List UInt8)) (i : Nat) : Option Nat := (decM (ss.getD i [])).2
/-- the first that is no frame -/
def firstE : List (List UInt8) → Nat → Option (Nat × Nat)
  | [], _ => none
  | s :: r, i => match (decM s).2 with
    | some c => some (i, c)
    | none => firstE r (i + 1)
theorem firstE_none {ss : List (List UInt8)} : ∀ {k : Nat}, (∀ i, i < ss.length → ecD ss i = none) → firstE ss k = none := by
  induction ss with
  | nil => intro k h; rfl
  | cons s r ih =>
    intro k h
    have h0 : (decM s).2 = none := by simpa [ecD] using h 0 (by simp)
    simp only [firstE, h0]
    exact ih fun i hi => by simpa [ecD] using h (i + 1) (by simpa using hi)
theorem firstE_some {ss : List (List UInt8)} {c : Nat} : ∀ {i k : Nat}, i < ss.length → (∀ j, j < i → ecD ss j = none) → ecD ss i = some c → firstE ss k = some (k + i, c) := by
  induction ss with
  | nil => intro i k h; simp at h
  | cons s r ih =>
    intro i k h hj hc
    cases i with
    | zero =>
      have h0 : (decM s).2 = some c := by simpa [ecD] using hc
      simp only [firstE, h0]; rfl
    | succ i =>
      have h0 : (decM s).2 = none := by simpa [ecD] using hj 0 (by omega)
      simp only [firstE, h0]
      rw [ih (i := i) (k := k + 1) (by simpa using h) (fun j hj2 => by simpa [ecD] using hj (j + 1) (by omega)) (by simpa [ecD] using hc)]
      congr 2; omega
set_option maxHeartbeats 2000000 attribute [local irreducible] HW HO HQ HD HC QOp Has Upd Puts Gets seqQ blkQ loopQ fnQ actQ nextP unQ MapF
theorem dec1h_calls (T : Nat) (E : Nat → Addr) (b d o n cp i : Nat) (l : List Value) (s : List UInt8) (f1 f2 : Nat × Nat) (L : Heap) (hb : Has L b (.cells ⟨[sl d o n cp]⟩ 137 f1)) (hd : Has L d (.cells ⟨l⟩ 9 f2)) (hG : Er T E [1, 2, 7] L) (hi : i < n) (hg : l[o + i]? = some (bs s)) (hn : o + n ≤ l.length) (hs : s.length ≤ 1000000) :
    HC Tryd.prog 128 [iv i, pt b 0] L (fun v L' => v = .tuple ⟨[.agg ⟨fc (decM s).1⟩, eV T E (decM s).2]⟩ ∧ L' = L) := by
  have kd := fun L hG => decode_calls T E s L hG hs
  generalize b = b0 at hb ⊢
  refine Ze (by kernel_rfl) Tryd.func128 rfl Tryd.ntmps128 (Nat.le_of_ble_eq_true rfl) ?_; simp only [args0, Nat.reduceAdd]
  repeat' (first | refine uN ?_ | refine g_q (qC (kd _ (by repeat (first | exact hG | apply Errs.cons)))) ?_ | (refine uB ?_; intro b) | fail)
  exact sp2 (L' := L) uZ ⟨rfl, rfl⟩ (hx := rcell S (hg := gets_self _))
theorem Has.ls {L L' : Heap} (h : LS L.flatten L'.flatten) : ∀ b o, Has L b o → Has L' b o := fun b o hb => by unfold Has at *; exact h.mem hb
theorem has_app {X L : Heap} {b : Nat} {o : Obj} (h : Has L b o) : Has (X ++ L) b o := by
  simp only [Has, List.flatten_append, List.mem_append] at *
  exact .inr h
theorem eV_or (T : Nat) (E : Nat → Addr) (e : Option Nat) : eV T E e = .nilIface ∨ ∃ t p, eV T E e = .iface t (.pointer p) := by
  cases e with
  | none => exact .inl rfl
  | some c => exact .inr ⟨T, some (E c), rfl⟩
theorem er_get {f : Nat → Value} {m i : Nat} (h : i < m) : ((List.range m).map f)[0 + (i : Int).toNat]? = some (f i) := by
  simp [h]
theorem frD_map (ss : List (List UInt8)) : (List.range ss.length).map (frD ss) = ss.map fun s => (decM s).1 := by
  refine List.ext_getElem? fun i => ?_
  by_cases hi : i < ss.length
  · simp [hi, frD]
  · rw [List.getElem?_eq_none (by simp; omega), List.getElem?_eq_none (by simp; omega)]
def DecsQ (T : Nat) (E : Nat → Addr) (ss : List (List UInt8)) (wk : Int) (L0 : Heap) (v : Value) (L' : Heap) : Prop :=
  ∃ t' : Tk, t'.st = 12 ∧ match rightM wk ss.length with
    | some c => v = .tuple ⟨[nilS, eV T E (some c)]⟩ ∧ L' = [t'.at_] :: L0
    | none => match firstE ss 0 with
      | some (i, c) => ∃ pb, v = .tuple ⟨[nilS, .iface 144 (pt pb 0)]⟩ ∧ L' = [t'.at_] :: [(pb, .cells ⟨[iv i, eV T E (some c)]⟩ 146)] :: L0
      | none => ∃ bo, v = .tuple ⟨[sl bo 0 ss.length ss.length, .nilIface]⟩ ∧ L' = [t'.at_] :: [(bo, .cells ⟨((ss.map fun s => (decM s).1).map fc).flatten⟩ 45)] :: L0
section
variable [Go.ConcR.Payload]
theorem decs_calls {t : Tk} {C E0 g : Nat} {o0 : Array Value} {f0 : Nat × Nat} {v0 v : Value} {Lr L0 : Heap} (T : Nat) (E : Nat → Addr) (ss : List (List UInt8)) (wk : Int) (hT : Tasks.T = 212) (h : AtC C (.cells o0 E0 f0) Lr) (hl : o0[0]? = some v0) (h12 : t.st = 12) (hlen : ∀ s ∈ ss, s.length ≤ 1000000)
    (hro : ∀ p ∈ Lr.flatten, rob p.2 = true) (hls : LS Lr.flatten L0.flatten) (hv : StrS v ss Lr) (hE : Ez T E Lr) (hss : ss.length ≤ 100000000)
    (hR : ∀ i, i < ss.length → Tasks.R g i (doneV i (frD ss i) (eV T E (ecD ss i))) []) (hR2 : ∀ i v bl, Tasks.R g i v bl → v = doneV i (frD ss i) (eV T E (ecD ss i)) ∧ bl = []) :
    HC Tryd.prog 83 [v, iv wk] ([t.at_] :: L0) (DecsQ T E ss wk L0) := by
  have hE0 : Ez T E L0 := hE.mono (Has.ls hls)
  obtain ⟨a, cp, rfl, hst⟩ := hv
  have hG := hE0.er [2, 3]
  unfold DecsQ
  refine Ze (by kernel_rfl) Tryd.func83 rfl Tryd.ntmps83 (Nat.le_of_ble_eq_true rfl) ?_; simp only [args0, Nat.reduceAdd]
  cases hr : rightM wk ss.length with
  | some c =>
    have kr := fun L hG => right_calls T E wk ss.length L hG
    rw [hr] at kr
    repeat' (first | refine uN ?_ | refine g_q (qC (kr _ (by repeat (first | exact hG | apply Errs.cons)))) ?_ | (refine uB ?_; intro b) | (refine uP ?_ ?_ <;> (intro h; ((try simp only [zs, ne_eq, and_true, true_and, eq_self, reduceCtorEq] at h); try exact zx))) | fail)
    exact sp2 (L' := [t.at_] :: L0) uZ ⟨t, h12, rfl, rfl⟩
  | none =>
    have kr := fun L hG => right_calls T E wk ss.length L hG
    rw [hr] at kr
    obtain ⟨h1, h2, h3⟩ : 1 ≤ wk ∧ wk ≤ 16 ∧ (ss.length : Int) ≤ 100 := by
      unfold rightM at hr
      by_cases a1 : wk < 1
      · rw [if_pos a1] at hr; exact absurd hr (by simp)
      by_cases a2 : 16 < wk
      · rw [if_neg a1, if_pos a2] at hr; exact absurd hr (by simp)
      by_cases a3 : 100 < (ss.length : Int)
      · rw [if_neg a1, if_neg a2, if_pos a3] at hr; exact absurd hr (by simp)
      exact ⟨by omega, by omega, by omega⟩
    obtain ⟨w, rfl⟩ : ∃ w : Nat, wk = w := ⟨wk.toNat, by omega⟩
    have ka := fun b => (all_calls (t := t) (C := C) (E := E0) (F := 128) (cap := [pt b 0]) (g := g) (many := ss.length) (wk := w) (o := o0) (f := f0) (v0 := v0) (Lr := [(b, ronly (.cells ⟨[.slice a ss.length cp]⟩ 137 (0, 0)))] :: Lr) (L0 := [(b, ronly (.cells ⟨[.slice a ss.length cp]⟩ 137 (0, 0)))] :: L0) (frD ss) (fun i => eV T E (ecD ss i)) hT (h.mono fun p hp => by simp [hp]) hl h12 (by omega) (by omega) (by omega)
      (fun p hp => by
        simp only [List.flatten_cons, List.cons_append, List.nil_append, List.mem_cons] at hp
        rcases hp with rfl | hp
        · exact rob_mark _ _ _
        · exact hro p hp) (LS.k hls) (fun i => eV_or T E _)
      (fun i hi X => by
        rcases hst with rfl | ⟨d, o, l, f, rfl, hd, hol, hg⟩
        · simp at hi
        · have hsi : ss[i]? = some (ss.getD i []) := by simp [hi]
          exact dec1h_calls T E b d o ss.length cp i l (ss.getD i []) _ f _ (has_app has_here) (has_app (has_next hd)) ((hE.er [1, 2, 7]).mono fun b o hb => has_app (has_next hb)) hi (hg i _ hsi) hol (hlen _ (List.mem_of_getElem? hsi))) hR hR2)
    repeat' (first | refine uN ?_ | refine g_q (qC (kr _ (by repeat (first | exact hG | apply Errs.cons)))) ?_ | (refine uB ?_; intro b) | (refine uP ?_ ?_ <;> (intro h; ((try simp only [zs, ne_eq, and_true, true_and, eq_self, reduceCtorEq] at h); try exact zx))) | fail)
    refine gc (((ka b).wk (.ls (show LS _ ([(b, ronly (.cells ⟨[.slice a ss.length cp]⟩ 137 (0, 0)))] :: [t.at_] :: L0 : Heap).flatten from uL))).wk (wk_ro upd_here rob0)) ?_
    rintro v L' ⟨bo, be, t', rfl, ht', rfl⟩
    rw [frD_map]
    repeat' (first | refine uN ?_ | (refine uB ?_; intro b) | (refine uP ?_ ?_ <;> (intro h; ((try simp only [zs, ne_eq, and_true, true_and, eq_self, reduceCtorEq] at h); try exact zx))) | fail)
    refine hw_loop (σ := Nat) (fun i => [(4, nilS), (5, .nilIface), (7, sl bo 0 ss.length ss.length), (27, sl be 0 ss.length ss.length), (28, iv ss.length), (29, iv i)])
      (fun _ => [t'.at_] :: [(bo, .cells ⟨((ss.map fun s => (decM s).1).map fc).flatten⟩ 45)] :: [(be, .cells ⟨(List.range ss.length).map fun i => eV T E (ecD ss i)⟩ 37)] :: [(b, ronly (.cells ⟨[.slice a ss.length cp]⟩ 137 (0, 0)))] :: L0)
      (fun i => i ≤ ss.length ∧ ∀ j, j < i → ecD ss j = none) (fun i => ss.length - i) 0 uS (List.Sublist.refl _) ⟨by omega, fun j hj => by omega⟩ ?_
    rintro i ⟨hi, hj⟩
    by_cases hlt : i < ss.length
    · have hg := er_get (f := fun i => eV T E (ecD ss i)) hlt
      cases hc : ecD ss i with
      | none =>
        rw [hc] at hg
        simp only [eV] at hg
        repeat' (first | refine uN ?_ | (refine uB ?_; intro b) | (refine uP ?_ ?_ <;> (intro h; ((try simp only [zs, ne_eq, and_true, true_and, eq_self, reduceCtorEq] at h); try exact zx))) | fail)
        exact loopQ_sp (i + 1) uS uL ⟨by omega, fun j h => by rcases Nat.lt_succ_iff_lt_or_eq.1 h with h | rfl; exact hj j h; exact hc⟩ (by omega)
      | some c =>
        rw [hc] at hg
        simp only [eV] at hg
        have hA := as_miss_calls (E c)
        rw [firstE_some hlt hj hc]
        have hT2 := hE.ty
        subst hT2
        repeat' (first | refine uN ?_ | (refine uB ?_; intro b) | (refine uP ?_ ?_ <;> (intro h; ((try simp only [zs, ne_eq, and_true, true_and, eq_self, reduceCtorEq] at h); try exact zx))) | fail)
        refine gc (hA ⟨b, 0, none⟩ _ (by (repeat (first | exact hE0.et | apply Gl.cons)))) ?_
        rintro v L' ⟨rfl, rfl⟩
        repeat' (first | refine uN ?_ | (refine uB ?_; intro b) | (refine uP ?_ ?_ <;> (intro h; ((try simp only [zs, ne_eq, and_true, true_and, eq_self, reduceCtorEq] at h); try exact zx))) | fail)
        exact sp2 (L' := [t'.at_] :: [(b, .cells ⟨[iv i, .iface 267 (.pointer (some (E c)))]⟩ 146)] :: L0) uL ⟨t', ht', by simp only [Nat.zero_add]; exact ⟨b, rfl, rfl⟩⟩
    · obtain rfl : i = ss.length := by omega
      rw [firstE_none fun j h => hj j h]
      repeat' (first | refine uN ?_ | (refine uB ?_; intro b) | (refine uP ?_ ?_ <;> (intro h; ((try simp only [zs, ne_eq, and_true, true_and, eq_self, reduceCtorEq] at h); try exact zx))) | fail)
      exact sp2 (L' := [t'.at_] :: [(bo, _)] :: L0) uZ ⟨t', ht', bo, rfl, rfl⟩
end
end Go.HL
end

/-! QJnN -/
section
namespace Go.HL
set_option linter.unusedSectionVars false
variable [Tasks]
open Go Go.Proofs
set_option linter.unusedVariables false
set_option linter.unusedSimpArgs false
theorem rdN_foldl (s : List UInt8) (a : Nat) : s.foldl (fun n b => n * 256 + b.toNat) a = a * 256 ^ s.length + rdN s := by
  induction s generalizing a with
  | nil => simp [rdN]
  | cons b s ih =>
    rw [rdN, List.foldl_cons, List.foldl_cons, ih, ih]
    simp only [List.length_cons, Nat.pow_succ]
    have e : a * 256 * 256 ^ s.length = a * (256 ^ s.length * 256) := by rw [Nat.mul_assoc, Nat.mul_comm 256]
    rw [Nat.add_mul, e, Nat.zero_mul, Nat.zero_add]
    omega
theorem rdN_cons (b : UInt8) (s : List UInt8) : rdN (b :: s) = b.toNat * 256 ^ s.length + rdN s := by
  rw [rdN, List.foldl_cons, rdN_foldl]; simp
theorem bt_nat (n k : Nat) : (bt (n : Int) k).toNat = n / 256 ^ k % 256 := by
  have h := bt_val (n : Int) k
  have e : (n : Int) / 2 ^ (8 * k) % 256 = ((n / 256 ^ k % 256 : Nat) : Int) := by
    rw [Int.pow_mul]
    simp
  rw [e] at h
  exact Int.ofNat.inj h
theorem rdN_numB (n k : Nat) : rdN (numB (n : Int) k) = n % 256 ^ k := by
  induction k with
  | zero => simp [numB, rdN, Nat.mod_one]
  | succ k ih =>
    rw [numB, rdN_cons, ih, bt_nat, numB_len, Nat.pow_succ, Nat.mod_mul]
    rw [Nat.mul_comm, Nat.add_comm]
theorem rd_num {n : Int} {k : Nat} (h0 : 0 ≤ n) (h1 : n < 256 ^ k) : ((rdN (numB n k) : Nat) : Int) = n := by
  obtain ⟨n, rfl⟩ := Int.eq_ofNat_of_zero_le h0
  rw [rdN_numB, Nat.mod_eq_of_lt]
  exact Int.ofNat_lt.1 (by simpa using h1)
end Go.HL
end

/-! QWrE -/
section
namespace Go.HL
set_option linter.unusedSectionVars false
variable [Tasks]
open Go Go.Proofs
set_option linter.unusedVariables false
set_option linter.unusedSimpArgs false
theorem fld_mid {s p x r : List UInt8} {a b : Nat} (hs : s = p ++ (x ++ r)) (ha : p.length = a) (hb : a + x.length = b) : fld s a b = (rdN x : Nat) := by
  unfold fld
  subst ha hb
  rw [hs, ← List.append_assoc, List.take_left' (by simp), List.drop_left' rfl]
theorem dec_enc {f : Fr} (hb : ¬badF f) : decM (encS f) = (f, none) := by
  have hl := encS_len f
  have ht : (encS f).take 18 = encT f := by unfold encS; exact List.take_left' (encT_len f)
  have hd : (encS f).drop 18 = lowB (crc (encT f)) := by unfold encS; exact List.drop_left' (encT_len f)
  obtain ⟨fr, to, dl, kd, att, yes, ph, pr, pa⟩ := f
  have hq := hb
  unfold badF at hq
  simp only at hq
  have hy : 0 ≤ yesN yes ∧ yesN yes < 2 := by unfold yesN; split <;> omega
  have hyd : decide (yesN yes = 1) = yes := by cases yes <;> rfl
  generalize hE : encS ⟨fr, to, dl, kd, att, yes, ph, pr, pa⟩ = s at *
  have l1 := fun z => numB_len z 1
  have l4 := fun z => numB_len z 4
  have es : s = numB fr 1 ++ (numB to 1 ++ (numB dl 1 ++ (numB kd 1 ++ (numB att 4 ++ (numB (yesN yes) 1 ++ (numB ph 1 ++ (numB pr 4 ++ (numB pa 4 ++ lowB (crc (encT ⟨fr, to, dl, kd, att, yes, ph, pr, pa⟩)))))))))) := by
    rw [← hE]; unfold encS encT encA encB; simp only [List.append_assoc]
  have f0 : fld s 0 1 = fr := by rw [fld_mid (a := 0) (b := 1) (p := []) (x := numB fr 1) es rfl (by rw [l1]), rd_num (by omega) (by omega)]
  have f1 : fld s 1 2 = to := by rw [fld_mid (p := numB fr 1) es (by simp [l1]) (by rw [l1]), rd_num (by omega) (by omega)]
  have f2 : fld s 2 3 = dl := by rw [fld_mid (p := numB fr 1 ++ numB to 1) (x := numB dl 1) (by rw [es]; simp only [List.append_assoc]; rfl) (by simp [l1]) (by rw [l1]), rd_num (by omega) (by omega)]
  have f3 : fld s 3 4 = kd := by rw [fld_mid (p := numB fr 1 ++ numB to 1 ++ numB dl 1) (x := numB kd 1) (by rw [es]; simp only [List.append_assoc]; rfl) (by simp [l1]) (by rw [l1]), rd_num (by omega) (by omega)]
  have f4 : fld s 4 8 = att := by rw [fld_mid (p := numB fr 1 ++ numB to 1 ++ numB dl 1 ++ numB kd 1) (x := numB att 4) (by rw [es]; simp only [List.append_assoc]; rfl) (by simp [l1]) (by rw [l4]), rd_num (by omega) (by omega)]
  have f5 : fld s 8 9 = yesN yes := by rw [fld_mid (p := numB fr 1 ++ numB to 1 ++ numB dl 1 ++ numB kd 1 ++ numB att 4) (x := numB (yesN yes) 1) (by rw [es]; simp only [List.append_assoc]; rfl) (by simp [l1, l4]) (by rw [l1]), rd_num (by omega) (by omega)]
  have f6 : fld s 9 10 = ph := by rw [fld_mid (p := numB fr 1 ++ numB to 1 ++ numB dl 1 ++ numB kd 1 ++ numB att 4 ++ numB (yesN yes) 1) (x := numB ph 1) (by rw [es]; simp only [List.append_assoc]; rfl) (by simp [l1, l4]) (by rw [l1]), rd_num (by omega) (by omega)]
  have f7 : fld s 10 14 = pr := by rw [fld_mid (p := numB fr 1 ++ numB to 1 ++ numB dl 1 ++ numB kd 1 ++ numB att 4 ++ numB (yesN yes) 1 ++ numB ph 1) (x := numB pr 4) (by rw [es]; simp only [List.append_assoc]; rfl) (by simp [l1, l4]) (by rw [l4]), rd_num (by omega) (by omega)]
  have f8 : fld s 14 18 = pa := by rw [fld_mid (p := numB fr 1 ++ numB to 1 ++ numB dl 1 ++ numB kd 1 ++ numB att 4 ++ numB (yesN yes) 1 ++ numB ph 1 ++ numB pr 4) (x := numB pa 4) (by rw [es]; simp only [List.append_assoc]; rfl) (by simp [l1, l4]) (by rw [l4]), rd_num (by omega) (by omega)]
  have hfr : frOf s = ⟨fr, to, dl, kd, att, yes, ph, pr, pa⟩ := by unfold frOf; rw [f0, f1, f2, f3, f4, f5, f6, f7, f8, hyd]
  unfold decM
  rw [if_neg (by omega), if_neg (by rw [ht, hd]; simp), if_neg (by omega), hfr, if_neg hb]
end Go.HL
end

/-! QFvA -/
section
namespace Go.HL
set_option linter.unusedSectionVars false
variable [Tasks]
open Go Go.Proofs
set_option linter.unusedVariables false
def FV (T : Nat) (E : Nat → Addr) (v : Value) (code at_ : Int) (c : List Blk) : Prop := (∃ e, okE e ∧ v = eV T E e ∧ code = cdN e ∧ (e = none ∨ at_ = -1) ∧ c = []) ∨ ∃ (pb k : Nat), List.elem k all9 = true ∧ v = .iface 144 (pt pb 0) ∧ code = k ∧ c = faC pb at_ T E (some k)
theorem FV.nil {T : Nat} {E : Nat → Addr} {at_ : Int} : FV T E .nilIface 0 at_ [] := .inl ⟨none, trivial, rfl, rfl, .inl rfl, rfl⟩
theorem FV.bare {T : Nat} {E : Nat → Addr} {k : Nat} (h : List.elem k all9 = true) : FV T E (eV T E (some k)) k (-1) [] := .inl ⟨some k, h, rfl, rfl, .inr rfl, rfl⟩
theorem FV.at {T : Nat} {E : Nat → Addr} {k : Nat} (h : List.elem k all9 = true) (pb : Nat) (x : Int) : FV T E (.iface 144 (pt pb 0)) k x (faC pb x T E (some k)) := .inr ⟨pb, k, h, rfl, rfl, rfl⟩
theorem FV.zero {T : Nat} {E : Nat → Addr} {v : Value} {at_ : Int} {c : List Blk} (h : FV T E v 0 at_ c) : v = .nilIface ∧ c = [] := by
  rcases h with ⟨e, he, rfl, hc, -, rfl⟩ | ⟨pb, k, hk, -, hc, -⟩
  · cases e with
    | none => exact ⟨rfl, rfl⟩
    | some k =>
      have : k = 0 := by simp only [cdN] at hc; omega
      subst this
      exact absurd (show List.elem 0 all9 = true from he) (by decide)
  · have : k = 0 := by omega
    subst this
    exact absurd hk (by decide)
end Go.HL
end

/-! QErD3 -/
section
namespace Go.HL
set_option linter.unusedSectionVars false
variable [Tasks]
open Go Go.Proofs
set_option linter.unusedVariables false
set_option linter.unusedSimpArgs false
set_option maxHeartbeats 2000000 attribute [local irreducible] HW HO HQ HD HC QOp Has Upd Puts Gets seqQ blkQ loopQ fnQ actQ nextP unQ MapF
end Go.HL
end

/-! QFlD3 -/
section
namespace Go.HL
set_option linter.unusedSectionVars false
variable [Tasks]
open Go Go.Proofs
set_option linter.unusedVariables false
set_option linter.unusedSimpArgs false
set_option maxHeartbeats 2000000 attribute [local irreducible] HW HO HQ HD HC QOp Has Upd Puts Gets seqQ blkQ loopQ fnQ actQ nextP unQ MapF
theorem faulted3_bare (T : Nat) (E : Nat → Addr) (e : Option Nat) (L : Heap) (hE : Ez T E L) (he : okE e) (x : Int) (hx : e = none ∨ x = -1) : HC Tryd.prog 17 [eV T E e, .agg ⟨[iv (cdN e), iv x]⟩] L (fun v L' => v = .bool true ∧ L' = L) := by
  have hc := fun c => code_all T E e (c :: L) (hE.cons c) he
  refine Ze (by kernel_rfl) Tryd.func17 rfl Tryd.ntmps17 (Nat.le_of_ble_eq_true rfl) ?_; simp only [args0, Nat.reduceAdd]
  rcases hx with rfl | rfl
  · repeat' (first | refine uN ?_ | refine uC (hc _) ?_ | (refine uB ?_; intro b) | (refine uP ?_ ?_ <;> (intro h; ((try simp only [zs, ne_eq, and_true, true_and, eq_self, reduceCtorEq] at h); try exact zx))) | fail)
    all_goals first | contradiction | exact sp1 uZ ⟨rfl, rfl⟩ | (refine sp1 uZ ⟨?_, rfl⟩; simp_all [cdN])
  · repeat' (first | refine uN ?_ | refine uC (hc _) ?_ | (refine uB ?_; intro b) | (refine uP ?_ ?_ <;> (intro h; ((try simp only [zs, ne_eq, and_true, true_and, eq_self, reduceCtorEq] at h); try exact zx))) | fail)
    all_goals first | contradiction | exact sp1 uZ ⟨rfl, rfl⟩ | (refine sp1 uZ ⟨?_, rfl⟩; simp_all [cdN])
theorem faulted3_at (T : Nat) (E : Nat → Addr) (c : Nat) (x : Int) (pb : Nat) (L : Heap) (hE : Ez T E L) (hc : List.elem c all9 = true) (hp : Has L pb (.cells ⟨[iv x, eV T E (some c)]⟩ 146)) : HC Tryd.prog 17 [.iface 144 (pt pb 0), .agg ⟨[iv c, iv x]⟩] L (fun v L' => v = .bool true ∧ L' = L) := by
  have hk := fun q => codeF_calls T E c pb x (0, 0) _ (q :: L) (hE.cons q) hc (has_next hp)
  refine Ze (by kernel_rfl) Tryd.func17 rfl Tryd.ntmps17 (Nat.le_of_ble_eq_true rfl) ?_; simp only [args0, Nat.reduceAdd]
  repeat' (first | refine uN ?_ | refine uC (hk _) ?_ | (refine uB ?_; intro b) | (refine uP ?_ ?_ <;> (intro h; ((try simp only [zs, ne_eq, and_true, true_and, eq_self, reduceCtorEq] at h); try exact zx))) | fail)
  all_goals first | contradiction | exact sp1 uZ ⟨rfl, rfl⟩ | (refine sp1 uZ ⟨?_, rfl⟩; simp_all)
theorem faulted3_any (T : Nat) (E : Nat → Addr) (v : Value) (code at_ : Int) (c : List Blk) (L : Heap) (hE : Ez T E L) (h : FV T E v code at_ c) : HC Tryd.prog 17 [v, .agg ⟨[iv code, iv at_]⟩] (c :: L) (fun v L' => v = .bool true ∧ L' = c :: L) := by
  rcases h with ⟨e, he, rfl, rfl, hx, rfl⟩ | ⟨pb, k, hk, rfl, rfl, rfl⟩
  · exact faulted3_bare T E e _ (hE.cons _) he at_ hx
  · exact faulted3_at T E k at_ pb _ (hE.cons _) hk has_here
end Go.HL
end

/-! QSdI -/
section
namespace Go.HL
set_option linter.unusedSectionVars false
variable [Tasks]
open Go Go.Proofs
set_option linter.unusedVariables false
set_option linter.unusedSimpArgs false
theorem bare_calls (c : Int) (L : Heap) : HC Tryd.prog 88 [iv c] L (fun v L' => v = .agg ⟨[iv c, iv (-1)]⟩ ∧ L' = L) := by
  refine Ze (by kernel_rfl) Tryd.func88 rfl Tryd.ntmps88 (Nat.le_of_ble_eq_true rfl) ?_; simp only [args0, Nat.reduceAdd]
  repeat' (first | refine uN ?_ | (refine uB ?_; intro b) | fail)
  exact sp1 uZ ⟨rfl, rfl⟩ (hv := rcell S (hg := Za rfl (Za rfl gets_nil)))
theorem fine_calls (L : Heap) : HC Tryd.prog 15 [] L (fun v L' => v = .agg ⟨[iv 0, iv (-1)]⟩ ∧ L' = L) := by
  refine Ze (by kernel_rfl) Tryd.func15 rfl Tryd.ntmps15 (Nat.le_of_ble_eq_true rfl) ?_; simp only [args0, Nat.reduceAdd]
  repeat' (first | refine uN ?_ | (refine uB ?_; intro b) | fail)
  exact sp1 uZ ⟨rfl, rfl⟩ (hv := rcell S (hg := Za rfl (Za rfl gets_nil)))
theorem wkf_calls (wk many : Int) (L : Heap) : HC Tryd.prog 84 [iv wk, iv many] L (fun v L' => v = .agg ⟨[iv (cdN (rightM wk many)), iv (-1)]⟩ ∧ L' = L) := by
  have kb := bare_calls
  have kf := fine_calls
  unfold rightM
  refine Ze (by kernel_rfl) Tryd.func84 rfl Tryd.ntmps84 (Nat.le_of_ble_eq_true rfl) ?_; simp only [args0, Nat.reduceAdd]
  by_cases h1 : wk < 1
  · simp only [if_pos h1]
    repeat' (first | refine uN ?_ | refine uC (kb _ _) ?_ | (refine uB ?_; intro b) | (refine uP ?_ ?_ <;> (intro h; ((try simp only [zs, ne_eq, and_true, true_and, eq_self, reduceCtorEq] at h); try exact zx))) | fail)
    all_goals exact sp1 uZ ⟨rfl, rfl⟩ (hv := rcell S (hg := Za rfl (Za rfl gets_nil)))
  by_cases h2 : 16 < wk
  · simp only [if_neg h1, if_pos h2]
    iterate 12 (try (first | refine uN ?_ | (refine uB ?_; intro b)))
    refine uP ?_ ?_ <;> intro h
    · exact absurd (of_decide_eq_true h) h1
    iterate 14 (try (first | refine uN ?_ | (refine uB ?_; intro b)))
    refine uP ?_ ?_ <;> intro h
    rotate_left
    · exact absurd h2 (of_decide_eq_false h)
    iterate 2 (try (refine uN ?_))
    refine gc (kb _ _) ?_
    rintro v L' ⟨rfl, rfl⟩
    iterate 6 (try (refine uN ?_))
    exact sp1 uZ ⟨rfl, rfl⟩ (hv := rcell S (hg := Za rfl (Za rfl gets_nil)))
  by_cases h3 : 100 < many
  · simp only [if_neg h1, if_neg h2, if_pos h3]
    iterate 12 (try (first | refine uN ?_ | (refine uB ?_; intro b)))
    refine uP ?_ ?_ <;> intro h
    · exact absurd (of_decide_eq_true h) h1
    iterate 14 (try (first | refine uN ?_ | (refine uB ?_; intro b)))
    refine uP ?_ ?_ <;> intro h
    · exact absurd (of_decide_eq_true h) h2
    iterate 9 (try (first | refine uN ?_ | (refine uB ?_; intro b)))
    refine uP ?_ ?_ <;> intro h
    rotate_left
    · exact absurd h3 (of_decide_eq_false h)
    iterate 2 (try (refine uN ?_))
    refine gc (kb _ _) ?_
    rintro v L' ⟨rfl, rfl⟩
    iterate 6 (try (refine uN ?_))
    exact sp1 uZ ⟨rfl, rfl⟩ (hv := rcell S (hg := Za rfl (Za rfl gets_nil)))
  simp only [if_neg h1, if_neg h2, if_neg h3]
  iterate 12 (try (first | refine uN ?_ | (refine uB ?_; intro b)))
  refine uP ?_ ?_ <;> intro h
  · exact absurd (of_decide_eq_true h) h1
  iterate 14 (try (first | refine uN ?_ | (refine uB ?_; intro b)))
  refine uP ?_ ?_ <;> intro h
  · exact absurd (of_decide_eq_true h) h2
  iterate 9 (try (first | refine uN ?_ | (refine uB ?_; intro b)))
  refine uP ?_ ?_ <;> intro h
  · exact absurd (of_decide_eq_true h) h3
  iterate 4 (try (refine uN ?_))
  refine gc (kf _) ?_
  rintro v L' ⟨rfl, rfl⟩
  iterate 6 (try (refine uN ?_))
  exact sp1 uZ ⟨rfl, rfl⟩ (hv := rcell S (hg := Za rfl (Za rfl gets_nil)))
def fr1 : Fr := ⟨0, 0, 0, 1, 0, false, ⟨0, 0, 0⟩⟩
theorem fr1_ok : ¬badF fr1 := by decide
section
variable [Go.ConcR.Payload]
attribute [local irreducible] encS decM crc lowB
theorem abreast_calls {t : Tk} {C E0 g : Nat} {o0 : Array Value} {f0 : Nat × Nat} {v0 : Value} {Lr L0 : Heap} (T : Nat) (E : Nat → Addr) (hT : Tasks.T = 212) (h : AtC C (.cells o0 E0 f0) Lr) (hl : o0[0]? = some v0) (h12 : t.st = 12)
    (hro : ∀ p ∈ Lr.flatten, rob p.2 = true) (hls : LS Lr.flatten L0.flatten) (hE : Ez T E Lr)
    (hR : ∀ i, i < 1 → Tasks.R g i (doneV i (frD [encS fr1] i) (eV T E (ecD [encS fr1] i))) []) (hR2 : ∀ i v bl, Tasks.R g i v bl → v = doneV i (frD [encS fr1] i) (eV T E (ecD [encS fr1] i)) ∧ bl = []) :
    HC Tryd.prog 82 [] ([t.at_] :: L0) (fun v L' => ∃ t' : Tk, t'.st = 12 ∧ v = .bool true ∧ L' = [t'.at_] :: L0) := by
  have kt := fun L => frameText_calls fr1 L fr1_ok
  have hd : decM (encS fr1) = (fr1, none) := dec_enc fr1_ok
  have hl := encS_len fr1
  generalize encS fr1 = s at *
  have kd := fun b => (decs_calls (t := t) (C := C) (E0 := E0) (g := g) (o0 := o0) (f0 := f0) (v0 := v0) (v := .slice (some ⟨b, 0, none⟩) 1 1) (Lr := [(b, ronly (.cells ⟨[bs s]⟩ 9 (0, 0)))] :: Lr) (L0 := [(b, ronly (.cells ⟨[bs s]⟩ 9 (0, 0)))] :: L0) T E [s] 2 hT (h.mono fun p hp => by simp [hp]) (by assumption) h12 (by intro x hx; simp only [List.mem_singleton] at hx; subst hx; omega)
      (fun p hp => by
        simp only [List.flatten_cons, List.cons_append, List.nil_append, List.mem_cons] at hp
        rcases hp with rfl | hp
        · exact rob_mark _ _ _
        · exact hro p hp) (LS.k hls) ⟨some ⟨b, 0, none⟩, 1, rfl, .inr ⟨b, 0, [bs s], _, rfl, has_here, by simp, fun i x hx => by
          cases i with
          | zero => simp only [List.getElem?_cons_zero, Option.some.injEq] at hx; subst hx; rfl
          | succ i => simp at hx⟩⟩ (hE.cons _) (by simp) (by simpa using hR) (by simpa using hR2))
  have h1 : rightM 2 ([s].length : Nat) = none := rfl
  have h2 : firstE [s] 0 = none := by simp [firstE, hd]
  unfold DecsQ at kd
  rw [h1, h2] at kd
  simp only at kd
  refine Ze (by kernel_rfl) Tryd.func82 rfl Tryd.ntmps82 (Nat.le_of_ble_eq_true rfl) ?_; simp only [args0, Nat.reduceAdd]
  repeat' (first | refine uN ?_ | refine uC (kt _) ?_ | (refine uB ?_; intro b) | (refine uP ?_ ?_ <;> (intro h; ((try simp only [zs, ne_eq, and_true, true_and, eq_self, reduceCtorEq] at h); try exact zx))) | fail)
  refine gc (((kd b).wk (.ls (show LS _ ([(b, ronly (.cells ⟨[bs s]⟩ 9 (0, 0)))] :: [t.at_] :: L0 : Heap).flatten from uL))).wk (wk_ro upd_here rob0)) ?_
  rintro v L' ⟨t', ht', bo, rfl, rfl⟩
  simp only [List.map_cons, List.map_nil, hd, List.length_cons, List.length_nil, List.flatten_cons, List.flatten_nil, List.append_nil]
  repeat' (first | refine uN ?_ | (refine uB ?_; intro b) | (refine uP ?_ ?_ <;> (intro h; ((try simp only [zs, ne_eq, and_true, true_and, eq_self, reduceCtorEq] at h); try exact zx))) | fail)
  exact sp1 (L' := [t'.at_] :: L0) uZ ⟨t', ht', rfl, rfl⟩
end
end Go.HL
end

/-! QSdJ -/
section
namespace Go.HL
set_option linter.unusedSectionVars false
variable [Tasks]
open Go Go.Proofs
set_option linter.unusedVariables false
set_option linter.unusedSimpArgs false
def bsc (s : List UInt8) : List Value := [bs s]
theorem cdF_eq (e : Option Nat) : cdF e = cdN e := by cases e <;> rfl
theorem decM_ok (s : List UInt8) : okE (decM s).2 := by
  unfold decM
  split
  · exact rfl
  split
  · exact rfl
  split
  · exact rfl
  split
  · exact rfl
  · trivial
theorem el_pos {c : Nat} (h : List.elem c all9 = true) : 0 < c := by
  cases c with
  | zero => exact absurd h (by decide)
  | succ n => omega
theorem firstE_ok {ss : List (List UInt8)} : ∀ {k i c : Nat}, firstE ss k = some (i, c) → List.elem c all9 = true := by
  induction ss with
  | nil => intro k i c h; cases h
  | cons s r ih =>
    intro k i c h
    have h0 := decM_ok s
    unfold firstE at h
    cases hd : (decM s).2 with
    | some e =>
      rw [hd] at h h0
      simp only [Option.some.injEq, Prod.mk.injEq] at h
      obtain ⟨-, rfl⟩ := h
      exact h0
    | none =>
      rw [hd] at h
      exact ih h
theorem rightM_ok {wk m : Int} {c : Nat} (h : rightM wk m = some c) : List.elem c all9 = true := by
  unfold rightM at h
  by_cases a1 : wk < 1
  · rw [if_pos a1] at h; cases h; decide
  by_cases a2 : 16 < wk
  · rw [if_neg a1, if_pos a2] at h; cases h; decide
  by_cases a3 : 100 < m
  · rw [if_neg a1, if_neg a2, if_pos a3] at h; cases h; decide
  rw [if_neg a1, if_neg a2, if_neg a3] at h; cases h
/-- the fault that is told: its code, its place -/
def fM (wk : Int) (ss : List (List UInt8)) : Int × Int := match rightM wk ss.length with
  | some c => (c, -1)
  | none => match firstE ss 0 with
    | some (i, c) => (c, i)
    | none => (0, -1)
def DK (T : Nat) (E : Nat → Addr) (ss : List (List UInt8)) (wk : Int) (v8 e : Value) (c1 : List Blk) : Prop :=
  (0 < (fM wk ss).1 ∧ v8 = nilS ∧ FV T E e (fM wk ss).1 (fM wk ss).2 c1) ∨
  (rightM wk ss.length = none ∧ firstE ss 0 = none ∧ e = .nilIface ∧ ∃ bo, v8 = sl bo 0 ss.length ss.length ∧ c1 = [(bo, .cells ⟨((ss.map fun s => (decM s).1).map fc).flatten⟩ 45)])
theorem DecsQ.dk {T : Nat} {E : Nat → Addr} {ss : List (List UInt8)} {wk : Int} {L0 L' : Heap} {v : Value} (h : DecsQ T E ss wk L0 v L') : ∃ (t' : Tk) (v8 e : Value) (c1 : List Blk), t'.st = 12 ∧ v = .tuple ⟨[v8, e]⟩ ∧ DK T E ss wk v8 e c1 ∧ LS ([t'.at_] :: c1 :: L0 : Heap).flatten L'.flatten := by
  obtain ⟨t', ht, h⟩ := h
  unfold DK fM
  cases hr : rightM wk ss.length with
  | some c =>
    rw [hr] at h
    obtain ⟨rfl, rfl⟩ := h
    have := rightM_ok hr
    exact ⟨t', _, _, [], ht, rfl, .inl ⟨by have := el_pos this; simp only; omega, rfl, FV.bare this⟩, LS.refl _⟩
  | none =>
    rw [hr] at h
    cases hf : firstE ss 0 with
    | some q =>
      obtain ⟨i, c⟩ := q
      rw [hf] at h
      obtain ⟨pb, rfl, rfl⟩ := h
      have := firstE_ok hf
      exact ⟨t', _, _, faC pb i T E (some c), ht, rfl, .inl ⟨by have := el_pos this; simp only; omega, rfl, FV.at this pb i⟩, LS.refl _⟩
    | none =>
      rw [hf] at h
      obtain ⟨bo, rfl, rfl⟩ := h
      exact ⟨t', _, _, _, ht, rfl, .inr ⟨rfl, rfl, rfl, bo, rfl, rfl⟩, LS.refl _⟩
section
variable [Go.ConcR.Payload]
theorem decsV_calls {t : Tk} {C E0 g : Nat} {o0 : Array Value} {f0 : Nat × Nat} {v0 v : Value} {c : List Blk} {Lr L0 : Heap} (T : Nat) (E : Nat → Addr) (ss : List (List UInt8)) (wk : Int) (hT : Tasks.T = 212) (h : AtC C (.cells o0 E0 f0) Lr) (hl : o0[0]? = some v0) (h12 : t.st = 12) (hlen : ∀ s ∈ ss, s.length ≤ 1000000)
    (hro : ∀ p ∈ Lr.flatten, rob p.2 = true) (hls : LS Lr.flatten L0.flatten) (hv : Vec 9 1 bsc v ss c) (hE : Ez T E Lr) (hss : ss.length ≤ 100000000)
    (hR : ∀ i, i < ss.length → Tasks.R g i (doneV i (frD ss i) (eV T E (ecD ss i))) []) (hR2 : ∀ i v bl, Tasks.R g i v bl → v = doneV i (frD ss i) (eV T E (ecD ss i)) ∧ bl = []) :
    HC Tryd.prog 83 [v, iv wk] (c :: [t.at_] :: L0) (fun v' L' => ∃ (t' : Tk) (v8 e : Value) (c1 : List Blk), t'.st = 12 ∧ v' = .tuple ⟨[v8, e]⟩ ∧ DK T E ss wk v8 e c1 ∧ L' = [t'.at_] :: c1 :: L0) := by
  have main : ∀ (c' : List Blk) (Lr' : Heap), HC Tryd.prog 83 [v, iv wk] ([t.at_] :: (c' :: L0)) (DecsQ T E ss wk (c' :: L0)) → HC Tryd.prog 83 [v, iv wk] ([t.at_] :: (c' :: L0)) (fun v' L' => ∃ (t' : Tk) (v8 e : Value) (c1 : List Blk), t'.st = 12 ∧ v' = .tuple ⟨[v8, e]⟩ ∧ DK T E ss wk v8 e c1 ∧ L' = [t'.at_] :: c1 :: L0) := fun c' Lr' hc =>
    hc.wkQ fun v' L' hq => by
      obtain ⟨t', v8, e, c1, h1, h2, h3, h4⟩ := hq.dk
      refine ⟨[t'.at_] :: c1 :: L0, .ls (LS.trans (show LS ([t'.at_] :: c1 :: L0 : Heap).flatten ([t'.at_] :: c1 :: c' :: L0 : Heap).flatten from uL) h4), t', v8, e, c1, h1, h2, h3, rfl⟩
  rcases hv with ⟨rfl, h0, hcs, rfl⟩ | ⟨b, cap, sp, rfl, rfl, hcs, hle, hall⟩
  · have hn : ss = [] := List.eq_nil_of_length_eq_zero h0
    subst hn
    refine (main [] [] (decs_calls T E [] wk hT h hl h12 hlen hro (by simpa using hls) ⟨none, 0, rfl, .inl rfl⟩ hE hss hR hR2)).wk (.ls ?_)
    exact LS.refl _
  · refine ((main [(b, ronly (.cells ⟨(ss.map bsc).flatten ++ sp⟩ 9 (0, 0)))] [] (decs_calls (Lr := [(b, ronly (.cells ⟨(ss.map bsc).flatten ++ sp⟩ 9 (0, 0)))] :: Lr) T E ss wk hT (h.mono fun p hp => by simp [hp]) hl h12 hlen (fun p hp => by
        simp only [List.flatten_cons, List.cons_append, List.nil_append, List.mem_cons] at hp
        rcases hp with rfl | hp
        · exact rob_mark _ _ _
        · exact hro p hp) (LS.k hls) ⟨_, cap, rfl, .inr ⟨b, 0, _, _, rfl, has_here, by rw [List.length_append, hcs]; omega, fun i s hs => by
          have hg := gets_row (enc := bsc) (sz := 1) (fun _ => rfl) ss sp [] i s hs
          have := hg 0 (bs s) rfl
          simpa using this⟩⟩ (hE.cons _) hss hR hR2)).wk (.ls (show LS _ ([(b, ronly (.cells ⟨(ss.map bsc).flatten ++ sp⟩ 9 (0, 0)))] :: [t.at_] :: L0 : Heap).flatten from uL))).wk (wk_ro upd_here rob0)
end
end Go.HL
end
