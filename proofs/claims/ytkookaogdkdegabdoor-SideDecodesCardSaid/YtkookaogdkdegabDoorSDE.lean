/- Texts laid into one, without what the claim does not use. Conditions: none. -/
import Derived.Test.YtkookaogdkdegabDoorSDD
import Derived.ProofKit
import Derived.OpenShut
import Derived.Deep.DeepHandedRow
import Derived.Stop.LaidErr
import Derived.LaidLaws
import Derived.Lay
import Derived.MakeChecks
import Derived.LaidHandle
import Derived.Conc.CrowdTrace
import Derived.Conc.CrowdSel
/-! QSdK -/
section
namespace Go.HL
set_option linter.unusedSectionVars false
variable [Tasks]
open Go Go.Proofs
set_option linter.unusedVariables false
set_option linter.unusedSimpArgs false
theorem rd_str {L : Heap} {a : Option Addr} {ss : List (List UInt8)} (h : Rd bsc 1 L a ss) {i : Nat} (hi : i < ss.length) : ∃ b1 i1 l1 E1 f1, a = some ⟨b1, i1, none⟩ ∧ Has L b1 (.cells ⟨l1⟩ E1 f1) ∧ l1[i1 + (i : Int).toNat]? = some (bs (ss.getD i [])) := by
  obtain ⟨b, i1, l, E, fr, h2, h3, h4⟩ := h.at1 (j := (i : Int)) (by omega) (by omega)
  refine ⟨b, i1, l, E, fr, h2, h3, ?_⟩
  have := h4 0 _ rfl
  simpa [hi] using this
theorem take_str {ss : List (List UInt8)} {i : Nat} (hi : i < ss.length) : ss.take i ++ [ss.getD i []] = ss.take (i + 1) := by
  rw [List.take_succ_eq_append_getElem hi]; simp [hi]
theorem fr_gets {ss : List (List UInt8)} {i : Nat} (hi : i < ss.length) : Gets ((ss.map fun s => (decM s).1).map fc).flatten (0 + (i : Int).toNat * 9) (fc (decM (ss.getD i [])).1) := by
  have := gets_row (enc := fc) (sz := 9) (fun _ => rfl) (ss.map fun s => (decM s).1) [] [] i (decM (ss.getD i [])).1 (by simp [hi])
  simpa using this
/-- the body of a function, walked -/
def HB (P : Program) (f : Nat) (fn : Func) (args : List Value) (L : Heap) (Q : Value → Heap → Prop) : Prop := ∃ c n, P.funcs[f]? = some fn ∧ fn.body = some c ∧ fn.ntmps = n ∧ args.length ≤ n ∧ HW P n c (fnQ P fn Q) (args0 0 args) L
theorem hb_enter {P : Program} {f : Nat} {fn : Func} {c : Code} {args : List Value} {L : Heap} {Q : Value → Heap → Prop} (hf : P.funcs[f]? = some fn) (hb : fn.body = some c) {n : Nat} (hn : fn.ntmps = n) (hlen : args.length ≤ n)
    (h : HW P n c (fnQ P fn Q) (args0 0 args) L) : HB P f fn args L Q := ⟨c, n, hf, hb, hn, hlen, h⟩
set_option maxHeartbeats 2000000 attribute [local irreducible] HW HO HQ HD HC QOp Has Upd Puts Gets seqQ blkQ loopQ fnQ actQ nextP unQ MapF
attribute [local irreducible] encS decM crc lowB
section
variable [Go.ConcR.Payload]
theorem sideDec_calls {t : Tk} {C E0 : Nat} {o0 : Array Value} {f0 : Nat × Nat} {v0 : Value} {Lr L0 : Heap} (T : Nat) (E : Nat → Addr) (ss : List (List UInt8)) (wk : Int) (a : Option Addr) (cap : Nat) (hT : Tasks.T = 212) (hA : AtC C (.cells o0 E0 f0) Lr) (hl : o0[0]? = some v0) (h12 : t.st = 12)
    (hro : ∀ p ∈ Lr.flatten, rob p.2 = true) (hls : LS Lr.flatten L0.flatten) (hE : Ez T E Lr) (hRd : Rd bsc 1 L0 a ss)
    (hR0 : ∀ i, i < 1 → Tasks.R 0 i (doneV i (frD [encS fr1] i) (eV T E (ecD [encS fr1] i))) []) (hR0' : ∀ i v bl, Tasks.R 0 i v bl → v = doneV i (frD [encS fr1] i) (eV T E (ecD [encS fr1] i)) ∧ bl = [])
    (hR : ∀ i, i < ss.length → Tasks.R 1 i (doneV i (frD ss i) (eV T E (ecD ss i))) []) (hR2 : ∀ i v bl, Tasks.R 1 i v bl → v = doneV i (frD ss i) (eV T E (ecD ss i)) ∧ bl = []) :
    HB Tryd.prog 13 Tryd.f13 [.slice a ss.length cap, iv wk] ([t.at_] :: L0) (fun v L' => ∃ t' : Tk, t'.st = 12 ∧ v = .bool true ∧ L' = [t'.at_] :: L0) := by
  have hE0 : Ez T E L0 := hE.mono (Has.ls hls)
  have k0 := abreast_calls (t := t) (g := 0) T E hT hA hl h12 hro hls hE hR0 hR0'
  refine hb_enter Tryd.func13 rfl Tryd.ntmps13 (Nat.le_of_ble_eq_true rfl) ?_
  -- refine Ze (by kernel_rfl) Tryd.func13 rfl Tryd.ntmps13 (Nat.le_of_ble_eq_true rfl) ?_; simp only [args0, Nat.reduceAdd]
  simp only [args0, Nat.reduceAdd]
  repeat' (first | refine uN ?_ | (refine uB ?_; intro b) | (refine uP ?_ ?_ <;> (intro h; ((try simp only [zs, ne_eq, and_true, true_and, eq_self, reduceCtorEq] at h); try exact zx))) | fail)
  refine gc k0 ?_
  rintro v L' ⟨t1, ht1, rfl, rfl⟩
  clear k0 h12
  by_cases hn : 110 < ss.length
  · repeat' (first | refine uN ?_ | (refine uB ?_; intro b) | (refine uP ?_ ?_ <;> (intro h; ((try simp only [zs, ne_eq, and_true, true_and, eq_self, reduceCtorEq] at h); try exact zx))) | fail)
    all_goals first | omega | exact sp1 (L' := [t1.at_] :: L0) uZ ⟨t1, ht1, rfl, rfl⟩
  have hn' : ¬ (110 : Int) < ss.length := by omega
  repeat' (first | refine uN ?_ | (refine uB ?_; intro b) | (refine uP ?_ ?_ <;> (intro h; ((try simp only [zs, ne_eq, and_true, true_and, eq_self, reduceCtorEq] at h); try exact zx))) | fail)
  refine hw_fl (L' := [] :: [t1.at_] :: L0) ?_ rfl
  refine hw_loop (σ := Nat × Value × List Blk) (fun q => [(0, .slice a ss.length cap), (1, iv wk), (6, q.2.1), (7, iv q.1)]) (fun q => q.2.2 :: [t1.at_] :: L0)
    (fun q => q.1 ≤ ss.length ∧ Vec 9 1 bsc q.2.1 (ss.take q.1) q.2.2 ∧ ∀ s ∈ ss.take q.1, s.length ≤ 100) (fun q => ss.length - q.1) (0, nilS, []) uS (List.Sublist.refl _) ⟨by simp, vec_nil, by simp⟩ ?_
  rintro ⟨i, v6, c6⟩ ⟨hi, hv, hq⟩
  simp only at hi hv hq ⊢
  by_cases hlt : i < ss.length
  · obtain ⟨b1, i1, l1, E1, f1, rfl, hb1, hg1⟩ := rd_str hRd hlt
    have hts := take_str hlt
    have hsl : (ss.take i).length = i := by simp; omega
    generalize hsd : ss.getD i [] = sd at hg1 hts
    by_cases hbig : 100 < sd.length
    · repeat' (first | refine uN ?_ | (refine uB ?_; intro b) | (refine uP ?_ ?_ <;> (intro h; ((try simp only [zs, ne_eq, and_true, true_and, eq_self, reduceCtorEq] at h); try exact zx))) | fail)
      all_goals first | omega | exact sp1 (L' := [t1.at_] :: L0) uZ ⟨t1, ht1, rfl, rfl⟩
    have hbig' : ¬ (100 : Int) < sd.length := by omega
    repeat' (first | refine uN ?_ | (refine uB ?_; intro b) | (refine uP ?_ ?_ <;> (intro h; ((try simp only [zs, ne_eq, and_true, true_and, eq_self, reduceCtorEq] at h); try exact zx))) | fail)
    refine fo 1 ?_
    refine wp1 S sd hv (fun _ => rfl) (fun _ => rfl) ?_
    intro v' c' hv'
    rw [hts] at hv'
    repeat' (first | refine uN ?_ | (refine uB ?_; intro b) | (refine uP ?_ ?_ <;> (intro h; ((try simp only [zs, ne_eq, and_true, true_and, eq_self, reduceCtorEq] at h); try exact zx))) | fail)
    exact loopQ_sp (i + 1, v', c') uS uL ⟨by simp only; omega, hv', fun s hs => by
      simp only at hs
      rw [← hts] at hs
      rcases List.mem_append.1 hs with hs | hs
      · exact hq s hs
      · simp only [List.mem_singleton] at hs; subst hs; omega⟩ (by simp only; omega)
  obtain rfl : i = ss.length := by omega
  rw [List.take_length] at hv hq
  have kd := decsV_calls (t := t1) (g := 1) T E ss wk hT hA hl ht1 (fun s hs => by have := hq s hs; omega) hro hls hv hE (by omega) hR hR2
  repeat' (first | refine uN ?_ | (refine uB ?_; intro b) | (refine uP ?_ ?_ <;> (intro h; ((try simp only [zs, ne_eq, and_true, true_and, eq_self, reduceCtorEq] at h); try exact zx))) | fail)
  refine gc kd ?_
  rintro v L' ⟨t2, v8, e, c1, ht2, rfl, hk, rfl⟩
  have kw := fun L => wkf_calls wk ss.length L
  repeat' (first | refine uN ?_ | (refine uB ?_; intro b) | (refine uP ?_ ?_ <;> (intro h; ((try simp only [zs, ne_eq, and_true, true_and, eq_self, reduceCtorEq] at h); try exact zx))) | fail)
  refine gc (kw _) ?_
  rintro v L' ⟨rfl, rfl⟩
  repeat' (first | refine uN ?_ | (refine uB ?_; intro b) | (refine uP ?_ ?_ <;> (intro h; ((try simp only [zs, ne_eq, and_true, true_and, eq_self, reduceCtorEq] at h); try exact zx))) | fail)
  refine hw_loop (σ := Nat × Int × Int) (fun q => [(0, .slice a ss.length cap), (8, v8), (9, e), (10, pt b 0), (11, iv q.1)]) (fun q => [(b, .cells ⟨[iv q.2.1, iv q.2.2]⟩ 30)] :: [t2.at_] :: c1 :: L0)
    (fun q => q.1 ≤ ss.length ∧ ((q.2.1 = 0 ∧ q.2.2 = -1 ∧ rightM wk ss.length = none ∧ ∀ j, j < q.1 → ecD ss j = none) ∨ (0 < q.2.1 ∧ fM wk ss = (q.2.1, q.2.2)))) (fun q => ss.length - q.1) (0, cdN (rightM wk ss.length), -1) uS (List.Sublist.refl _) ⟨by simp, ?_⟩ ?_
  · cases hr : rightM wk ss.length with
    | none => exact .inl ⟨rfl, rfl, rfl, fun j hj => by simp at hj⟩
    | some c =>
      have := el_pos (rightM_ok hr)
      exact .inr ⟨by simp only [cdN]; omega, by unfold fM; rw [hr]; rfl⟩
  rintro ⟨i, code, at_⟩ ⟨hi, hJ⟩
  simp only at hi hJ ⊢
  by_cases hc : code = 0
  · obtain ⟨rfl, rfl, hr, hj⟩ : code = 0 ∧ at_ = -1 ∧ rightM wk ss.length = none ∧ ∀ j, j < i → ecD ss j = none := by
      rcases hJ with h | ⟨h, -⟩
      · exact h
      · omega
    by_cases hlt : i < ss.length
    · have hl9 : (ss.getD i []).length ≤ 1000000 := by
        have := hq (ss.getD i []) (by rw [List.getD_eq_getElem?_getD, List.getElem?_eq_getElem hlt]; simp)
        omega
      have kf := fun L => frameOf_calls (ss.getD i []) L hl9
      rw [cdF_eq] at kf
      obtain ⟨b1, i1, l1, E1, f1, rfl, hb1, hg1⟩ := rd_str hRd hlt
      cases he : ecD ss i with
      | none =>
        rw [show (decM (ss.getD i [])).2 = none from he] at kf
        simp only [cdN] at kf
        repeat' (first | refine uN ?_ | (refine uB ?_; intro b) | (refine uP ?_ ?_ <;> (intro h; ((try simp only [zs, ne_eq, and_true, true_and, eq_self, reduceCtorEq] at h); try exact zx))) | fail)
        refine gc (kf _) ?_
        rintro v L' ⟨rfl, rfl⟩
        repeat' (first | refine uN ?_ | (refine uB ?_; intro b) | (refine uP ?_ ?_ <;> (intro h; ((try simp only [zs, ne_eq, and_true, true_and, eq_self, reduceCtorEq] at h); try exact zx))) | fail)
        exact loopQ_sp (i + 1, 0, -1) uS uL ⟨by simp only; omega, .inl ⟨rfl, rfl, hr, fun j h => by
          simp only at h
          rcases Nat.lt_succ_iff_lt_or_eq.1 h with h | rfl
          · exact hj j h
          · exact he⟩⟩ (by simp only; omega)
      | some c =>
        rw [show (decM (ss.getD i [])).2 = some c from he] at kf
        have hok := decM_ok (ss.getD i [])
        rw [show (decM (ss.getD i [])).2 = some c from he] at hok
        have hc0 := el_pos (show List.elem c all9 = true from hok)
        simp only [cdN] at kf
        repeat' (first | refine uN ?_ | (refine uB ?_; intro b) | (refine uP ?_ ?_ <;> (intro h; ((try simp only [zs, ne_eq, and_true, true_and, eq_self, reduceCtorEq] at h); try exact zx))) | fail)
        refine gc (kf _) ?_
        rintro v L' ⟨rfl, rfl⟩
        repeat' (first | refine uN ?_ | (refine uB ?_; intro b) | (refine uP ?_ ?_ <;> (intro h; ((try simp only [zs, ne_eq, and_true, true_and, eq_self, reduceCtorEq] at h); try exact zx))) | fail)
        all_goals first | omega | skip
        exact loopQ_sp (i + 1, (c : Int), (i : Int)) uS uL ⟨by simp only; omega, .inr ⟨by simp only; omega, by
          unfold fM
          rw [hr]
          simp only
          rw [firstE_some hlt hj he, Nat.zero_add]⟩⟩ (by simp only; omega)
    obtain rfl : i = ss.length := by omega
    have hf := firstE_none (k := 0) fun j h => hj j h
    have hk2 : e = .nilIface ∧ ∃ bo, v8 = sl bo 0 ss.length ss.length ∧ c1 = [(bo, .cells ⟨((ss.map fun s => (decM s).1).map fc).flatten⟩ 45)] := by
      rcases hk with ⟨h0, -⟩ | ⟨-, -, h⟩
      · unfold fM at h0
        rw [hr] at h0
        simp only [hf] at h0
        omega
      · exact h
    obtain ⟨rfl, bo, rfl, rfl⟩ := hk2
    repeat' (first | refine uN ?_ | (refine uB ?_; intro b) | (refine uP ?_ ?_ <;> (intro h; ((try simp only [zs, ne_eq, and_true, true_and, eq_self, reduceCtorEq] at h); try exact zx))) | fail)
    refine hw_loop (σ := Nat) (fun i => [(0, .slice a ss.length cap), (8, sl bo 0 ss.length ss.length), (14, iv i)]) (fun _ => [t2.at_] :: [(bo, .cells ⟨((ss.map fun s => (decM s).1).map fc).flatten⟩ 45)] :: L0)
      (fun i => i ≤ ss.length) (fun i => ss.length - i) 0 uS (by first | exact List.Sublist.refl _ | exact List.Sublist.cons _ (List.Sublist.refl _)) (Nat.zero_le _) ?_
    intro i hi
    by_cases hlt : i < ss.length
    · have hl9 : (ss.getD i []).length ≤ 1000000 := by
        have := hq (ss.getD i []) (by rw [List.getD_eq_getElem?_getD, List.getElem?_eq_getElem hlt]; simp)
        omega
      have hG0 := hE0.er [1, 2, 7]
      have he := hj i hlt
      have kf := fun L => frameOf_calls (ss.getD i []) L hl9
      have kd := fun L hG => decode_calls T E (ss.getD i []) L hG hl9
      rw [show (decM (ss.getD i [])).2 = none from he] at kf kd
      have hgf := fr_gets hlt
      obtain ⟨b1, i1, l1, E1, f1, rfl, hb1, hg1⟩ := rd_str hRd hlt
      generalize (decM (ss.getD i [])).1 = fr at kf kd hgf
      simp only [cdF, eV] at kf kd
      repeat' (first | refine uN ?_ | (refine uB ?_; intro b) | (refine uP ?_ ?_ <;> (intro h; ((try simp only [zs, ne_eq, and_true, true_and, eq_self, reduceCtorEq] at h); try exact zx))) | fail)
      refine gc (kf _) ?_
      rintro v L' ⟨rfl, rfl⟩
      repeat' (first | refine uN ?_ | (refine uB ?_; intro b) | (refine uP ?_ ?_ <;> (intro h; ((try simp only [zs, ne_eq, and_true, true_and, eq_self, reduceCtorEq] at h); try exact zx))) | fail)
      refine gc (kd _ (by (repeat (first | exact hG0 | apply Errs.cons)))) ?_
      rintro v L' ⟨rfl, rfl⟩
      repeat' (first | refine uN ?_ | refine g_d S ?_ | (refine uB ?_; intro b) | (refine uP ?_ ?_ <;> (intro h; ((try simp only [zs, ne_eq, and_true, true_and, eq_self, reduceCtorEq] at h); try exact zx))) | refine da 101 ?_ | fail)
      all_goals first | exact absurd (beq_self_eq_true fr.yes) (by rw [h]; decide) | exact loopQ_sp (i + 1) uS uL (by omega) (by omega)
    obtain rfl : i = ss.length := by omega
    repeat' (first | refine uN ?_ | (refine uB ?_; intro b) | (refine uP ?_ ?_ <;> (intro h; ((try simp only [zs, ne_eq, and_true, true_and, eq_self, reduceCtorEq] at h); try exact zx))) | fail)
    exact sp1 (L' := [t2.at_] :: L0) uL ⟨t2, ht2, rfl, rfl⟩
  obtain ⟨hc0, hfm⟩ : 0 < code ∧ fM wk ss = (code, at_) := by
    rcases hJ with h | h
    · exact absurd h.1 hc
    · exact h
  have hk1 : v8 = nilS ∧ FV T E e code at_ c1 := by
    rcases hk with ⟨-, h1, h2⟩ | ⟨h1, h2, -⟩
    · rw [hfm] at h2; exact ⟨h1, h2⟩
    · unfold fM at hfm
      rw [h1] at hfm
      simp only [h2, Prod.mk.injEq] at hfm
      omega
  obtain ⟨rfl, hfv⟩ := hk1
  have ka := fun L hE => faulted3_any T E e code at_ c1 L hE hfv
  by_cases hlt : i < ss.length
  · repeat' (first | refine uN ?_ | (refine uB ?_; intro b) | (refine uP ?_ ?_ <;> (intro h; ((try simp only [zs, ne_eq, and_true, true_and, eq_self, reduceCtorEq] at h); try exact zx))) | fail)
    refine fo 2 ?_
    refine gc (ka _ (by (repeat (first | exact hE0 | apply Ez.cons)))) ?_
    rintro v L' ⟨rfl, rfl⟩
    repeat' (first | refine uN ?_ | (refine uB ?_; intro b) | (refine uP ?_ ?_ <;> (intro h; ((try simp only [zs, ne_eq, and_true, true_and, eq_self, reduceCtorEq] at h); try exact zx))) | fail)
    all_goals first | omega | skip
    exact sp1 (L' := [t2.at_] :: L0) uL ⟨t2, ht2, rfl, rfl⟩
  obtain rfl : i = ss.length := by omega
  repeat' (first | refine uN ?_ | (refine uB ?_; intro b) | (refine uP ?_ ?_ <;> (intro h; ((try simp only [zs, ne_eq, and_true, true_and, eq_self, reduceCtorEq] at h); try exact zx))) | fail)
  refine fo 2 ?_
  refine gc (ka _ (by (repeat (first | exact hE0 | apply Ez.cons)))) ?_
  rintro v L' ⟨rfl, rfl⟩
  repeat' (first | refine uN ?_ | (refine uB ?_; intro b) | (refine uP ?_ ?_ <;> (intro h; ((try simp only [zs, ne_eq, and_true, true_and, eq_self, reduceCtorEq] at h); try exact zx))) | fail)
  all_goals first | omega | skip
  exact sp1 (L' := [t2.at_] :: L0) uL ⟨t2, ht2, rfl, rfl⟩
end
end Go.HL
end

/-! QLayA -/
section
namespace Go.HL
set_option linter.unusedSectionVars false
variable [Tasks]
open Go Go.Proofs Go.ChangeShapes Go.WideShapes Go.ChangeAt Go.RowKit
set_option linter.unusedVariables false
theorem gl_of_var {P : Program} {W : World} {n : String} {g : Nat} {v : Value} (hg : P.globalNamed n = some g) (h : W.var? P n = some #[v]) : Gl [blks W] g v := by
  unfold World.var? at h
  simp only [hg, Option.bind_some] at h
  split at h
  · rename_i c E fr hh
    cases h
    exact ⟨[v], E, _, has_blks hh, rfl⟩
  · cases h
theorem star_es : "*" ++ "errors.errorString" = "*errors.errorString" := by decide
theorem row_es (u : TypeId) (h : Tryd.prog.typeName? 3 u = some "*errors.errorString") : u = 267 :=
  typeName_ptr_named (nm := "errors.errorString") (by rw [star_es]; kernel_rfl) (by kernel_rfl) (by decide) u (by rw [star_es]; exact h)
def nameOf : Nat → String
  | 1 => "threefold/api.ErrText"
  | 2 => "threefold/api.ErrBound"
  | 3 => "threefold/api.ErrShape"
  | 4 => "threefold/api.ErrNone"
  | 5 => "threefold/api.ErrFull"
  | 6 => "threefold/api.ErrOff"
  | 7 => "threefold/api.ErrSum"
  | 8 => "threefold/api.ErrHeld"
  | _ => "threefold/api.ErrSplit"
def word3 : List UInt8 := [116, 104, 114, 101, 101, 102, 111, 108, 100, 58, 32]
def textOf : Nat → List UInt8
  | 1 => word3 ++ [116, 101, 120, 116]
  | 2 => word3 ++ [98, 111, 117, 110, 100]
  | 3 => word3 ++ [115, 104, 97, 112, 101]
  | 4 => word3 ++ [110, 111, 110, 101]
  | 5 => word3 ++ [102, 117, 108, 108]
  | 6 => word3 ++ [111, 102, 102]
  | 7 => word3 ++ [115, 117, 109]
  | 8 => word3 ++ [104, 101, 108, 100]
  | _ => word3 ++ [115, 112, 108, 105, 116]
def sentL (cs : List Nat) : List (String × DataW Unit) := cs.map fun c => (nameOf c, .iface "*errors.errorString" (.ptr (.agg [.lit (.string (textOf c))])))
theorem laid_sent0 {P : Program} {n nm : String} {text : List UInt8} {r : List (String × DataW Unit)} {W : World} {g : Nat} {ti tp te ts : TypeId} {ms : Array (String × TypeId)} {f : Field}
    (h : laidMet P ((n, .iface nm (.ptr (.agg [.lit (.string text)]))) :: r) W)
    (hg : P.globalNamed n = some g) (ht : (P.globals[g]?).map (·.type) = some ti) (hi : P.underlying ti = some (.interface ms)) (hrow : ∀ u, P.typeName? 3 u = some nm → u = tp)
    (hp : P.underlying tp = some (.pointer te)) (he : P.underlying te = some (.struct #[f])) (hft : f.type = ts) (hfo : f.offset = 0) (hs : P.underlying ts = some .string) (hc : P.cellsOf te = 1) (hcs : P.cellsOf ts = 1) :
    ∃ (a : Addr) (c : Array Value) (t : TypeId), Gl [blks W] g (.iface tp (.pointer (some a))) ∧ W.cell? a = some (bs text) ∧ Has [blks W] a.block (.cells c t rfr) := by
  obtain ⟨ps, ⟨g0, t0, cs0, f0, p0, q0, hg0, ht0, hv0, hd0, _, e0⟩, _, hrows⟩ := h
  obtain rfl := Option.some.inj (hg.symm.trans hg0)
  obtain rfl := Option.some.inj (ht.symm.trans ht0)
  subst e0
  obtain ⟨l0⟩ := cs0
  have ok0 : ∀ u v, l0 = [.iface u v] → Value.okWide P W .any 0 u v := fun u v e => by
    subst e
    exact (hrows g 0 (by simp [MemPlace.row])).2 u v (by simpa using World.var?_cell hg0 hv0 0)
  obtain ⟨a0, s0, rfl, hc0, hs0, hz0, rfl⟩ := errorString_of_trod hi hrow hp he hft hfo hs hc hcs hd0 ok0
  obtain ⟨c0, t0, hb0⟩ := (hrows a0.block a0.off (by simp [MemPlace.row])).1
  refine ⟨a0, c0, t0, gl_of_var hg hv0, ?_, has_blks hb0⟩
  rw [hc0]
  obtain ⟨⟨s0⟩⟩ := s0
  simp only at hs0
  subst hs0
  rfl
theorem laid_sent1 {n : String} {text : List UInt8} {r : List (String × DataW Unit)} {W : World} {g : Nat}
    (h : laidMet Tryd.prog ((n, .iface "*errors.errorString" (.ptr (.agg [.lit (.string text)]))) :: r) W) (hg : Tryd.prog.globalNamed n = some g) (ht : (Tryd.prog.globals[g]?).map (·.type) = some 37) :
    ∃ (a : Addr) (c : Array Value) (t : TypeId), Gl [blks W] g (.iface 267 (.pointer (some a))) ∧ W.cell? a = some (bs text) ∧ Has [blks W] a.block (.cells c t rfr) :=
  laid_sent0 h hg ht Tryd.underlying37 row_es Tryd.underlying267 Tryd.underlying286 rfl rfl Tryd.underlying9 (by kernel_rfl) (by kernel_rfl)
def SentAt (W : World) (c : Nat) (a : Addr) : Prop := (∀ g, Tryd.prog.globalNamed (nameOf c) = some g → Gl [blks W] g (.iface 267 (.pointer (some a)))) ∧ W.cell? a = some (bs (textOf c)) ∧ ∃ l t, Has [blks W] a.block (.cells l t rfr)
theorem sents {W : World} : ∀ (cs : List Nat), laidMet Tryd.prog (sentL cs) W → (∀ c ∈ cs, ∃ g, Tryd.prog.globalNamed (nameOf c) = some g ∧ (Tryd.prog.globals[g]?).map (·.type) = some 37) → ∀ c ∈ cs, ∃ a, SentAt W c a
  | [], _, _, c, hc => by cases hc
  | x :: cs, h, hn, c, hc => by
    rcases List.mem_cons.1 hc with rfl | hc
    · obtain ⟨g, hg, ht⟩ := hn c (by simp)
      obtain ⟨a, l, t, h1, h2, h3⟩ := laid_sent1 h hg ht
      refine ⟨a, fun g' hg' => ?_, h2, l, t, h3⟩
      obtain rfl := Option.some.inj (hg.symm.trans hg')
      exact h1
    · exact sents cs h.tail (fun y hy => hn y (by simp [hy])) c hc
theorem errTab_ok : (errTab.all fun p => decide (Tryd.prog.globalNamed (nameOf p.2) = some p.1) && decide ((Tryd.prog.globals[p.1]?).map (·.type) = some 37)) = true := by kernel_rfl
theorem errs_of {W : World} {cs : List Nat} (h : laidMet Tryd.prog (sentL cs) W) (hm : (cs.all fun c => errTab.any fun p => Nat.beq p.2 c) = true := by rfl) :
    ∃ E, Er 267 E cs [blks W] ∧ ∀ c ∈ cs, SentAt W c (E c) := by
  have h1 := sents cs h (fun c hc => by
    obtain ⟨p, hp, he⟩ := List.any_eq_true.1 (List.all_eq_true.1 hm c hc)
    have h2 := List.all_eq_true.1 errTab_ok p hp
    simp only [Bool.and_eq_true, decide_eq_true_eq] at h2
    rw [Nat.eq_of_beq_eq_true he] at h2
    exact ⟨p.1, h2.1, h2.2⟩)
  have h2 : ∀ c, ∃ a, c ∈ cs → SentAt W c a := fun c => by
    by_cases hc : c ∈ cs
    · obtain ⟨a, ha⟩ := h1 c hc
      exact ⟨a, fun _ => ha⟩
    · exact ⟨⟨0, 0, none⟩, fun h => absurd h hc⟩
  refine ⟨fun c => Classical.choose (h2 c), fun g c hg hc => ?_, fun c hc => Classical.choose_spec (h2 c) hc⟩
  have hcm : c ∈ cs := List.elem_iff.1 hc
  have h3 := Classical.choose_spec (h2 c) hcm
  have h4 := List.all_eq_true.1 errTab_ok (g, c) (lkN_mem hg)
  simp only [Bool.and_eq_true, decide_eq_true_eq] at h4
  exact h3.1 g h4.1
end Go.HL
end

/-! QLayB -/
section
namespace Go.HL
set_option linter.unusedSectionVars false
variable [Tasks]
open Go Go.Proofs Go.ChangeShapes Go.WideShapes Go.ChangeAt Go.RowKit
set_option linter.unusedVariables false
def handL : List (String × DataW Unit) := [("errors.errorType", .iface "internal/reflectlite.rtype" (.agg [.ptr (.lit (.string [101, 114, 114, 111, 114]))]))]
theorem hd_et : Tryd.prog.globalNamed "errors.errorType" = some 9 := by kernel_rfl
theorem hd_rt : (Tryd.prog.cutTypes.find? (·.1 == "internal/reflectlite.rtype")).map (·.2) = some 241 := by kernel_rfl
theorem hd_row : ((List.range 298).filter fun t => Tryd.prog.rowNamed t [101, 114, 114, 111, 114]) = [37] := by kernel_rfl
theorem hd_size : Tryd.prog.types.size = 298 := by kernel_rfl
theorem hd_handle : typeHandle Tryd.prog 37 = .pointer (some ⟨10, 37, none⟩) := by kernel_rfl
theorem handle_of {W : World} (h : handlesMet Tryd.prog handL W) : Gl [blks W] 9 (.iface 241 (.agg #[.pointer (some ⟨10, 37, none⟩)])) := by
  obtain ⟨name, u, ty, e1, e2, e3, e4, e5⟩ := h _ (List.mem_singleton.2 rfl)
  have en : name = [101, 114, 114, 111, 114] := (Option.some.inj e1).symm
  subst en
  obtain rfl := Option.some.inj (hd_rt.symm.trans e2)
  have hm : ty ∈ (List.range 298).filter fun t => Tryd.prog.rowNamed t [101, 114, 114, 111, 114] := List.mem_filter.2 ⟨List.mem_range.2 (by rw [← hd_size]; exact e3), e4⟩
  rw [hd_row] at hm
  obtain rfl := List.mem_singleton.1 hm
  rw [hd_handle] at e5
  exact gl_of_var hd_et e5
theorem text_inj {c c' : Nat} (h : List.elem c all9 = true) (h' : List.elem c' all9 = true) (e : textOf c = textOf c') : c = c' := by
  have key : (all9.all fun c => all9.all fun c' => decide (textOf c = textOf c' → c = c')) = true := by decide +kernel
  have h1 := List.all_eq_true.1 (List.all_eq_true.1 key c (List.elem_iff.1 h)) c' (List.elem_iff.1 h')
  exact of_decide_eq_true h1 e
theorem ez_of {W : World} {l : List Nat} (hs : laidMet Tryd.prog (sentL l) W) (hh : handlesMet Tryd.prog handL W) (hl : (all9.all fun c => l.elem c) = true := by rfl) (hm : (l.all fun c => errTab.any fun p => Nat.beq p.2 c) = true := by rfl) : ∃ E, Ez 267 E [blks W] := by
  obtain ⟨E, hG, hE⟩ := errs_of hs hm
  have hmem : ∀ c, List.elem c all9 = true → c ∈ l := fun c hc => List.elem_iff.1 (List.all_eq_true.1 hl c (List.elem_iff.1 hc))
  refine ⟨E, rfl, hG.sub hl, fun c hc => let ⟨l, t, h⟩ := (hE c (hmem c hc)).2.2; ⟨_, t, .inr h⟩, fun c c' hc hc' e => ?_, handle_of hh⟩
  have h1 := (hE c (hmem c hc)).2.1
  have h2 := (hE c' (hmem c' hc')).2.1
  rw [e, h2] at h1
  have h3 : textOf c' = textOf c := by
    have := Option.some.inj h1
    simp only [Value.string.injEq, ByteArray.mk.injEq, Array.mk.injEq] at this
    exact this
  exact text_inj hc hc' h3.symm
end Go.HL
namespace Go.HL 
open Go Go.Proofs Go.ChangeShapes Go.WideShapes Go.ChangeAt Go.RowKit
set_option linter.unusedVariables false
/-- the witness's world -/
theorem laidMet_lay0 {P : Program} {w0 : World} {laid : List (String × DataW Unit)} (args : Array Value) (hf : w0.layFits P laid [] = true) (hi : w0.layIfaces P laid (w0.layVars P laid) = true) :
    laidMet P laid ((w0.layVars P laid).forCall (fun _ _ => 0) ⟨#[], args, []⟩).memory := by
  have e1 : (laid.filter fun x => (laid.map (·.1)).contains x.1) = laid := List.filter_eq_self.2 fun x hx => List.contains_iff_mem.2 (List.mem_map.2 ⟨x, hx, rfl⟩)
  have e2 : (laid.filter fun x => !(laid.map (·.1)).contains x.1) = [] := List.filter_eq_nil_iff.2 fun x hx => by rw [List.contains_iff_mem.2 (List.mem_map.2 ⟨x, hx, rfl⟩)]; simp
  have h : laidMet P laid (w0.layVars P laid) := laidMet_layVars (w0 := w0) (laid.map (·.1)) [] (by rw [e1]) (by rw [e1]; exact hf) (by rw [e1]; exact hi) (by rw [e2]; exact LaidIn.none)
  exact h.of_heap (by simp [World.memory, World.forCall, Input.heap])
noncomputable def w0H (os : Os) : World :=
  let w := World.holding Tryd.prog os ⟨#[], #[], []⟩
  { w with heap := w.heap.modify 9 fun
      | .cells _ t frozen => .cells #[.iface 241 (.agg #[.pointer (some ⟨10, 37, none⟩)])] t frozen
      | o => o }
noncomputable def layH (os : Os) (l : List Nat) : World := (w0H os).layVars Tryd.prog (sentL l)
theorem layH_os (os : Os) (l : List Nat) : (layH os l).os = os := World.layVars_os _ _ _
end Go.HL
end

/-! QKTr -/
section
namespace Go.HL
set_option linter.unusedSectionVars false
variable [Tasks]
open Go Go.Conc
set_option linter.unusedVariables false
set_option linter.unusedSectionVars false
set_option linter.unusedSimpArgs false

/-- a place in block b -/
def onB (l : Loc) (b : Nat) : Prop := l = .obj b ∨ ∃ a, l = .cell a ∧ a.block = b
theorem onB_fun {l : Loc} {b c : Nat} (h : onB l b) (h' : onB l c) : b = c := by
  rcases h with rfl | ⟨a, rfl, rfl⟩ <;> rcases h' with h' | ⟨a', h', rfl⟩ <;> cases h' <;> rfl
theorem onB_mem {l : Loc} (h : l.isMemory = true) : ∃ b, onB l b := by
  cases l with
  | cell a => exact ⟨_, .inr ⟨a, rfl, rfl⟩⟩
  | obj b => exact ⟨_, .inl rfl⟩
  | _ => simp [Loc.isMemory] at h
/-- all touches of a kind, of block b -/
def Kno (p : Touch → Prop) (t : Trace) (g b : Nat) : Prop := ∀ i a, touchAt t i = some a → onB a.loc b → p a → Knows t g i
abbrev KAll := Kno fun _ => True
abbrev KWr := Kno fun a => a.write = true
abbrev KPn := Kno fun a => a.kind = .plain
theorem Kno.imp {p q : Touch → Prop} {t : Trace} {g b : Nat} (h : Kno p t g b) (hq : ∀ a, q a → p a) : Kno q t g b := fun i a h1 h2 h3 => h i a h1 h2 (hq a h3)
theorem touch_cases {t u : Trace} {i : Nat} {a : Touch} (h : touchAt (t ++ u) i = some a) : (i < t.size ∧ touchAt t i = some a) ∨ ∃ op ∈ u, (t ++ u)[i]? = some op ∧ op.act.touch? = some a := by
  obtain ⟨x, hx, hxa⟩ := touch_of h
  rcases getElem?_append_cases hx with ⟨hi, hx'⟩ | ⟨_, hxu⟩
  · exact .inl ⟨hi, by rw [touchAt_of hx']; exact hxa⟩
  · exact .inr ⟨x, hxu, hx, hxa⟩
theorem Kno.app {p : Touch → Prop} {t u : Trace} {g b : Nat} (h : Kno p t g b) (hu : ∀ op ∈ u, ∀ a, op.act.touch? = some a → onB a.loc b → p a → op.g = g) : Kno p (t ++ u) g b := by
  intro i a ha hb hp
  rcases touch_cases ha with ⟨_, h1⟩ | ⟨op, h1, h2, h3⟩
  · exact (h i a h1 hb hp).app u
  · have := knows_own h2
    rwa [hu op h1 a h3 hb hp] at this
/-- it knows what another knew -/
theorem Kno.pass {p : Touch → Prop} {t u : Trace} {g g' b : Nat} (h : Kno p t g b) (hk : ∀ i, Knows t g i → Knows (t ++ u) g' i) (hu : ∀ op ∈ u, op.act.touch? = none) : Kno p (t ++ u) g' b := by
  intro i a ha hb hp
  rcases touch_cases ha with ⟨_, h1⟩ | ⟨op, h1, h2, h3⟩
  · exact hk i (h i a h1 hb hp)
  · rw [hu op h1] at h3; cases h3
/-- what is listed touches nothing -/
theorem noRace_mute {said : Bool} {t u : Trace} (h : ¬ Race said t) (hu : ∀ op ∈ u, op.act.touch? = none) : ¬ Race said (t ++ u) := by
  rintro ⟨i, j, hij, ⟨a, b, ha, hb, hc⟩, n1, n2⟩
  rcases touch_cases (show touchAt (t ++ u) j = some b from hb) with ⟨hj, h1⟩ | ⟨op, h1, _, h3⟩
  · have hi : i < t.size := Nat.lt_trans hij hj
    refine h ⟨i, j, hij, ⟨a, b, ?_, h1, hc⟩, fun e => n1 (hb_app u e), fun e => n2 (hb_app u e)⟩
    show touchAt t i = some a
    rw [← touchAt_old (u := u) hi]; exact ha
  · rw [hu op h1] at h3; cases h3

/-- the trace, a heap for each goroutine that works, the blocks that are shared by steps that synchronise -/
structure TI (t : Trace) (n N : Nat) (Lf : Nat → Heap) (sh : Nat → Prop) (pt : Nat → Prop) : Prop where
  nr : ∀ said, ¬ Race said t
  g : ∀ (i : Nat) (op : MemOp), t[i]? = some op → op.g < n
  lt : ∀ i a b, touchAt t i = some a → onB a.loc b → b < N
  own : ∀ j b, InW (Lf j) b → KAll t j b
  rd : ∀ j b, InB (Lf j) b → KWr t j b
  shp : ∀ j b, pt j → sh b → KPn t j b
  shs : ∀ i a, touchAt t i = some a → a.kind = .said → t.g? i = some 0
  rel : ∀ i a, t.act? i ≠ some (.mark (.release a))
/-- what one goroutine may list -/
def OkT (L : Heap) (N M : Nat) (sh : Nat → Prop) (j : Nat) (op : MemOp) : Prop :=
  op.g = j ∧ (∀ a, op.act ≠ .mark (.release a)) ∧ ∀ a, op.act.touch? = some a → a.loc.isMemory = true ∧ (a.kind = .said → j = 0) ∧ ∀ b, onB a.loc b → b < M ∧ ((sh b ∧ (a.kind = .atomic ∨ a.kind = .said ∧ j = 0)) ∨ (if a.write then InW L b ∨ N ≤ b else InB L b ∨ N ≤ b))
theorem TI.step {t u : Trace} {n N M j : Nat} {Lf Lf' : Nat → Heap} {sh pt : Nat → Prop} (h : TI t n N Lf sh pt) (hj : j < n) (hM : N ≤ M) (hg : Gr0 N (Lf j) (Lf' j)) (ho : ∀ i, i ≠ j → Lf' i = Lf i)
    (dis : ∀ i b, i ≠ j → InW (Lf i) b → ¬ InB (Lf j) b) (dis2 : ∀ i b, i ≠ j → InW (Lf j) b → ¬ InB (Lf i) b) (hsh : ∀ i b, sh b → ¬ InB (Lf i) b) (hlt : ∀ i b, InB (Lf i) b → b < N) (shlt : ∀ b, sh b → b < N)
    (hu : ∀ op ∈ u, OkT (Lf j) N M (fun b => sh b ∧ pt j) j op) : TI (t ++ u) n M Lf' sh pt := by
  have ug : ∀ op ∈ u, op.g = j := fun op hop => (hu op hop).1
  -- what stood ahead of it, and clashes, is known
  refine ⟨fun said => noRace_append (h.nr said) ug (fun i a ha op hop b hb hc => ?_), fun i op hi => ?_, fun i a b ha hb => ?_, fun i b hw => ?_, fun i b hw => ?_, fun i b hi hs => ?_, fun i a ha hk => ?_, fun i a => ?_⟩
  · obtain ⟨hmem, _, hB⟩ := (hu op hop).2.2 b hb
    obtain ⟨c, hc'⟩ := onB_mem hmem
    have hac : onB a.loc c := by rw [hc.1]; exact hc'
    have hcN : c < N := h.lt i a c ha hac
    rcases (hB c hc').2 with ⟨⟨hs, hp⟩, hk⟩ | hw
    · rcases hk with hk | ⟨hk, hj0⟩
      · have hap : a.kind = .plain := by
          rcases hc.2.2.2 with e | e | e
          · exact e
          · rw [hk] at e; cases e
          · rw [hk] at e; cases e.2.2
        exact h.shp j c hp hs i a ha hac hap
      · cases hkd : a.kind with
        | plain => exact h.shp j c hp hs i a ha hac hkd
        | atomic => rcases hc.2.2.2 with e | e | e <;> simp_all
        | said =>
          have := h.shs i a ha hkd
          obtain ⟨op', h1, h2⟩ := Option.map_eq_some_iff.1 this
          have h3 := knows_own h1
          rw [h2] at h3
          rw [hj0]; exact h3
    · cases hbw : b.write with
      | true =>
        rw [hbw, if_pos rfl] at hw
        exact h.own j c (hw.resolve_right (by omega)) i a ha hac trivial
      | false =>
        rw [hbw, if_neg (by simp)] at hw
        exact h.rd j c (hw.resolve_right (by omega)) i a ha hac (hc.2.2.1.resolve_right (by simp [hbw]))
  · rcases getElem?_append_cases hi with ⟨_, hi'⟩ | ⟨_, hiu⟩
    · exact h.g i op hi'
    · rw [ug op hiu]; exact hj
  · rcases touch_cases ha with ⟨_, h1⟩ | ⟨op, h1, _, h3⟩
    · exact Nat.lt_of_lt_of_le (h.lt i a b h1 hb) hM
    · exact (((hu op h1).2.2 a h3).2.2 b hb).1
  · by_cases e : i = j
    · subst e
      rcases hg.w b hw with hw | hw
      · exact (h.own i b hw).app fun op hop _ _ _ _ => ug op hop
      · exact fun i' a ha hb _ => by
          rcases touch_cases ha with ⟨_, h1⟩ | ⟨op, h1, h2, _⟩
          · have := h.lt i' a b h1 hb; omega
          · have := knows_own h2; rwa [ug op h1] at this
    · rw [ho i e] at hw
      refine (h.own i b hw).app fun op hop a ha hb _ => ?_
      rcases (((hu op hop).2.2 a ha).2.2 b hb).2 with ⟨⟨hs, _⟩, _⟩ | hx
      · exact absurd hw.b (hsh i b hs)
      · have hbN := hlt i b hw.b
        exfalso
        split at hx
        · exact dis i b e hw (hx.resolve_right (by omega)).b
        · exact dis i b e hw (hx.resolve_right (by omega))
  · by_cases e : i = j
    · subst e
      rcases hg.b b hw with hw | hw
      · exact (h.rd i b hw).app fun op hop _ _ _ _ => ug op hop
      · exact fun i' a ha hb _ => by
          rcases touch_cases ha with ⟨_, h1⟩ | ⟨op, h1, h2, _⟩
          · have := h.lt i' a b h1 hb; omega
          · have := knows_own h2; rwa [ug op h1] at this
    · rw [ho i e] at hw
      refine (h.rd i b hw).app fun op hop a ha hb hwr => ?_
      rcases (((hu op hop).2.2 a ha).2.2 b hb).2 with ⟨⟨hs, _⟩, _⟩ | hx
      · exact absurd hw (hsh i b hs)
      · have hbN := hlt i b hw
        exfalso
        rw [hwr, if_pos rfl] at hx
        exact dis2 i b e (hx.resolve_right (by omega)) hw
  · refine (h.shp i b hi hs).app fun op hop a ha hb hk => ?_
    rcases (((hu op hop).2.2 a ha).2.2 b hb).2 with ⟨_, hx⟩ | hx
    · rcases hx with hx | ⟨hx, _⟩ <;> rw [hk] at hx <;> cases hx
    · have hbN := shlt b hs
      exfalso
      split at hx
      · exact hsh j b hs (hx.resolve_right (by omega)).b
      · exact hsh j b hs (hx.resolve_right (by omega))
  · rcases touch_cases ha with ⟨hi, h1⟩ | ⟨op, h1, h2, h3⟩
    · rw [g?_old hi]; exact h.shs i a h1 hk
    · have := ((hu op h1).2.2 a h3).2.1 hk
      simp [Trace.g?, h2, ug op h1, this]
  · intro e
    obtain ⟨op, h1, h2⟩ := Option.map_eq_some_iff.1 e
    rcases getElem?_append_cases h1 with ⟨_, h3⟩ | ⟨_, h3⟩
    · exact h.rel i a (by rw [act?_of h3, h2])
    · exact (hu op h3).2.1 a h2
/-- steps that touch nothing; who holds what may turn -/
theorem TI.mute {t u : Trace} {n n' N : Nat} {Lf Lf' : Nat → Heap} {sh pt sh' pt' : Nat → Prop} (h : TI t n N Lf sh pt) (hn : n ≤ n') (hu : ∀ op ∈ u, op.act.touch? = none ∧ op.g < n' ∧ ∀ a, op.act ≠ .mark (.release a))
    (own : ∀ j b, InW (Lf' j) b → KAll (t ++ u) j b) (rd : ∀ j b, InB (Lf' j) b → KWr (t ++ u) j b) (shp : ∀ j b, pt' j → sh' b → KPn (t ++ u) j b) : TI (t ++ u) n' N Lf' sh' pt' := by
  refine ⟨fun said => noRace_mute (h.nr said) fun op hop => (hu op hop).1, fun i op hi => ?_, fun i a b ha hb => ?_, own, rd, shp, fun i a ha hk => ?_, fun i a e => ?_⟩
  · rcases getElem?_append_cases hi with ⟨_, hi'⟩ | ⟨_, hiu⟩
    · exact Nat.lt_of_lt_of_le (h.g i op hi') hn
    · exact (hu op hiu).2.1
  · rcases touch_cases ha with ⟨_, h1⟩ | ⟨op, h1, _, h3⟩
    · exact h.lt i a b h1 hb
    · rw [(hu op h1).1] at h3; cases h3
  · rcases touch_cases ha with ⟨hi, h1⟩ | ⟨op, h1, _, h3⟩
    · rw [g?_old hi]; exact h.shs i a h1 hk
    · rw [(hu op h1).1] at h3; cases h3
  · obtain ⟨op, h1, h2⟩ := Option.map_eq_some_iff.1 e
    rcases getElem?_append_cases h1 with ⟨_, h3⟩ | ⟨_, h3⟩
    · exact h.rel i a (by rw [act?_of h3, h2])
    · exact (hu op h3).2.2 a h2
theorem Kno.mute {p : Touch → Prop} {t u : Trace} {g b : Nat} (h : Kno p t g b) (hu : ∀ op ∈ u, op.act.touch? = none) : Kno p (t ++ u) g b := h.app fun op hop a ha => by rw [hu op hop] at ha; cases ha

/-- a value is handed over: whoever takes it knows what the giver knew -/
theorem hand_knows {t u : Trace} {g g' c k p q : Nat} {x y : MemOp} (hp : t.size ≤ p) (hx : (t ++ u)[p]? = some x) (hxg : x.g = g) (hxa : x.act = .send c k) (hy : (t ++ u)[q]? = some y) (hyg : y.g = g') (hya : y.act = .recvDone c k)
    (h1 : (t ++ u).heard p) (h2 : (t ++ u).heard q) {i : Nat} (h : Knows t g i) : Knows (t ++ u) g' i :=
  ⟨q, y, hy, hyg, .inr ((h.hb_new hp hx hxg).trans (.single (.inr ⟨.handOver (c := c) (k := k) (by rw [act?_of hx, hxa]) (by rw [act?_of hy, hya]), h1, h2⟩)))⟩
/-- fewer blocks are shared; fewer take part -/
theorem TI.less {t : Trace} {n N : Nat} {Lf : Nat → Heap} {sh pt sh' pt' : Nat → Prop} (h : TI t n N Lf sh pt) (hs : ∀ b, sh' b → sh b) (hp : ∀ j, pt' j → pt j) : TI t n N Lf sh' pt' :=
  ⟨h.nr, h.g, h.lt, h.own, h.rd, fun j b a c => h.shp j b (hp j a) (hs b c), h.shs, h.rel⟩
theorem TI.heap {t : Trace} {n N : Nat} {Lf Lf' : Nat → Heap} {sh pt : Nat → Prop} (h : TI t n N Lf sh pt) (hw : ∀ j b, InW (Lf' j) b → InW (Lf j) b) (hb : ∀ j b, InB (Lf' j) b → InB (Lf j) b) : TI t n N Lf' sh pt :=
  ⟨h.nr, h.g, h.lt, fun j b a => h.own j b (hw j b a), fun j b a => h.rd j b (hb j b a), h.shp, h.shs, h.rel⟩
/-! ### what a step lists -/
theorem mem_ofEvents {j : Nat} {fn : FuncId} {pos : String} {es : Array Event} {op : MemOp} (h : op ∈ MemOp.ofEvents j fn pos es) : ∃ e ∈ es, op = { g := j, fn := fn, pos := pos, act := .ofEvent e } := by
  rw [ofEvents_eq] at h
  obtain ⟨e, h1, h2⟩ := Array.mem_map.1 h
  exact ⟨e, h1, h2.symm⟩
theorem okT_ev {L : Heap} {N M j : Nat} {sh : Nat → Prop} {fn : FuncId} {pos : String} {e : Event} (h : EvIn (InB L) (InW L) N e) (hl : EvLt M e) : OkT L N M sh j { g := j, fn := fn, pos := pos, act := .ofEvent e } := by
  obtain ⟨loc, wr, sy⟩ := e
  rcases h with ⟨b, hb, hx⟩ | ⟨m, hm, hp⟩
  · have hon : onB loc b := hb
    have key : ∀ a, MemAct.touch? (.access ⟨loc, wr, sy⟩) = some a → a.loc.isMemory = true ∧ (a.kind = .said → j = 0) ∧ ∀ b, onB a.loc b → b < M ∧ ((sh b ∧ (a.kind = .atomic ∨ a.kind = .said ∧ j = 0)) ∨ (if a.write then InW L b ∨ N ≤ b else InB L b ∨ N ≤ b)) := by
      intro a ha
      simp only [MemAct.touch?, Option.some.injEq] at ha
      subst ha
      refine ⟨?_, fun hk => ?_, fun c hc => ⟨hl c hc, .inr ?_⟩⟩
      · rcases hon with rfl | ⟨a, rfl, _⟩ <;> rfl
      · cases sy <;> cases hk
      · rw [onB_fun hc hon]; exact hx
    rcases hb with hb | ⟨a, hb, _⟩
    · simp only at hb; subst hb
      cases wr <;> cases sy
      · exact ⟨rfl, fun a e => (by cases e), key⟩
      · exact ⟨rfl, fun a e => (by cases e), key⟩
      · exact ⟨rfl, fun a e => (by cases e), key⟩
      · exact ⟨rfl, fun a e => (by cases e), fun a e => (by cases e)⟩
    · simp only at hb; subst hb
      exact ⟨rfl, fun a e => (by cases e), key⟩
  · cases hm
    rcases hp with rfl | ⟨f, rfl⟩ <;> exact ⟨rfl, fun a e => (by cases e), fun a e => (by cases e)⟩
theorem okT_mark {L : Heap} {N M j : Nat} {sh : Nat → Prop} {fn : FuncId} {pos : String} {m : Mark} (h : (MemAct.mark m).touch? = none) (hr : ∀ a, m ≠ .release a) : OkT L N M sh j { g := j, fn := fn, pos := pos, act := .ofEvent (evMk m) } :=
  ⟨rfl, fun a e => hr a (by cases e; rfl), fun a e => by
    have : (MemAct.ofEvent (evMk m)) = .mark m := rfl
    rw [this, h] at e; cases e⟩
theorem okT_cell {L : Heap} {N M j : Nat} {sh : Nat → Prop} {fn : FuncId} {pos : String} {a : Addr} {wr : Bool} (hs : sh a.block) (hM : a.block < M) : OkT L N M sh j { g := j, fn := fn, pos := pos, act := .ofEvent ⟨.cell a, wr, true⟩ } :=
  ⟨rfl, fun a e => (by cases e), fun x e => by
    cases e
    exact ⟨rfl, fun hk => (by cases hk), fun b hb => by
      have : b = a.block := onB_fun hb (.inr ⟨a, rfl, rfl⟩)
      subst this
      exact ⟨hM, .inl ⟨hs, .inl rfl⟩⟩⟩⟩
theorem okT_said {L : Heap} {N M j : Nat} {sh : Nat → Prop} {fn : FuncId} {pos : String} {a : Addr} {m : Mark} (h : m = .read a ∨ m = .write a) (hs : sh a.block) (hM : a.block < M) (hj : j = 0) : OkT L N M sh j { g := j, fn := fn, pos := pos, act := .ofEvent (evMk m) } := by
  refine ⟨rfl, fun b e => ?_, fun x e => ?_⟩
  · rcases h with rfl | rfl <;> cases e
  · rcases h with rfl | rfl <;> cases e <;> exact ⟨rfl, fun _ => hj, fun b hb => by
      have : b = a.block := onB_fun hb (.inr ⟨a, rfl, rfl⟩)
      subst this
      exact ⟨hM, .inl ⟨hs, .inr ⟨rfl, hj⟩⟩⟩⟩
theorem okT_mv {L : Heap} {N M j : Nat} {fn : FuncId} {pos : String} {sh : Nat → Prop} {t t' : Tk} {γ γ' : Gm} {es : Array Event} (m : Mv t γ t' γ' es) (h1 : sh γ.wg) (h2 : sh γ.todo) (h3 : γ.wg < M) (h4 : γ.todo < M) (h0 : t.st ≤ 12 → j = 0) : ∀ op ∈ MemOp.ofEvents j fn pos es, OkT L N M sh j op := by
  intro op hop
  obtain ⟨e, he, rfl⟩ := mem_ofEvents hop
  cases m <;> simp only [List.mem_toArray, List.mem_cons, List.not_mem_nil, or_false] at he
  all_goals (first | (rcases he with rfl | rfl | rfl | rfl) | (rcases he with rfl | rfl) | subst he | exact absurd he (by simp))
  all_goals (first
    | exact okT_cell h1 h3
    | exact okT_mark rfl (fun a e => by cases e)
    | exact okT_said (.inl rfl) h1 h3 (h0 (by omega))
    | exact okT_said (.inr rfl) h1 h3 (h0 (by omega))
    | skip)
  · refine ⟨rfl, fun a e => (by cases e), fun x e => ?_⟩
    cases e
    exact ⟨rfl, fun hk => (by cases hk), fun b hb => by
      have : b = γ.todo := onB_fun hb (.inl rfl)
      subst this
      exact ⟨h4, .inl ⟨h2, .inl rfl⟩⟩⟩
  · exact ⟨rfl, fun a e => (by cases e), fun x e => (by cases e)⟩
end Go.HL
end

/-! QKTk -/
section
namespace Go.HL
set_option linter.unusedSectionVars false
variable [Tasks]
open Go
set_option linter.unusedVariables false
set_option linter.unusedSectionVars false
set_option linter.unusedSimpArgs false

def up20 (t : Tk) : Bool := Nat.ble 20 t.st && Nat.ble t.st 24
def is21 (t : Tk) : Bool := t.st == 21
def is27 (t : Tk) : Bool := t.st == 27
def is28 (t : Tk) : Bool := t.st == 28
def busy (ts : List Tk) : List Nat := (ts.filter is21).map (·.a)
def Ph (γ : Gm) (tm : Tk) (ts : List Tk) : Prop :=
  ((tm.st = 0 ∨ tm.st = 1 ∨ tm.st = 2 ∨ tm.st = 3) ∧ γ.closed = false ∧ γ.wt = 0 ∧ γ.sem = 0 ∧ (∀ t ∈ ts, t.st = 20 ∨ t.st = 21 ∨ t.st = 25) ∧ ts.countP up20 = tm.n ∧ γ.cnt = tm.n + (if 2 ≤ tm.st then 1 else 0) ∧ List.Perm (busy ts) tm.l ∧ tm.a = tm.b + tm.l.length ∧ tm.a ≤ tm.many ∧ ∀ t ∈ ts, t.st ≠ 25 → t.b ≤ tm.a) ∨
  ((tm.st = 5 ∨ tm.st = 6 ∨ tm.st = 7) ∧ γ.closed = true ∧ γ.wt = 0 ∧ γ.sem = 0 ∧ (∀ t ∈ ts, t.st = 20 ∨ t.st = 22 ∨ t.st = 23 ∨ t.st = 24 ∨ t.st = 25) ∧ γ.cnt = ts.countP up20 ∧ (if tm.st = 7 then γ.cnt ≤ tm.a ∧ 1 ≤ tm.a else γ.cnt ≤ tm.b)) ∨
  (tm.st = 9 ∧ γ.closed = true ∧ (∀ t ∈ ts, t.st ≠ 21) ∧
    ((γ.wt = 1 ∧ γ.sem = 0 ∧ 1 ≤ γ.cnt ∧ γ.cnt = ts.countP up20 ∧ ts.countP is27 = 0 ∧ ts.countP is28 = 0) ∨ (γ.wt = 1 ∧ γ.sem = 0 ∧ γ.cnt = 0 ∧ ts.countP up20 = 0 ∧ ts.countP is27 = 1 ∧ ts.countP is28 = 0) ∨
     (γ.wt = 0 ∧ γ.sem = 0 ∧ γ.cnt = 0 ∧ ts.countP up20 = 0 ∧ ts.countP is27 = 0 ∧ ts.countP is28 = 1) ∨ (γ.wt = 0 ∧ γ.sem = 1 ∧ γ.cnt = 0 ∧ ts.countP up20 = 0 ∧ ts.countP is27 = 0 ∧ ts.countP is28 = 0))) ∨
  ((tm.st = 8 ∨ tm.st = 10 ∨ tm.st = 11) ∧ γ.closed = true ∧ γ.cnt = 0 ∧ γ.wt = 0 ∧ γ.sem = 0 ∧ ∀ t ∈ ts, t.st = 25) ∨
  (tm.st = 12 ∧ ∀ t ∈ ts, t.st = 25)
structure Toks (γ : Gm) (tm : Tk) (ts : List Tk) : Prop where
  same : ∀ t ∈ ts, t.st ≠ 25 → t.todo = tm.todo ∧ t.back = tm.back ∧ t.wg = tm.wg ∧ t.tag = tm.tag ∧ t.many = tm.many
  sts : ∀ t ∈ ts, t.st = 20 ∨ t.st = 21 ∨ t.st = 22 ∨ t.st = 23 ∨ t.st = 24 ∨ t.st = 25 ∨ t.st = 27 ∨ t.st = 28
  main : tm.st ≠ 12 → tm.todo = γ.todo ∧ tm.back = γ.back ∧ tm.wg = γ.wg
  le : γ.cnt ≤ 1000
  ph : Ph γ tm ts

theorem set_parts {α : Type} {l : List α} {j : Nat} {x : α} (h : l[j]? = some x) : ∃ a b, l = a ++ x :: b ∧ (∀ y, l.set j y = a ++ y :: b) ∧ a.length = j := by
  induction l generalizing j with
  | nil => simp at h
  | cons z l ih =>
    cases j with
    | zero => simp at h; subst h; exact ⟨[], l, rfl, fun _ => rfl, rfl⟩
    | succ j =>
      obtain ⟨a, b, h1, h2, h3⟩ := ih (by simpa using h)
      exact ⟨z :: a, b, by rw [h1]; rfl, fun y => by simp [h2], by simp [h3]⟩
theorem count_some {ts : List Tk} {p : Tk → Bool} {t : Tk} (h : t ∈ ts) (hp : p t = true) : 1 ≤ ts.countP p := List.countP_pos_iff.2 ⟨t, h, hp⟩

theorem Toks.cmpM {γ : Gm} {tm : Tk} {ts : List Tk} (h : Toks γ tm ts) (h12 : tm.st ≠ 12) : Cmp tm γ := by
  obtain ⟨h1, h2, h3⟩ := h.main h12
  refine ⟨h1, h2, h3, h.le, ?_⟩
  rcases h.ph with ⟨hs, a, b, c, d, e, f, g⟩ | ⟨hs, a, b, c, d, e, f⟩ | ⟨hs, a, n21, hd⟩ | ⟨hs, a, b, c, d, e⟩ | ⟨hs, _⟩
  · rcases hs with hs | hs | hs | hs <;> simp [Cm, hs] at f ⊢ <;> exact ⟨f, b, c, a⟩
  · rcases hs with hs | hs | hs <;> simp [Cm, hs] at f ⊢ <;> (first | exact ⟨f, b, c, a⟩ | exact ⟨f.1, f.2, b, c, a⟩)
  · simp [Cm, hs, a]
    omega
  · rcases hs with hs | hs | hs <;> simp [Cm, hs, a, b, c, d]
  · exact absurd hs h12
theorem Toks.up {γ : Gm} {tm : Tk} {ts : List Tk} (h : Toks γ tm ts) {t : Tk} (ht : t ∈ ts) (h25 : t.st ≠ 25) : tm.st ≠ 12 := by
  intro h12
  rcases h.ph with ⟨hs, _⟩ | ⟨hs, _⟩ | ⟨hs, _⟩ | ⟨hs, _⟩ | ⟨_, hs⟩
  · omega
  · omega
  · omega
  · omega
  · exact h25 (hs t ht)
theorem Toks.cmpW {γ : Gm} {tm : Tk} {ts : List Tk} (h : Toks γ tm ts) {t : Tk} (ht : t ∈ ts) (h25 : t.st ≠ 25) : Cmp t γ := by
  have h12 := h.up ht h25
  obtain ⟨h1, h2, h3⟩ := h.main h12
  obtain ⟨e1, e2, e3, _, _⟩ := h.same t ht h25
  refine ⟨e1.trans h1, e2.trans h2, e3.trans h3, h.le, ?_⟩
  have hu : 20 ≤ t.st → t.st ≤ 24 → 1 ≤ ts.countP up20 := fun x y => count_some ht (by simp [up20, Nat.ble_eq, x, y])
  have h27 : t.st = 27 → 1 ≤ ts.countP is27 := fun x => count_some ht (by simp [is27, x])
  have h28 : t.st = 28 → 1 ≤ ts.countP is28 := fun x => count_some ht (by simp [is28, x])
  rcases h.sts t ht with e | e | e | e | e | e | e | e
  · simp [Cm, e]
  · simp [Cm, e]
  all_goals (try exact absurd e h25)
  all_goals (
    simp only [Cm, e]
    rcases h.ph with ⟨hs, a, b, c, d, f⟩ | ⟨hs, a, b, c, d, f, g⟩ | ⟨hs, a, n21, hd⟩ | ⟨hs, a, b, c, d, f⟩ | ⟨hs, f⟩
    · have := d t ht; omega
    · have := d t ht
      first
        | (have := hu (by omega) (by omega); exact ⟨by omega, by omega, by omega, a⟩)
        | omega
    · first
        | (have := hu (by omega) (by omega); exact ⟨by omega, by omega, by omega, a⟩)
        | (have := h27 e; exact ⟨by omega, by omega, by omega, a⟩)
        | (have := h28 e; exact ⟨by omega, by omega, by omega, a⟩)
    · have := f t ht; omega
    · have := f t ht; omega)
theorem busy_nil {ts : List Tk} (h : busy ts = []) : ∀ t ∈ ts, t.st ≠ 21 := by
  intro t ht e
  have : t.a ∈ busy ts := List.mem_map.2 ⟨t, List.mem_filter.2 ⟨ht, by simp [is21, e]⟩, rfl⟩
  rw [h] at this; cases this
theorem all25 {ts : List Tk} (h : ∀ t ∈ ts, t.st = 20 ∨ t.st = 21 ∨ t.st = 22 ∨ t.st = 23 ∨ t.st = 24 ∨ t.st = 25 ∨ t.st = 27 ∨ t.st = 28) (h0 : ts.countP up20 = 0) (h1 : ts.countP is27 = 0) (h2 : ts.countP is28 = 0) : ∀ t ∈ ts, t.st = 25 := by
  intro t ht
  rw [List.countP_eq_zero] at h0 h1 h2
  have a0 := h0 t ht
  have a1 := h1 t ht
  have a2 := h2 t ht
  simp [up20, is27, is28, Nat.ble_eq] at a0 a1 a2
  have := h t ht
  omega
theorem Toks.mainMv {γ γ' : Gm} {tm tm' : Tk} {ts : List Tk} {es : Array Event} (h : Toks γ tm ts) (h12 : tm.st ≠ 12) (m : Mv tm γ tm' γ' es) : Toks γ' tm' ts := by
  have hph := h.ph
  have hle := h.le
  have hmain := h.main h12
  cases m
  case idle => exact h
  all_goals (refine ⟨h.same, h.sts, fun _ => h.main h12, ?_, ?_⟩)
  all_goals (try exact hle)
  all_goals (
    rcases hph with ⟨hs, a, b, c, d, e, f, g1, g2, g3⟩ | ⟨hs, a, b, c, d, e, f⟩ | ⟨hs, a, n21, hd⟩ | ⟨hs, a, b, c, d, e⟩ | ⟨hs, _⟩
    <;> (try (exfalso; omega)))
  case add.refine_1.inl h1 h2 => simp [h1] at f; show γ.cnt + 1 ≤ 1000; omega
  case dis0.refine_2.inl h1 => simp [h1] at f; exact .inl ⟨by simp, a, b, c, d, e, by simp [f], g1, g2, g3⟩
  case add.refine_2.inl h1 h2 => simp [h1] at f; exact .inl ⟨by simp, a, b, c, d, e, by simp [f], g1, g2, g3⟩
  case read.refine_2.inl h1 => exact .inl ⟨.inr (.inr (.inl h1)), a, b, c, d, e, f, g1, g2, g3⟩
  case en2.refine_2.inl h1 => simp [h1] at f; exact .inl ⟨by simp, a, b, c, d, e, by simp [f], g1, g2, g3⟩
  case close.refine_2.inl h1 h2 =>
    simp [h1] at f
    rw [h2] at g1
    have hb := busy_nil g1.eq_nil
    exact .inr (.inl ⟨.inl rfl, rfl, b, c, fun t ht => by have := d t ht; have := hb t ht; omega, by show γ.cnt = _; omega, by simp [f]⟩)
  case dis5.refine_2.inr.inl h1 => simp [h1] at f; exact .inr (.inl ⟨.inr (.inl rfl), a, b, c, d, e, by simpa using f⟩)
  case zero.refine_2.inr.inl h1 h2 =>
    refine .inr (.inr (.inr (.inl ⟨.inl rfl, a, h2, b, c, fun t ht => ?_⟩)))
    have hu : ¬ (20 ≤ t.st ∧ t.st ≤ 24) := fun hx => by
      have := count_some (p := up20) ht (by simp [up20, Nat.ble_eq, hx.1, hx.2])
      omega
    have := d t ht
    omega
  case load.refine_2.inr.inl h1 h2 => exact .inr (.inl ⟨.inr (.inr rfl), a, b, c, d, e, by simp [h2]⟩)
  case reg.refine_2.inr.inl h1 h2 =>
    simp [h1] at f
    refine .inr (.inr (.inl ⟨rfl, a, fun t ht => by have := d t ht; omega, .inl ⟨rfl, c, by show 1 ≤ γ.cnt; omega, e, ?_, ?_⟩⟩))
    · rw [List.countP_eq_zero]; intro t ht; have := d t ht; simp [is27]; omega
    · rw [List.countP_eq_zero]; intro t ht; have := d t ht; simp [is28]; omega
  case fail.refine_2.inr.inl h1 h2 => exact .inr (.inl ⟨.inr (.inl rfl), a, b, c, d, e, by simp; omega⟩)
  case write.refine_2.inr.inr.inl h1 => exact .inr (.inr (.inl ⟨hs, a, n21, hd⟩))
  case acq.refine_2.inr.inr.inl h1 h2 =>
    have hd' : γ.wt = 0 ∧ γ.cnt = 0 ∧ ts.countP up20 = 0 ∧ ts.countP is27 = 0 ∧ ts.countP is28 = 0 := by omega
    exact .inr (.inr (.inr (.inl ⟨.inr (.inl rfl), a, hd'.2.1, hd'.1, rfl, all25 h.sts hd'.2.2.1 hd'.2.2.2.1 hd'.2.2.2.2⟩)))
  case look.refine_2.inr.inr.inr.inl h1 => exact .inr (.inr (.inr (.inl ⟨hs, a, b, c, d, e⟩)))
  case en8.refine_2.inr.inr.inr.inl h1 => exact .inr (.inr (.inr (.inl ⟨.inr (.inr rfl), a, b, c, d, e⟩)))
  case join.refine_2.inr.inr.inr.inl h1 => exact .inr (.inr (.inr (.inr ⟨rfl, e⟩)))

/-! ### a worker's -/
theorem Toks.setW {γ γ' : Gm} {tm tm' t t' : Tk} {ts : List Tk} {j : Nat} (h : Toks γ tm ts) (hj : ts[j]? = some t) (h25 : t.st ≠ 25)
    (hs : t'.todo = t.todo ∧ t'.back = t.back ∧ t'.wg = t.wg ∧ t'.tag = t.tag ∧ t'.many = t.many)
    (hs' : t'.st = 20 ∨ t'.st = 21 ∨ t'.st = 22 ∨ t'.st = 23 ∨ t'.st = 24 ∨ t'.st = 25 ∨ t'.st = 27 ∨ t'.st = 28)
    (hm : tm'.todo = tm.todo ∧ tm'.back = tm.back ∧ tm'.wg = tm.wg ∧ tm'.tag = tm.tag ∧ tm'.many = tm.many ∧ tm'.st = tm.st) (hg : γ'.todo = γ.todo ∧ γ'.back = γ.back ∧ γ'.wg = γ.wg) (hc : γ'.cnt ≤ γ.cnt) (hp : Ph γ' tm' (ts.set j t')) : Toks γ' tm' (ts.set j t') := by
  have ht : t ∈ ts := List.mem_of_getElem? hj
  have e := h.same t ht h25
  refine ⟨fun x hx h5 => ?_, fun x hx => ?_, fun h12 => ?_, Nat.le_trans hc h.le, hp⟩
  · rcases List.mem_or_eq_of_mem_set hx with hx | rfl
    · have := h.same x hx h5
      exact ⟨this.1.trans hm.1.symm, this.2.1.trans hm.2.1.symm, this.2.2.1.trans hm.2.2.1.symm, this.2.2.2.1.trans hm.2.2.2.1.symm, this.2.2.2.2.trans hm.2.2.2.2.1.symm⟩
    · exact ⟨(hs.1.trans e.1).trans hm.1.symm, (hs.2.1.trans e.2.1).trans hm.2.1.symm, (hs.2.2.1.trans e.2.2.1).trans hm.2.2.1.symm, (hs.2.2.2.1.trans e.2.2.2.1).trans hm.2.2.2.1.symm, (hs.2.2.2.2.trans e.2.2.2.2).trans hm.2.2.2.2.1.symm⟩
  · rcases List.mem_or_eq_of_mem_set hx with hx | rfl
    · exact h.sts x hx
    · exact hs'
  · have := h.main (by rw [← hm.2.2.2.2.2]; exact h12)
    exact ⟨(hm.1.trans this.1).trans hg.1.symm, (hm.2.1.trans this.2.1).trans hg.2.1.symm, (hm.2.2.1.trans this.2.2).trans hg.2.2.symm⟩
theorem countP_mid (p : Tk → Bool) (a b : List Tk) (t : Tk) : (a ++ t :: b).countP p = a.countP p + b.countP p + (if p t = true then 1 else 0) := by
  rw [List.countP_append, List.countP_cons]; omega
theorem mem_mid {a b : List Tk} {t t' x : Tk} (h : x ∈ a ++ t' :: b) : x = t' ∨ x ∈ a ++ t :: b := by
  simp only [List.mem_append, List.mem_cons] at h ⊢
  rcases h with h | h | h
  · exact .inr (.inl h)
  · exact .inl h
  · exact .inr (.inr (.inr h))
theorem busy_mid (a b : List Tk) (t : Tk) : busy (a ++ t :: b) = busy a ++ ((if is21 t then [t.a] else []) ++ busy b) := by
  simp only [busy, List.filter_append, List.filter_cons, List.map_append]
  split <;> simp
/-- it takes a task -/
theorem Toks.take {γ : Gm} {tm t : Tk} {ts : List Tk} {j : Nat} (h : Toks γ tm ts) (hm : tm.st = 0) (hj : ts[j]? = some t) (ht : t.st = 20) (ha : tm.a < tm.many) : Toks γ { tm with a := tm.a + 1, l := tm.a :: tm.l } (ts.set j { t with st := 21, a := tm.a, b := tm.a + 1 }) := by
  refine h.setW hj (by omega) ⟨rfl, rfl, rfl, rfl, rfl⟩ (by simp) ⟨rfl, rfl, rfl, rfl, rfl, rfl⟩ ⟨rfl, rfl, rfl⟩ (Nat.le_refl _) ?_
  obtain ⟨a, b, rfl, hset, _⟩ := set_parts hj
  rw [hset]
  rcases h.ph with ⟨hs, a1, b1, c1, d1, e1, f1, g1, g2, g3⟩ | ⟨hs, _⟩ | ⟨hs, _⟩ | ⟨hs, _⟩ | ⟨hs, _⟩ <;> (try (exfalso; omega))
  refine .inl ⟨hs, a1, b1, c1, fun x hx => ?_, ?_, f1, ?_, by simp; omega, by simp; omega, fun x hx h5 => ?_⟩
  · rcases mem_mid (t := t) hx with rfl | hx
    · exact .inr (.inl rfl)
    · exact d1 x hx
  · rw [countP_mid] at e1 ⊢
    simp [up20, ht] at e1 ⊢
    exact e1
  · rw [busy_mid] at g1 ⊢
    simp [is21, ht] at g1 ⊢
    exact List.perm_middle.trans (g1.cons _)
  · rcases mem_mid (t := t) hx with rfl | hx
    · exact Nat.le_refl _
    · exact Nat.le_trans (g3.2 x hx h5) (Nat.le_succ _)
/-- it gives what it made -/
theorem Toks.give {γ : Gm} {tm t : Tk} {ts : List Tk} {j : Nat} (h : Toks γ tm ts) (hm : tm.st = 0) (hj : ts[j]? = some t) (ht : t.st = 21) : t.a ∈ tm.l ∧ Toks γ { tm with b := tm.b + 1, l := tm.l.erase t.a } (ts.set j { t with st := 20 }) := by
  obtain ⟨a, b, e, hset, _⟩ := set_parts hj
  rcases h.ph with ⟨hs, a1, b1, c1, d1, e1, f1, g1, g2, g3⟩ | ⟨hs, _⟩ | ⟨hs, _⟩ | ⟨hs, _⟩ | ⟨hs, _⟩ <;> (try (exfalso; omega))
  have hb : busy ts = busy a ++ ([t.a] ++ busy b) := by rw [e, busy_mid]; simp [is21, ht]
  have hl : List.Perm (t.a :: (busy a ++ busy b)) tm.l := by
    refine List.Perm.trans ?_ g1
    rw [hb]
    exact List.perm_middle.symm
  have hmem : t.a ∈ tm.l := hl.mem_iff.1 (by simp)
  refine ⟨hmem, h.setW hj (by omega) ⟨rfl, rfl, rfl, rfl, rfl⟩ (by simp) ⟨rfl, rfl, rfl, rfl, rfl, rfl⟩ ⟨rfl, rfl, rfl⟩ (Nat.le_refl _) ?_⟩
  rw [hset]
  refine .inl ⟨hs, a1, b1, c1, fun x hx => ?_, ?_, f1, ?_, ?_, g3.1, fun x hx h5 => ?_⟩
  · rcases mem_mid (t := t) hx with rfl | hx
    · exact .inl rfl
    · exact d1 x (e ▸ hx)
  · rw [e, countP_mid] at e1
    rw [countP_mid]
    simp [up20, ht] at e1 ⊢
    exact e1
  · rw [busy_mid]
    simp only [is21, Nat.reduceBEq, Bool.false_eq_true, if_false, List.nil_append]
    have := hl.erase t.a
    simpa using this
  · simp only [List.length_erase_of_mem hmem]
    have : 1 ≤ tm.l.length := List.length_pos_iff.2 (List.ne_nil_of_mem hmem)
    omega
  · rcases mem_mid (t := t) hx with rfl | hx
    · exact g3.2 t (e ▸ List.mem_append_right _ (List.mem_cons_self ..)) (by omega)
    · exact g3.2 x (e ▸ hx) h5
/-- what comes is no less than what it had -/
theorem Toks.low {γ : Gm} {tm t : Tk} {ts : List Tk} (h : Toks γ tm ts) (hm : tm.st = 0) (ht : t ∈ ts) (h25 : t.st ≠ 25) : t.b ≤ tm.a := by
  rcases h.ph with ⟨hs, a1, b1, c1, d1, e1, f1, g1, g2, g3⟩ | ⟨hs, _⟩ | ⟨hs, _⟩ | ⟨hs, _⟩ | ⟨hs, _⟩ <;> (try (exfalso; omega))
  exact g3.2 t ht h25
/-- it finds nothing more to do -/
theorem Toks.shut {γ : Gm} {tm t : Tk} {ts : List Tk} {j : Nat} (h : Toks γ tm ts) (hc : γ.closed = true) (hj : ts[j]? = some t) (ht : t.st = 20) : Toks γ tm (ts.set j { t with st := 22 }) := by
  refine h.setW hj (by omega) ⟨rfl, rfl, rfl, rfl, rfl⟩ (by simp) ⟨rfl, rfl, rfl, rfl, rfl, rfl⟩ ⟨rfl, rfl, rfl⟩ (Nat.le_refl _) ?_
  obtain ⟨a, b, e, hset, _⟩ := set_parts hj
  have hmem : t ∈ ts := List.mem_of_getElem? hj
  rw [hset]
  have cu : (a ++ { t with st := 22 } :: b).countP up20 = ts.countP up20 := by rw [e, countP_mid, countP_mid]; simp [up20, ht]
  have c27 : (a ++ { t with st := 22 } :: b).countP is27 = ts.countP is27 := by rw [e, countP_mid, countP_mid]; simp [is27, ht]
  have c28 : (a ++ { t with st := 22 } :: b).countP is28 = ts.countP is28 := by rw [e, countP_mid, countP_mid]; simp [is28, ht]
  rcases h.ph with ⟨hs, a1, _⟩ | ⟨hs, a1, b1, c1, d1, e1, f1⟩ | ⟨hs, a1, n21, hd⟩ | ⟨hs, _, _, _, _, e1⟩ | ⟨hs, e1⟩
  · rw [a1] at hc; cases hc
  · refine .inr (.inl ⟨hs, a1, b1, c1, fun x hx => ?_, by rw [cu]; exact e1, f1⟩)
    rcases mem_mid (t := t) hx with rfl | hx
    · simp
    · exact d1 x (e ▸ hx)
  · refine .inr (.inr (.inl ⟨hs, a1, fun x hx => ?_, by rw [cu, c27, c28]; exact hd⟩))
    rcases mem_mid (t := t) hx with rfl | hx
    · simp
    · exact n21 x (e ▸ hx)
  · have := e1 t hmem; omega
  · have := e1 t hmem; omega
set_option maxHeartbeats 4000000 in
/-- it goes on towards its end -/
theorem Toks.late {γ γ' : Gm} {tm t t' : Tk} {ts : List Tk} {j : Nat} {es : Array Event} (h : Toks γ tm ts) (hj : ts[j]? = some t) (h25 : t.st ≠ 25) (m : Mv t γ t' γ' es ∨ t.st = 22 ∧ t' = { t with st := 23 } ∧ γ' = γ) : Toks γ' tm (ts.set j t') := by
  have hmem : t ∈ ts := List.mem_of_getElem? hj
  obtain ⟨a, b, e, hset, _⟩ := set_parts hj
  have hst := h.sts t hmem
  have key : ∀ (x : Tk), (∀ p, (a ++ x :: b).countP p = a.countP p + b.countP p + (if p x = true then 1 else 0)) := fun x p => countP_mid p a b x
  have k0 := key t
  rw [← e] at k0
  have hall : ∀ {Q : Tk → Prop} {x : Tk}, (∀ y ∈ ts, Q y) → Q x → ∀ y ∈ a ++ x :: b, Q y := fun hq hx y hy => by
    rcases mem_mid (t := t) hy with rfl | hy
    · exact hx
    · exact hq y (e ▸ hy)
  have fin : ∀ (t' : Tk) (γ' : Gm), (t'.todo = t.todo ∧ t'.back = t.back ∧ t'.wg = t.wg ∧ t'.tag = t.tag ∧ t'.many = t.many) → (t'.st = 20 ∨ t'.st = 21 ∨ t'.st = 22 ∨ t'.st = 23 ∨ t'.st = 24 ∨ t'.st = 25 ∨ t'.st = 27 ∨ t'.st = 28) → (γ'.todo = γ.todo ∧ γ'.back = γ.back ∧ γ'.wg = γ.wg) → γ'.cnt ≤ γ.cnt → Ph γ' tm (a ++ t' :: b) → Toks γ' tm (ts.set j t') := fun t' γ' h1 h2 h3 h4 h5 =>
    h.setW hj h25 h1 h2 ⟨rfl, rfl, rfl, rfl, rfl, rfl⟩ h3 h4 (by rw [hset]; exact h5)
  have k1 := k0 up20
  have k2 := k0 is27
  have k3 := k0 is28
  rcases m with m | ⟨h22, rfl, rfl⟩
  · cases m
    case idle => rw [hset, ← e]; exact h
    all_goals (try (exfalso; omega))
    case dis23 h1 =>
      refine fin _ _ ⟨rfl, rfl, rfl, rfl, rfl⟩ (by simp) ⟨rfl, rfl, rfl⟩ (Nat.le_refl _) ?_
      simp [up20, is27, is28, h1] at k1 k2 k3
      rcases h.ph with ⟨hs, a1, b1, c1, d1, _⟩ | ⟨hs, a1, b1, c1, d1, e1, f1⟩ | ⟨hs, a1, n21, hd⟩ | ⟨hs, _, _, _, _, e1⟩ | ⟨hs, e1⟩
      · have := d1 t hmem; omega
      · refine .inr (.inl ⟨hs, a1, b1, c1, hall d1 (by simp), ?_, f1⟩)
        rw [key, if_pos (by rfl)]; (try dsimp only); omega
      · refine .inr (.inr (.inl ⟨hs, a1, hall n21 (by simp), ?_⟩))
        rw [key, key, key, if_pos (by rfl), if_neg (by simp [is27]), if_neg (by simp [is28])]; (try dsimp only); omega
      · have := e1 t hmem; omega
      · have := e1 t hmem; omega
    case down h1 h2 =>
      refine fin _ _ ⟨rfl, rfl, rfl, rfl, rfl⟩ (by simp) ⟨rfl, rfl, rfl⟩ (by simp) ?_
      simp [up20, is27, is28, h1] at k1 k2 k3
      rcases h.ph with ⟨hs, a1, b1, c1, d1, _⟩ | ⟨hs, a1, b1, c1, d1, e1, f1⟩ | ⟨hs, a1, n21, hd⟩ | ⟨hs, _, _, _, _, e1⟩ | ⟨hs, e1⟩
      · have := d1 t hmem; omega
      · refine .inr (.inl ⟨hs, a1, b1, c1, hall d1 (by simp), ?_, ?_⟩)
        · rw [key, if_neg (by simp [up20])]; (try dsimp only); omega
        · show if tm.st = 7 then γ.cnt - 1 ≤ tm.a ∧ 1 ≤ tm.a else γ.cnt - 1 ≤ tm.b
          by_cases h7 : tm.st = 7
          · rw [if_pos h7] at f1 ⊢; omega
          · rw [if_neg h7] at f1 ⊢; omega
      · refine .inr (.inr (.inl ⟨hs, a1, hall n21 (by simp), ?_⟩))
        rw [key, key, key, if_neg (by simp [up20]), if_neg (by simp [is27]), if_neg (by simp [is28])]; (try dsimp only); omega
      · have := e1 t hmem; omega
      · have := e1 t hmem; omega
    case last h1 h2 h3 =>
      refine fin _ _ ⟨rfl, rfl, rfl, rfl, rfl⟩ (by simp) ⟨rfl, rfl, rfl⟩ (by simp) ?_
      simp [up20, is27, is28, h1] at k1 k2 k3
      rcases h.ph with ⟨hs, a1, b1, c1, d1, _⟩ | ⟨hs, a1, b1, c1, d1, e1, f1⟩ | ⟨hs, a1, n21, hd⟩ | ⟨hs, _, _, _, _, e1⟩ | ⟨hs, e1⟩
      · omega
      · omega
      · refine .inr (.inr (.inl ⟨hs, a1, hall n21 (by simp), ?_⟩))
        rw [key, key, key, if_neg (by simp [up20]), if_pos (by rfl), if_neg (by simp [is28])]; (try dsimp only); omega
      · omega
      · have := e1 t hmem; omega
    case look27 h1 => rw [hset, ← e]; exact h
    case reset h1 =>
      refine fin _ _ ⟨rfl, rfl, rfl, rfl, rfl⟩ (by simp) ⟨rfl, rfl, rfl⟩ (Nat.le_refl _) ?_
      simp [up20, is27, is28, h1] at k1 k2 k3
      rcases h.ph with ⟨hs, a1, b1, c1, d1, _⟩ | ⟨hs, a1, b1, c1, d1, e1, f1⟩ | ⟨hs, a1, n21, hd⟩ | ⟨hs, _, _, _, _, e1⟩ | ⟨hs, e1⟩
      · have := d1 t hmem; omega
      · have := d1 t hmem; omega
      · refine .inr (.inr (.inl ⟨hs, a1, hall n21 (by simp), ?_⟩))
        rw [key, key, key, if_neg (by simp [up20]), if_neg (by simp [is27]), if_pos (by rfl)]; (try dsimp only); omega
      · have := e1 t hmem; omega
      · have := e1 t hmem; omega
    case wake h1 =>
      refine fin _ _ ⟨rfl, rfl, rfl, rfl, rfl⟩ (by simp) ⟨rfl, rfl, rfl⟩ (Nat.le_refl _) ?_
      simp [up20, is27, is28, h1] at k1 k2 k3
      rcases h.ph with ⟨hs, a1, b1, c1, d1, _⟩ | ⟨hs, a1, b1, c1, d1, e1, f1⟩ | ⟨hs, a1, n21, hd⟩ | ⟨hs, _, _, _, _, e1⟩ | ⟨hs, e1⟩
      · have := d1 t hmem; omega
      · have := d1 t hmem; omega
      · refine .inr (.inr (.inl ⟨hs, a1, hall n21 (by simp), ?_⟩))
        rw [key, key, key, if_neg (by simp [up20]), if_neg (by simp [is27]), if_neg (by simp [is28])]; (try dsimp only); omega
      · have := e1 t hmem; omega
      · have := e1 t hmem; omega
  · refine fin _ _ ⟨rfl, rfl, rfl, rfl, rfl⟩ (by simp) ⟨rfl, rfl, rfl⟩ (Nat.le_refl _) ?_
    simp [up20, is27, is28, h22] at k1 k2 k3
    rcases h.ph with ⟨hs, a1, b1, c1, d1, _⟩ | ⟨hs, a1, b1, c1, d1, e1, f1⟩ | ⟨hs, a1, n21, hd⟩ | ⟨hs, _, _, _, _, e1⟩ | ⟨hs, e1⟩
    · have := d1 t hmem; omega
    · refine .inr (.inl ⟨hs, a1, b1, c1, hall d1 (by simp), ?_, f1⟩)
      rw [key, if_pos (by rfl)]; (try dsimp only); omega
    · refine .inr (.inr (.inl ⟨hs, a1, hall n21 (by simp), ?_⟩))
      rw [key, key, key, if_pos (by rfl), if_neg (by simp [is27]), if_neg (by simp [is28])]; (try dsimp only); omega
    · have := e1 t hmem; omega
    · have := e1 t hmem; omega
/-- one more is started -/
theorem Toks.born {γ : Gm} {tm : Tk} {ts : List Tk} (h : Toks γ tm ts) (h3 : tm.st = 3) : Toks γ { tm with st := 0, n := tm.n + 1 } (ts ++ [{ tm with st := 20 }]) := by
  refine ⟨fun t ht h25 => ?_, fun t ht => ?_, fun _ => h.main (by omega), h.le, ?_⟩
  · rcases List.mem_append.1 ht with ht | ht
    · exact h.same t ht h25
    · simp at ht; subst ht; exact ⟨rfl, rfl, rfl, rfl, rfl⟩
  · rcases List.mem_append.1 ht with ht | ht
    · exact h.sts t ht
    · simp at ht; subst ht; simp
  · rcases h.ph with ⟨hs, a1, b1, c1, d1, e1, f1, g1, g2, g3⟩ | ⟨hs, _⟩ | ⟨hs, _⟩ | ⟨hs, _⟩ | ⟨hs, _⟩ <;> (try (exfalso; omega))
    simp [h3] at f1
    refine .inl ⟨.inl rfl, a1, b1, c1, fun t ht => ?_, ?_, by simp [f1], ?_, g2, g3.1, fun t ht h5 => ?_⟩
    · rcases List.mem_append.1 ht with ht | ht
      · exact d1 t ht
      · simp at ht; subst ht; exact .inl rfl
    · simp [List.countP_append, e1, up20]
    · simpa [busy, is21, List.filter_append] using g1
    · rcases List.mem_append.1 ht with ht | ht
      · exact g3.2 t ht h5
      · simp at ht; subst ht; show tm.b ≤ tm.a; omega
/-- a new group -/
theorem Toks.begin {γ γ' : Gm} {tm tm' : Tk} {ts : List Tk} (h : Toks γ tm ts) (h12 : tm.st = 12) (h0 : tm'.st = 0) (hn : tm'.n = 0) (ha : tm'.a = 0) (hb : tm'.b = 0) (hl : tm'.l = []) (hm : tm'.todo = γ'.todo ∧ tm'.back = γ'.back ∧ tm'.wg = γ'.wg)
    (hg : γ'.cnt = 0 ∧ γ'.wt = 0 ∧ γ'.sem = 0 ∧ γ'.closed = false) : Toks γ' tm' ts := by
  have h25 : ∀ t ∈ ts, t.st = 25 := by
    rcases h.ph with ⟨hs, _⟩ | ⟨hs, _⟩ | ⟨hs, _⟩ | ⟨hs, _⟩ | ⟨_, hs⟩ <;> (try (exfalso; omega))
    exact hs
  refine ⟨fun t ht h5 => absurd (h25 t ht) h5, h.sts, fun _ => hm, by omega, .inl ⟨.inl h0, hg.2.2.2, hg.2.1, hg.2.2.1, fun t ht => .inr (.inr (h25 t ht)), ?_, by simp [h0, hn, hg.1], ?_, by simp [ha, hb, hl], by omega, fun t ht h5 => absurd (h25 t ht) h5⟩⟩
  · rw [hn, List.countP_eq_zero]; intro t ht; simp [up20, h25 t ht]
  · have : busy ts = [] := by
      simp only [busy, List.map_eq_nil_iff, List.filter_eq_nil_iff]
      intro t ht; simp [is21, h25 t ht]
    rw [this, hl]
end Go.HL
end

/-! QKCm -/
section
namespace Go.HL
set_option linter.unusedSectionVars false
variable [Tasks]
open Go Go.Conc
set_option linter.unusedVariables false
set_option linter.unusedSectionVars false
set_option linter.unusedSimpArgs false

theorem choose_some {P : Program} {q : Question} {m : Nat} (w : World) (hq : q = .select m ∨ ∃ s, q = .extern s m) (hm : 0 < m) : ∃ n d, (choose q).run P w = .ok n (w.at d) ∧ n < m := by
  have hc : ∀ x, q.cut x < m := by
    intro x
    rcases hq with rfl | ⟨s, rfl⟩ <;> simp only [Question.cut]
    · exact Nat.mod_lt _ hm
    · split <;> first | omega | exact Nat.mod_lt _ hm
  by_cases hf : q.forced = true
  · exact ⟨0, w.drawn, by simp [choose, Sem.run, hf, World.at], hm⟩
  · exact ⟨_, w.drawn + 1, by simp [choose, Sem.run, hf, World.at]; rfl, hc _⟩
/-- no room, and open wherever one sends -/
def Unb (w : World) (cc : CommCase) : Prop := cc.chan = .chan none ∨ ∃ c s closed, cc.chan = .chan (some c) ∧ w.heap[c]? = some (.chan 0 #[] closed s s false) ∧ (cc.send.isSome = true → closed = false)
theorem Unb.made {w : World} {cc : CommCase} (h : Unb w cc) : illMade w cc = false := by
  rcases h with h | ⟨c, s, closed, h, h2, _⟩ <;> simp [illMade, h, *]
def meetOps (me other : MemAct → MemOp) (c s : Nat) (snd : Bool) : Array MemOp :=
  if snd then #[me (.send c s), other (.recv c s 0), me (.sendDone c s), other (.recvDone c s)] else #[other (.send c s), me (.recv c s 0), other (.sendDone c s), me (.recvDone c s)]
section
variable {P : Program} {gs : Array Goroutine} {w : World} {sl : Option (Nat × Nat)} {i : Nat} {g g₂ : Goroutine} {cases : Array CommCase} {shape : CommShape}
theorem crowd_any (hi : gs[i]? = some g) (h : stepG P (i == 0) g w = .comm g₂ cases true shape w #[]) (hm : ∀ cc ∈ cases, Unb w cc) :
    ((∀ cc ∈ cases, ways w (gs.setIfInBounds i ph) cc = []) ∧ runT P (crowd gs w sl) i = (.next (crowd (gs.setIfInBounds i (parked g₂ cases shape)) w sl), #[])) ∨
    (∃ (k : Nat) (cc : CommCase) (c s d : Nat), cases[k]? = some cc ∧ cc.send = none ∧ cc.chan = .chan (some c) ∧ w.heap[c]? = some (.chan 0 #[] true s s false) ∧ partners (gs.setIfInBounds i ph) c true = [] ∧
      runT P (crowd gs w sl) i = (.next (crowd (gs.setIfInBounds i (g₂.finishComm P cases shape k cc.zero false)) (w.at d) sl), #[{ g := i, fn := g₂.frame.fn, pos := g₂.frame.place, act := .recvClosed c }])) ∨
    (∃ (k : Nat) (cc : CommCase) (c s : Nat) (closed : Bool) (j kj d : Nat) (v v' : Value) (ok : Bool), cases[k]? = some cc ∧ cc.chan = .chan (some c) ∧ w.heap[c]? = some (.chan 0 #[] closed s s false) ∧ (j, kj) ∈ partners (gs.setIfInBounds i ph) c cc.send.isNone ∧
      (match cc.send with | some x => v = undef ∧ v' = x ∧ ok = false | none => v = offeredValue (gs.setIfInBounds i ph) j kj ∧ v' = undef ∧ ok = true) ∧
      runT P (crowd gs w sl) i = (.next (crowd ((finishPartner P (gs.setIfInBounds i ph) j kj v').setIfInBounds i (g₂.finishComm P cases shape k v ok)) ((w.at d).setChan c 0 #[] closed (s + 1) (s + 1) false) sl),
        meetOps (fun a => { g := i, fn := g₂.frame.fn, pos := g₂.frame.place, act := a }) (fun a => { g := j, fn := ((gs.setIfInBounds i ph).getD j default).frame.fn, pos := ((gs.setIfInBounds i ph).getD j default).frame.place, act := a }) c s cc.send.isSome)) := by
  have hr := runT_crowd_comm (sl := sl) hi h
  have hill : cases.any (illMade w) = false := any_ill fun cc hcc => (hm cc hcc).made
  generalize hst : gs.setIfInBounds i ph = st at *
  generalize hrd : ((cases.zipIdx.toList.map fun (c, k) => (k, c, ways w st c)).filter fun (_, _, ws) => !ws.isEmpty) = ready at *
  have hmem : ∀ x ∈ ready, cases[x.1]? = some x.2.1 ∧ x.2.2 = ways w st x.2.1 ∧ x.2.2 ≠ [] := by
    rintro ⟨k, c, ws⟩ hx
    rw [← hrd] at hx
    simp only [List.mem_filter, List.mem_map, Prod.mk.injEq, Prod.exists] at hx
    obtain ⟨⟨c', k', hm', rfl, rfl, rfl⟩, hne⟩ := hx
    have := Array.mem_zipIdx_iff_getElem?.1 (Array.mem_toList_iff.1 hm')
    exact ⟨by simpa using this, rfl, by simpa using hne⟩
  by_cases hnil : ready = []
  · refine .inl ⟨fun cc hcc => ?_, ?_⟩
    · apply Classical.byContradiction
      intro hne
      obtain ⟨k, hk, e⟩ := Array.mem_iff_getElem.1 hcc
      have : (k, cc, ways w st cc) ∈ ready := by
        rw [← hrd]
        simp only [List.mem_filter, List.mem_map, Prod.mk.injEq, Prod.exists]
        refine ⟨⟨cc, k, Array.mem_toList_iff.2 (Array.mem_zipIdx_iff_getElem?.2 (by simp [← e])), rfl, rfl, rfl⟩, by simpa using hne⟩
      rw [hnil] at this; cases this
    · rw [hr]
      unfold communicate
      have hill' : cases.any (fun c => match c.chan with | .chan none => false | .chan (some r) => !(w.heap[r]? matches some (.chan ..)) | _ => true) = false := hill
      simp only [hrd, hnil, List.isEmpty_nil, if_true, waitingAt, timerAhead_crowd, Bool.false_eq_true, if_false]
      rw [if_neg (by rw [Bool.not_eq_true]; exact hill')]
      simp [ofEvents_eq, crowd, parked, ← hst]
  · have hlen : 0 < ready.length := List.length_pos_iff.2 hnil
    obtain ⟨a, d1, ha, hal⟩ := choose_some (P := P) w (.inl rfl) hlen
    obtain ⟨⟨k, cc, ws⟩, hx⟩ : ∃ x, ready[a]? = some x := ⟨_, List.getElem?_eq_getElem hal⟩
    obtain ⟨hk, hws, hne⟩ := hmem _ (List.mem_of_getElem? hx)
    simp only at hk hws hne
    have hwl : 0 < ws.length := List.length_pos_iff.2 hne
    obtain ⟨b, d2, hb, hbl⟩ := choose_some (P := P) (w.at d1) (.inr ⟨ "which waiting goroutine is the partner", rfl⟩) hwl
    obtain ⟨way, hway⟩ : ∃ y, ws[b]? = some y := ⟨_, List.getElem?_eq_getElem hbl⟩
    have hwm : way ∈ ways w st cc := hws ▸ List.mem_of_getElem? hway
    have hgd : ready.getD a (0, default, []) = (k, cc, ws) := by simp [List.getD, hx]
    have hgw : ws.getD b .closed = way := by simp [List.getD, hway]
    have hpick : (do
        let a ← choose (.select ready.length)
        let (k, c, ws) := ready.getD a (0, default, [])
        let b ← choose (.extern "which waiting goroutine is the partner" ws.length)
        pure (k, c, ws.getD b .closed) : Sem (Nat × CommCase × Way)).run P w = .ok (k, cc, way) (w.at d2) := by
      rw [Sem.run_bind, ha]
      simp only [Result.andThen, hgd]
      rw [Sem.run_bind, hb]
      simp only [Result.andThen, hgw]
      rfl
    have hcm : Unb w cc := hm cc (Array.mem_of_getElem? hk)
    have hbody := hr
    unfold communicate at hbody
    have hill' : cases.any (fun c => match c.chan with | .chan none => false | .chan (some r) => !(w.heap[r]? matches some (.chan ..)) | _ => true) = false := hill
    rw [if_neg (by rw [Bool.not_eq_true]; exact hill')] at hbody
    simp only [hrd] at hbody
    rw [if_neg (by simpa using hnil), hpick] at hbody
    rcases hcm with hcm | ⟨c, s, closed, hch, hheap, hcl⟩
    · simp [ways, hcm] at hwm
    · have hheap2 : ∀ d, (w.at d).heap[c]? = some (.chan 0 #[] closed s s false) := fun _ => hheap
      cases hsnd : cc.send with
      | some x =>
        have hcf : closed = false := hcl (by simp [hsnd])
        subst hcf
        have hw2 : ∃ j kj, way = .partner j kj ∧ (j, kj) ∈ partners st c false := by
          simp only [ways, hch, hheap, hsnd, Bool.false_eq_true, if_false] at hwm
          cases hp : partners st c false with
          | nil => rw [hp] at hwm; simp at hwm
          | cons p ps =>
            rw [hp] at hwm
            simp only [List.mem_map, Prod.exists] at hwm
            obtain ⟨j, kj, h1, rfl⟩ := hwm
            exact ⟨j, kj, rfl, h1⟩
        obtain ⟨j, kj, rfl, hjk⟩ := hw2
        refine .inr (.inr ⟨k, cc, c, s, false, j, kj, d2, undef, x, false, hk, hch, hheap, by simpa [hsnd] using hjk, by simp [hsnd], ?_⟩)
        simp only [hch, hheap2, hsnd] at hbody
        rw [hbody]
        simp [ofEvents_eq, meetOps, crowd, World.setChan, hsnd]
      | none =>
        have hw2 : (way = .closed ∧ closed = true ∧ partners st c true = []) ∨ ∃ j kj, way = .partner j kj ∧ (j, kj) ∈ partners st c true := by
          simp only [ways, hch, hheap, hsnd, List.size_toArray, List.length_nil, gt_iff_lt, Nat.lt_irrefl, if_false] at hwm
          cases hp : partners st c true with
          | nil =>
            rw [hp] at hwm
            cases closed with
            | true => simp at hwm; exact .inl ⟨hwm, rfl, rfl⟩
            | false => simp at hwm
          | cons p ps =>
            rw [hp] at hwm
            simp only [List.mem_map, Prod.exists] at hwm
            obtain ⟨j, kj, h1, rfl⟩ := hwm
            exact .inr ⟨j, kj, rfl, h1⟩
        rcases hw2 with ⟨rfl, rfl, hp⟩ | ⟨j, kj, rfl, hjk⟩
        · refine .inr (.inl ⟨k, cc, c, s, d2, hk, hsnd, hch, hheap, hp, ?_⟩)
          simp only [hch, hheap2, hsnd] at hbody
          rw [hbody]
          simp [ofEvents_eq, crowd]
          rw [← hst]; simp
        · refine .inr (.inr ⟨k, cc, c, s, closed, j, kj, d2, offeredValue st j kj, undef, true, hk, hch, hheap, by simpa [hsnd] using hjk, by simp [hsnd], ?_⟩)
          simp only [hch, hheap2, hsnd] at hbody
          rw [hbody]
          simp [ofEvents_eq, meetOps, crowd, World.setChan, hsnd]
end
end Go.HL
end

/-! QKRk -/
section
namespace Go.HL
set_option linter.unusedSectionVars false
variable [Tasks]
open Go Go.Conc
set_option linter.unusedVariables false
set_option linter.unusedSectionVars false
set_option linter.unusedSimpArgs false

inductive Rank
  | z
  | mk (f : Nat → Goroutine → Heap → Rank)
def Tn : Nat → Rank
  | 0 => .z
  | n + 1 => .mk fun _ _ _ => Tn n
inductive StT (P : Program) (Y : Goroutine → Tk → Prop) (Z : Nat → Prop) : Goroutine → Tk → Prop
  | ctl {g g' : Goroutine} {t : Tk} : g.status = .running → g'.status = .running → t.st ≠ 25 → (∀ w γ, Shr γ w → Cmp t γ → OldW w → stepG P false g w = .go g' w #[]) → Y g' t → StT P Y Z g t
  | shared {g : Goroutine} {t : Tk} (K : Goroutine → Tk → Prop) : g.status = .running → t.st ≠ 25 →
      (∀ w γ, Shr γ w → Cmp t γ → OldW w → ∃ g' w' es t' γ', stepG P false g w = .go g' w' es ∧ g'.status = .running ∧ Mv t γ t' γ' es ∧ Wak P g γ γ' ∧ Shr γ' w' ∧ Only γ w w' ∧ K g' t') → (∀ g' t', K g' t' → Y g' t') → StT P Y Z g t
  | quit {g : Goroutine} {t : Tk} (n : Nat) : t.st = 25 → QuitsD P n 1 g → Z n → StT P Y Z g t
def TlR (P : Program) : Rank → Goroutine → Tk → Prop
  | .z, _, _ => False
  | .mk f, g, t => StT P (fun g' t' => TlR P (f 2 g' [[t'.at_]]) g' t') (fun n => f 2 g [] = Tn n) g t
open Classical in
noncomputable def FT (P : Program) : Nat → Goroutine → Heap → Rank := fun _ g L =>
  if h : ∃ r t, L = [[t.at_]] ∧ TlR P r g t then h.choose else if h : ∃ n, QuitsD P n 1 g then Tn h.choose else .z
theorem FT_tail {P : Program} {n : Nat} {r : Rank} {g : Goroutine} {t : Tk} (h : TlR P r g t) : TlR P (FT P n g [[t.at_]]) g t := by
  have hx : ∃ r t', [[t.at_]] = [[t'.at_]] ∧ TlR P r g t' := ⟨r, t, rfl, h⟩
  simp only [FT, dif_pos hx]
  obtain ⟨t', e, h'⟩ := hx.choose_spec
  have : t = t' := Tk.inj (by simpa using e)
  generalize hx.choose = r' at h' ⊢
  rwa [this]
theorem tl_rk {P : Program} {g : Goroutine} {t : Tk} (h : Tl P g t) : TlR P (.mk (FT P)) g t := by
  induction h with
  | ctl h1 h2 h3 h4 _ ih => exact .ctl h1 h2 h3 h4 (FT_tail ih)
  | shared K h1 h2 h3 _ ih => exact .shared K h1 h2 h3 fun g' t' hk => FT_tail (ih g' t' hk)
  | @quit g t n h1 h2 =>
    have hq : ∃ n, QuitsD P n 1 g := ⟨n, h2⟩
    refine .quit hq.choose h1 hq.choose_spec ?_
    have hn : ¬ ∃ r t, ([] : Heap) = [[t.at_]] ∧ TlR P r g t := fun ⟨_, _, e, _⟩ => by cases e
    simp only [FT, dif_neg hn, dif_pos hq]
inductive CmL (X : Bool → Goroutine → Heap → Prop) : Bool → Goroutine → Heap → Array CommCase → CommShape → Prop
  | recv {g : Goroutine} {L : Heap} (t : Tk) (z : Value) : t.st = 20 → t.at_ ∈ L.flatten →
      (∀ i L', t.b ≤ i → i < t.many → Upd L t.todo t.obj ({ t with st := 21, a := i, b := i + 1 } : Tk).obj L' → X false (Conc.served g (.tuple #[.int .i64 (i : Nat), .bool true])) L') →
      (∀ L', Upd L t.todo t.obj ({ t with st := 22 } : Tk).obj L' → X false (Conc.served g (.tuple #[z, .bool false])) L') → CmL X false g L #[rcase t.todo z] (.recv true)
  | send {g : Goroutine} {L L1 L' : Heap} (t : Tk) (v z : Value) (bl : List Blk) : t.st = 21 →
      Upd L t.todo t.obj ({ t with st := 20 } : Tk).obj L1 → LS (bl ++ L'.flatten) L1.flatten → (∀ p ∈ bl, pln p.2 = true) → Tasks.R t.tag t.a v bl → X false (Conc.served g undef) L' → CmL X false g L #[scase t.back v z] .send
  | select {g : Goroutine} {L : Heap} (t : Tk) (c0 : CommCase) (z : Value) : t.st = 0 → t.at_ ∈ L.flatten → t.b < t.many → 1 ≤ t.n →
      (c0 = (if t.a = t.many then { chan := .chan none, send := some (.int .i64 (t.a : Nat)), zero := .int .i64 0 } else scase t.todo (.int .i64 (t.a : Nat)) (.int .i64 0))) →
      (t.a < t.many → ∀ L', Upd L t.todo t.obj ({ t with a := t.a + 1, l := t.a :: t.l } : Tk).obj L' → X true (Conc.served g (.tuple #[goInt 0, .bool false, z])) L') →
      (∀ i v bl L', i ∈ t.l → Tasks.R t.tag i v bl → Upd L t.todo t.obj ({ t with b := t.b + 1, l := t.l.erase i } : Tk).obj L' → X true (Conc.served g (.tuple #[goInt 1, .bool true, v])) (bl :: L')) → CmL X true g L #[c0, rcase t.back z] .select
inductive StL (P : Program) (X : Bool → Goroutine → Heap → Prop) (Y : Goroutine → Tk → Prop) : Bool → Goroutine → Heap → Prop
  | own {main : Bool} {g : Goroutine} {L : Heap} (K : Goroutine → Heap → Prop) : g.status = .running →
      (∀ k w, Sat k w L → ∃ g' w' es L', stepG P main g w = .go g' w' es ∧ g'.status = .running ∧ Tr w w' L L' es ∧ NoX es ∧ Sat k w' L' ∧ K g' L') → (∀ g' L', K g' L' → X main g' L') → StL P X Y main g L
  | weak {main : Bool} {g : Goroutine} {L L' : Heap} : Wk L L' → X main g L' → StL P X Y main g L
  | shared {main : Bool} {g : Goroutine} {L : Heap} (t : Tk) (K : Goroutine → Heap → Prop) : g.status = .running → t.at_ ∈ L.flatten → t.st ≠ 12 →
      (∀ k w γ, Sat k w L → Shr γ w → Cmp t γ →
        (∃ g' w' es t' γ' L', stepG P main g w = .go g' w' es ∧ g'.status = .running ∧ Mv t γ t' γ' es ∧ Wak P g γ γ' ∧ Shr γ' w' ∧ Only γ w w' ∧ Upd L t.todo t.obj t'.obj L' ∧ K g' L') ∨
        (t.st = 9 ∧ γ.sem = 0 ∧ g.offers = none ∧ stepG P main g w = .go { g with status := .blocked } w #[])) →
      (∀ g' L', K g' L' → X main g' L') → StL P X Y main g L
  | lib {main : Bool} {g : Goroutine} {L : Heap} (t : Tk) (K : Goroutine → Heap → Prop) : g.status = .running → t.at_ ∈ L.flatten → t.st ≠ 12 →
      (∀ k w γ, Sat k w L → Shr γ w → Cmp t γ → ∃ g' w' es L', stepG P main g w = .go g' w' es ∧ g'.status = .running ∧ Tr w w' L L' es ∧ NoX es ∧ Sat k w' L' ∧ K g' L') → (∀ g' L', K g' L' → X main g' L') → StL P X Y main g L
  | rel {g : Goroutine} {L : Heap} (t : Tk) (K : Goroutine → Prop) : g.status = .running → t.st = 22 → t.at_ ∈ L.flatten →
      (∀ k w γ, Sat k w L → Shr γ w → Cmp t γ → OldW w → ∃ g', stepG P false g w = .go g' w #[evMk (.releaseMerge (stA t.wg))] ∧ g'.status = .running ∧ K g') → (∀ g', K g' → Y g' { t with st := 23 }) → StL P X Y false g L
  | begin {g : Goroutine} {L : Heap} {r : List Blk} (t t' : Tk) (c d u E : Nat) : t.st = 12 → t'.st = 0 → t'.todo = c → t'.back = d → t'.wg = u → t'.n = 0 → t'.a = 0 → t'.b = 0 → t'.l = [] →
      LS (t.at_ :: (c, .chan 0 #[] false 0 0 false) :: (d, .chan 0 #[] false 0 0 false) :: (u, wgObj Tasks.T 0 0 0) :: r) L.flatten → X true g [t'.at_ :: r] → StL P X Y true g L
  | go {g g' : Goroutine} {L L1 L' Lc : Heap} (t : Tk) (d : Deferred) : g.status = .running → g'.status = .running → t.st = 3 → (∀ k w, Sat k w L → stepG P true g w = .spawn g' (born P d) w #[]) →
      Upd L t.todo t.obj ({ t with st := 0, n := t.n + 1 } : Tk).obj L1 → Give L1 L' Lc { t with st := 20 } → X false (born P d) Lc → X true g' L' → StL P X Y true g L
  | odd {main : Bool} {g : Goroutine} {L : Heap} (t : Tk) : t.at_ ∈ L.flatten → (main = true ∧ 20 ≤ t.st ∨ main = false ∧ t.st ≤ 12) → StL P X Y main g L
  | comm {main : Bool} {g g0 : Goroutine} {L : Heap} {cases : Array CommCase} {shape : CommShape} : g.status = .running → g0.status = .running → (∀ k w, Sat k w L → stepG P main g w = .comm g0 cases true shape w #[]) →
      (∀ k w, Sat k w L → stepG P main g0 w = .comm g0 cases true shape w #[]) → CmL X main g0 L cases shape → StL P X Y main g L
def Rk (P : Program) (Φ : Goroutine → Heap → Prop) : Rank → Bool → Goroutine → Heap → Prop
  | .z, main, g, L => main = true ∧ Φ g L
  | .mk f, main, g, L => StL P (fun m g' L' => Rk P Φ (f (cond m 0 1) g' L') m g' L') (fun g' t' => TlR P (f 2 g' [[t'.at_]]) g' t') main g L
open Classical in
noncomputable def FA (P : Program) (Φ : Goroutine → Heap → Prop) : Nat → Goroutine → Heap → Rank
  | 0, g, L => if h : ∃ r, Rk P Φ r true g L then h.choose else .z
  | 1, g, L => if h : ∃ r, Rk P Φ r false g L then h.choose else .z
  | n, g, L => FT P n g L
theorem FA_at {P : Program} {Φ : Goroutine → Heap → Prop} {m : Bool} {g : Goroutine} {L : Heap} (h : ∃ r, Rk P Φ r m g L) : Rk P Φ (FA P Φ (cond m 0 1) g L) m g L := by
  cases m <;> simp only [FA, cond_true, cond_false, dif_pos h] <;> exact h.choose_spec
theorem lo_rk {P : Program} {Φ : Goroutine → Heap → Prop} {m : Bool} {Ψ : Goroutine → Heap → Prop} {g : Goroutine} {L : Heap} (h : Lo P m Ψ g L) : (m = true → Ψ = Φ) → (m = false → Ψ = fun _ _ => False) → ∃ r, Rk P Φ r m g L := by
  induction h with
  | @stop main Ψ g L h =>
    intro h1 h2
    cases main with
    | true => exact ⟨.z, rfl, h1 rfl ▸ h⟩
    | false => rw [h2 rfl] at h; exact h.elim
  | own K a b _ ih => intro h1 h2; exact ⟨.mk (FA P Φ), .own K a b fun g' L' hk => FA_at (ih g' L' hk h1 h2)⟩
  | weak a _ ih => intro h1 h2; exact ⟨.mk (FA P Φ), .weak a (FA_at (ih h1 h2))⟩
  | shared t K a b c d _ ih => intro h1 h2; exact ⟨.mk (FA P Φ), .shared t K a b c d fun g' L' hk => FA_at (ih g' L' hk h1 h2)⟩
  | lib t K a b c d _ ih => intro h1 h2; exact ⟨.mk (FA P Φ), .lib t K a b c d fun g' L' hk => FA_at (ih g' L' hk h1 h2)⟩
  | rel t K a c d e f => intro h1 h2; exact ⟨.mk (FA P Φ), .rel t K a c d e fun g' hk => FT_tail (n := 2) (tl_rk (f g' hk))⟩
  | @begin main Ψ g L r t t' c d u E a1 a2 a3 a4 a5 a6 a7 a8 a9 a10 _ ih =>
    intro h1 h2
    cases main with
    | true => exact ⟨.mk (FA P Φ), .begin t t' c d u E a1 a2 a3 a4 a5 a6 a7 a8 a9 a10 (FA_at (m := true) (ih h1 h2))⟩
    | false => exact ⟨.mk (FA P Φ), .odd t (a10.mem (by simp)) (.inr ⟨rfl, by omega⟩)⟩
  | @go main Ψ g g' L L1 L' Lc t d a1 a2 a3 a4 a5 a6 _ _ ih1 ih2 =>
    intro h1 h2
    cases main with
    | true => exact ⟨.mk (FA P Φ), .go t d a1 a2 a3 a4 a5 a6 (FA_at (m := false) (ih1 (fun h => by cases h) fun _ => rfl)) (FA_at (m := true) (ih2 h1 h2))⟩
    | false => exact ⟨.mk (FA P Φ), .odd t (by obtain ⟨l, r, e, _⟩ := a5; rw [e]; simp [Tk.at_]) (.inr ⟨rfl, by omega⟩)⟩
  | @recv main Ψ g L t z a1 a2 a3 a4 _ _ ih1 ih2 =>
    intro h1 h2
    cases main with
    | false => exact ⟨.mk (FA P Φ), .comm a1 a1 a4 a4 (.recv t z a2 a3 (fun i L' x0 x y => FA_at (m := false) (ih1 i L' x0 x y h1 h2)) fun L' x => FA_at (m := false) (ih2 L' x h1 h2))⟩
    | true => exact ⟨.mk (FA P Φ), .odd t a3 (.inl ⟨rfl, by omega⟩)⟩
  | @send main Ψ g L L1 L' t v z bl a1 a2 a3 a4 a5 a6 a7 _ ih =>
    intro h1 h2
    cases main with
    | false => exact ⟨.mk (FA P Φ), .comm a1 a1 a3 a3 (.send t v z bl a2 a4 a5 a6 a7 (FA_at (m := false) (ih h1 h2)))⟩
    | true => exact ⟨.mk (FA P Φ), .odd t (by obtain ⟨l, r, e, _⟩ := a4; rw [e]; simp [Tk.at_]) (.inl ⟨rfl, by omega⟩)⟩
  | @select main Ψ g L t c0 z a1 a2 a3 a4 a5 a6 a7 _ _ ih1 ih2 =>
    intro h1 h2
    cases main with
    | true => exact ⟨.mk (FA P Φ), .comm a1 a1 a7 a7 (.select t c0 z a2 a3 a4 a5 a6 (fun x L' y => FA_at (m := true) (ih1 x L' y h1 h2)) fun i v bl L' x y z => FA_at (m := true) (ih2 i v bl L' x y z h1 h2))⟩
    | false => exact ⟨.mk (FA P Φ), .odd t a3 (.inr ⟨rfl, by omega⟩)⟩
end Go.HL
end

/-! QKMa -/
section
namespace Go.HL
set_option linter.unusedSectionVars false
variable [Tasks]
open Go Go.Conc
set_option linter.unusedVariables false
set_option linter.unusedSectionVars false
set_option linter.unusedSimpArgs false

def Sh (γ : Gm) (b : Nat) : Prop := b = γ.todo ∨ b = γ.back ∨ b = γ.wg
/-- one of the crowd: the starter; one at work; one that has said its release; one that only leaves -/
inductive Gh
  | main (L : Heap) (t : Tk)
  | live (L : Heap) (t : Tk)
  | tail (t : Tk)
  | gone (t : Tk) (d : Nat)
def Gh.L : Gh → Heap
  | .main L _ => L
  | .live L _ => L
  | _ => []
def Gh.tk : Gh → Tk
  | .main _ t => t
  | .live _ t => t
  | .tail t => t
  | .gone t _ => t
def dfm (s : Nat) : Nat := if s = 1 ∨ s = 2 ∨ s = 6 ∨ s = 7 ∨ s = 8 ∨ s = 9 ∨ s = 10 then 1 else 0
def Gh.df : Gh → Nat
  | .main _ t => dfm t.st
  | .live _ _ => 0
  | .tail t => if t.st = 23 then 0 else 1
  | .gone _ d => d
def Gh.ok : Gh → Prop
  | .main _ t => t.st ≤ 12
  | .live _ t => 20 ≤ t.st ∧ t.st ≤ 22
  | .tail t => 23 ≤ t.st
  | .gone t _ => t.st = 25
def Gh.late : Gh → Bool
  | .tail _ => true
  | .gone _ _ => true
  | _ => false
section
variable (P : Program) (Φ : Goroutine → Heap → Prop)
def Park (γ : Gm) (r : Rank) (main : Bool) (g : Goroutine) (L : Heap) : Prop :=
  γ.closed = false ∧ ∃ f g0 cases shape, r = .mk f ∧ g = parked g0 cases shape ∧ g0.status = .running ∧ (∀ k w, Sat k w L → stepG P main g0 w = .comm g0 cases true shape w #[]) ∧ CmL (fun m g' L' => Rk P Φ (f (cond m 0 1) g' L') m g' L') main g0 L cases shape
def StG (γ : Gm) (r : Rank) (g : Goroutine) : Gh → Prop
  | .main L t => (g.status = .running ∧ Rk P Φ r true g L) ∨ Park P Φ γ r true g L ∨ (t.st = 9 ∧ γ.sem = 0 ∧ ∃ g0, g = { g0 with status := .blocked } ∧ g0.status = .running ∧ g0.offers = none ∧ Rk P Φ r true g0 L)
  | .live L t => (g.status = .running ∧ Rk P Φ r false g L) ∨ Park P Φ γ r false g L
  | .tail t => TlR P r g t
  | .gone t d => t.st = 25 ∧ ∃ n, r = Tn n ∧ QuitsD P n d g
end
/-- what counts of it happens ahead of something of the starter's -/
def HOk (t : Trace) (j : Nat) : Prop := ∀ i, t.g? i = some j → t.counts i → ∃ q, t.g? q = some 0 ∧ HappensBefore t i q
def Rl (γ : Gm) (t : Trace) (j : Nat) : Prop := ∃ r, ConcN.RelBy (stA γ.wg) t j r
def LfH (H : List Gh) (j : Nat) : Heap := ((H[j]?).map Gh.L).getD []
def PtH (H : List Gh) (j : Nat) : Prop := ∃ h, H[j]? = some h ∧ h.tk.st ≠ 25
theorem LfH_at {H : List Gh} {j : Nat} {h : Gh} (hj : H[j]? = some h) : LfH H j = h.L := by simp [LfH, hj]

structure Old (H : List Gh) (γ : Gm) (tm : Tk) (w : World) : Prop where
  same : ∀ b, Tasks.O b → w.heap[b]? = Tasks.W0.heap[b]?
  own : ∀ (j : Nat) h b, H[j]? = some h → InW h.L b → ¬ Tasks.O b
  sh : tm.st ≠ 12 → ∀ b, Sh γ b → ¬ Tasks.O b
  lt : ∀ b, Tasks.O b → b < w.heap.size
structure Iv (P : Program) (Φ : Goroutine → Heap → Prop) (k : Ctx) (γ : Gm) (rs : List Rank) (H : List Gh) (L0 : Heap) (tm : Tk) (ws : List Gh) (gs : Array Goroutine) (w : World) (t : Trace) : Prop where
  hd : H = .main L0 tm :: ws
  nl : ∀ h ∈ ws, ∀ L t, h ≠ .main L t
  gsz : gs.size = H.length
  rsz : rs.length = H.length
  st : ∀ (j : Nat) h r g, H[j]? = some h → rs[j]? = some r → gs[j]? = some g → StG P Φ γ r g h
  sat0 : Sat k w []
  sat : ∀ (j : Nat) h, H[j]? = some h → Sat k w h.L
  tok : ∀ (j : Nat) h, H[j]? = some h → ∀ p ∈ h.L.flatten, gho p.2 = true → p = h.tk.at_
  dis : ∀ (i j : Nat) a b x, i ≠ j → H[i]? = some a → H[j]? = some b → InW a.L x → ¬ InB b.L x
  sh : tm.st ≠ 12 → Shr γ w
  shB : tm.st ≠ 12 → ∀ (j : Nat) h x, H[j]? = some h → Sh γ x → ¬ InB h.L x
  toks : Toks γ tm (ws.map Gh.tk)
  ti : TI t H.length w.heap.size (LfH H) (fun b => tm.st ≠ 12 ∧ Sh γ b) (PtH H)
  deaf : ∀ (j : Nat) h, H[j]? = some h → Deaf t j = h.df
  ho : ∀ (j : Nat) h, H[j]? = some h → h.late = true → HOk t j ∨ (tm.st ≠ 12 ∧ Rl γ t j)
  ok : ∀ (j : Nat) h, H[j]? = some h → h.ok
  nm : ∀ g, gs[0]? = some g → g.status = .blocked → tm.st = 0 → ∀ (j : Nat) gj, j ≠ 0 → gs[j]? = some gj → gj.status = .blocked → tm.a = tm.many ∧ ∃ h, H[j]? = some h ∧ h.tk.st = 20
  old : Old H γ tm w

theorem Upd.mem {L L' : Heap} {b : Nat} {o o' : Obj} (h : Upd L b o o' L') : (b, o) ∈ L.flatten := by obtain ⟨l, r, e, _⟩ := h; rw [e]; simp
/-- a token is turned: what may be read and written stays -/
theorem Upd.gW {L L' : Heap} {b : Nat} {o o' : Obj} (h : Upd L b o o' L') (hg : gho o = true) (hg' : gho o' = true) (x : Nat) : InW L' x ↔ InW L x := by
  obtain ⟨l, r, e, e'⟩ := h
  constructor <;> rintro ⟨y, h1, h2⟩ <;> refine ⟨y, ?_, h2⟩
  · rw [e'] at h1; rw [e]
    simp only [List.mem_append, List.mem_cons, Prod.mk.injEq] at h1 ⊢
    rcases h1 with h1 | ⟨_, rfl⟩ | h1
    · exact .inl h1
    · rw [pln_gho h2] at hg'; cases hg'
    · exact .inr (.inr h1)
  · rw [e] at h1; rw [e']
    simp only [List.mem_append, List.mem_cons, Prod.mk.injEq] at h1 ⊢
    rcases h1 with h1 | ⟨_, rfl⟩ | h1
    · exact .inl h1
    · rw [pln_gho h2] at hg; cases hg
    · exact .inr (.inr h1)
theorem Upd.gB {L L' : Heap} {b : Nat} {o o' : Obj} (h : Upd L b o o' L') (hg : gho o = true) (hg' : gho o' = true) (x : Nat) : InB L' x ↔ InB L x := by
  obtain ⟨l, r, e, e'⟩ := h
  constructor <;> rintro ⟨y, h1, h2⟩ <;> refine ⟨y, ?_, h2⟩
  · rw [e'] at h1; rw [e]
    simp only [List.mem_append, List.mem_cons, Prod.mk.injEq] at h1 ⊢
    rcases h1 with h1 | ⟨_, rfl⟩ | h1
    · exact .inl h1
    · rw [h2] at hg'; cases hg'
    · exact .inr (.inr h1)
  · rw [e] at h1; rw [e']
    simp only [List.mem_append, List.mem_cons, Prod.mk.injEq] at h1 ⊢
    rcases h1 with h1 | ⟨_, rfl⟩ | h1
    · exact .inl h1
    · rw [h2] at hg; cases hg
    · exact .inr (.inr h1)
theorem Upd.sat {L L' : Heap} {b : Nat} {o o' : Obj} {k : Ctx} {w : World} (h : Upd L b o o' L') (hg : gho o = true) (hg' : gho o' = true) (hn : noView o' = true) (hs : Sat k w L) : Sat k w L' := by
  have h0 := h
  obtain ⟨l, r, e, e'⟩ := h
  have hm : ∀ p ∈ L'.flatten, p ∈ L.flatten ∨ p = (b, o') := fun p hp => by
    rw [e'] at hp; rw [e]
    simp only [List.mem_append, List.mem_cons] at hp ⊢
    rcases hp with hp | hp | hp
    · exact .inl (.inl hp)
    · exact .inr hp
    · exact .inl (.inr (.inr hp))
  refine ⟨hs.os, hs.out, hs.tape, fun p hp hpg => ?_, ?_, fun p hp => ?_, fun p hp => ?_⟩
  · rcases hm p hp with hp | rfl
    · exact hs.has p hp hpg
    · rw [hg'] at hpg; cases hpg
  · have := hs.nodup
    rw [e] at this; rw [e']
    simpa using this
  · rcases hm p hp with hp | rfl
    · exact hs.nv p hp
    · exact hn
  · rcases hm p hp with hp | rfl
    · exact hs.lt p hp
    · exact hs.lt (b, o) h0.mem
theorem Upd.gtok {L L' : Heap} {t t' : Tk} {tk : Tk} (h : Upd L t.todo t.obj t'.obj L') (htd : t'.todo = t.todo) (hk : ∀ p ∈ L.flatten, gho p.2 = true → p = tk.at_) (hs : (L.flatten.map (·.1)).Nodup) : tk = t ∧ ∀ p ∈ L'.flatten, gho p.2 = true → p = t'.at_ := by
  have h1 : t.at_ = tk.at_ := hk _ h.mem rfl
  have h2 := Tk.inj h1
  subst h2
  refine ⟨rfl, fun p hp hg => ?_⟩
  obtain ⟨l, r, e, e'⟩ := h
  rw [e'] at hp
  rw [e] at hs hk
  have hno : ∀ p ∈ l ++ r, gho p.2 = true → False := fun q hq hg => by
    have h3 : q ∈ l ++ (t.todo, t.obj) :: r := by
      rcases List.mem_append.1 hq with hq | hq
      · exact List.mem_append_left _ hq
      · exact List.mem_append_right _ (List.mem_cons_of_mem _ hq)
    have h4 := hk q h3 hg
    subst h4
    have hs2 := (List.Perm.map (·.1) (List.perm_middle (a := (t.todo, t.obj)) (l₁ := l) (l₂ := r))).nodup_iff.1 hs
    rw [List.map_cons, List.nodup_cons] at hs2
    exact hs2.1 (List.mem_map.2 ⟨_, hq, rfl⟩)
  simp only [List.mem_append, List.mem_cons] at hp
  rcases hp with hp | rfl | hp
  · exact (hno p (List.mem_append_left _ hp) hg).elim
  · exact Prod.ext htd.symm rfl
  · exact (hno p (List.mem_append_right _ hp) hg).elim
theorem CmL.token {X : Bool → Goroutine → Heap → Prop} {main : Bool} {g : Goroutine} {L : Heap} {cases : Array CommCase} {shape : CommShape} (h : CmL X main g L cases shape) : ∃ t : Tk, t.at_ ∈ L.flatten ∧ ((main = false ∧ (t.st = 20 ∨ t.st = 21)) ∨ main = true ∧ t.st = 0) ∧
    ∀ cc ∈ cases, cc.chan = .chan none ∨ (cc.chan = .chan (some t.todo) ∧ (t.st = 20 ∨ t.st = 0)) ∨ cc.chan = .chan (some t.back) := by
  cases h with
  | recv t z a b => exact ⟨t, b, .inl ⟨rfl, .inl a⟩, fun cc hc => by simp at hc; subst hc; exact .inr (.inl ⟨rfl, .inl a⟩)⟩
  | send t v z bl a b => exact ⟨t, b.mem, .inl ⟨rfl, .inr a⟩, fun cc hc => by simp at hc; subst hc; exact .inr (.inr rfl)⟩
  | select t c0 z a b c d e =>
    refine ⟨t, b, .inr ⟨rfl, a⟩, fun cc hc => ?_⟩
    simp at hc
    rcases hc with rfl | rfl
    · rw [e]
      split
      · exact .inl rfl
      · exact .inr (.inl ⟨rfl, .inr a⟩)
    · exact .inr (.inr rfl)
theorem woken_running {P : Program} {g g' o : Goroutine} {w : World} (h : o.status = .running ∨ o.status = .finished) : woken P g g' w o = o := by
  unfold woken
  split
  · exact again_running _ h
  · rfl
theorem TlR.status {P : Program} {r : Rank} {g : Goroutine} {t : Tk} (h : TlR P r g t) : g.status = .running ∨ g.status = .finished := by
  cases r with
  | z => exact h.elim
  | mk f =>
    cases h with
    | ctl a => exact .inl a
    | shared K a => exact .inl a
    | quit n a b => exact b.status
/-- the others, behind one's step -/
theorem StG.woken {P : Program} {Φ : Goroutine → Heap → Prop} {γ γ' : Gm} {r : Rank} {o g g' : Goroutine} {h : Gh} {w' : World} {tm' : Tk} {ts : List Tk} (hs : StG P Φ γ r o h) (ht : ∀ p ∈ h.L.flatten, gho p.2 = true → p = h.tk.at_) (hin : (∃ L t, h = .main L t ∧ t = tm') ∨ h.tk ∈ ts) (hsh : tm'.st ≠ 12 → Shr γ' w') (htk : Toks γ' tm' ts)
    (hw : Wak P g γ γ') (hg : g'.status = .running) : StG P Φ γ' r (Conc.woken P g g' w' o) h := by
  have hwk : mayWake P g = true → Conc.woken P g g' w' o = o.again w' := fun hm => by simp [Conc.woken, hm, hg]
  have hpark : ∀ (main : Bool) L, h.L = L → ((main = true ∧ ∃ t, h = .main L t ∧ t = tm') ∨ main = false ∧ h.tk ∈ ts) → Park P Φ γ r main o L → Park P Φ γ' r main (Conc.woken P g g' w' o) L ∨ ((Conc.woken P g g' w' o).status = .running ∧ Rk P Φ r main (Conc.woken P g g' w' o) L) := by
    rintro main L rfl hm ⟨hcl, f, g0, cases, shape, rfl, rfl, hr, hst, hcm⟩
    obtain ⟨t, h1, h2, h3⟩ := hcm.token
    have e : t = h.tk := Tk.inj (ht _ h1 rfl)
    have h25 : t.st ≠ 25 := by omega
    have hcmp : Cmp t γ' := by
      rcases hm with ⟨_, t', e', e2⟩ | ⟨_, hm⟩
      · have : h.tk = t' := by rw [e']; rfl
        rw [e, this, e2]
        refine htk.cmpM ?_
        have : tm' = t := by rw [← e2, e, this]
        rw [this]; omega
      · rw [e]; exact htk.cmpW hm (e ▸ h25)
    have h12 : tm'.st ≠ 12 := by
      rcases hm with ⟨_, t', e', e2⟩ | ⟨_, hm⟩
      · have : h.tk = t' := by rw [e']; rfl
        have : tm' = t := by rw [← e2, e, this]
        rw [this]; omega
      · exact htk.up hm (e ▸ h25)
    obtain ⟨⟨s1, ht1⟩, ⟨s2, ht2⟩, _⟩ := hsh h12
    cases hc : γ'.closed with
    | false =>
      rw [hc] at ht1
      have hag : (parked g0 cases shape).again w' = parked g0 cases shape := by
        unfold Goroutine.again
        simp only [parked]
        rw [if_neg]
        rw [Bool.not_eq_true, Array.any_eq_false]
        intro i hi
        rcases h3 cases[i] (Array.getElem_mem hi) with h3 | ⟨h3, _⟩ | h3
        · simp [h3]
        · simp [h3, hcmp.1, ht1]
        · simp [h3, hcmp.2.1, ht2]
      have hwo : Conc.woken P g g' w' (parked g0 cases shape) = parked g0 cases shape := by
        unfold Conc.woken
        split
        · exact hag
        · rfl
      rw [hwo]
      exact .inl ⟨hc, f, g0, cases, shape, rfl, rfl, hr, hst, hcm⟩
    | true =>
      rw [hwk (hw.2 hcl hc)]
      rw [hc] at ht1
      right
      have hst20 : t.st = 20 ∧ main = false := by
        have hcm2 := hcmp.2.2.2.2
        rcases h2 with ⟨hmf, h2 | h2⟩ | ⟨_, h2⟩
        · exact ⟨h2, hmf⟩
        · exfalso
          have hmem : t ∈ ts := by
            rcases hm with ⟨hm, _⟩ | ⟨_, hm⟩
            · rw [hm] at hmf; cases hmf
            · rw [e]; exact hm
          rcases htk.ph with ⟨hs, a, _⟩ | ⟨hs, _, _, _, d, _⟩ | ⟨hs, _, n21, _⟩ | ⟨hs, _, _, _, _, d⟩ | ⟨hs, d⟩
          · rw [a] at hc; cases hc
          · have := d t hmem; omega
          · exact n21 t hmem h2
          · have := d t hmem; omega
          · have := d t hmem; omega
        · simp [Cm, h2, hc] at hcm2
      obtain ⟨h20, rfl⟩ := hst20
      have hag : (parked g0 cases shape).again w' = { parked g0 cases shape with status := .running } := by
        unfold Goroutine.again
        simp only [parked]
        rw [if_pos]
        cases hcm with
        | recv t2 z a b =>
          have : t2 = t := Tk.inj ((ht _ b rfl).trans (ht _ h1 rfl).symm)
          subst this
          simp [rcase, hcmp.1, ht1]
        | send t2 v z bl a b =>
          have : t2 = t := Tk.inj ((ht _ b.mem rfl).trans (ht _ h1 rfl).symm)
          subst this
          omega
      rw [hag]
      refine ⟨rfl, ?_⟩
      refine StL.comm rfl hr (fun k w hs => ?_) hst hcm
      have := stepG_tries (P := P) (g := g0) (sh := shape) false cases w
      rw [this, show ({ g0 with status := .running } : Goroutine) = g0 by cases g0; simp at hr; simp [hr]]
      exact hst k w hs
  cases h with
  | main L t =>
    have hmt : t = tm' ∨ True := .inr trivial
    rcases hs with ⟨a, b⟩ | a | ⟨a, b, g0, rfl, c, d, e⟩
    · rw [woken_running (.inl a)]; exact .inl ⟨a, b⟩
    · rcases hin with ⟨L', t', e1, e2⟩ | hin
      · cases e1
        rcases hpark true L rfl (.inl ⟨rfl, t, rfl, e2⟩) a with h | h
        · exact .inr (.inl h)
        · exact .inl h
      · exfalso
        obtain ⟨hcl, f, g0, cases, shape, rfl, rfl, hr, hst, hcm⟩ := a
        obtain ⟨t2, h1, h2, _⟩ := hcm.token
        have e : t2 = t := Tk.inj (ht _ h1 rfl)
        have := htk.sts _ hin
        subst e
        simp only [Gh.tk] at this
        rcases h2 with ⟨h2, _⟩ | ⟨_, h2⟩
        · cases h2
        · omega
    · have hag : ({ g0 with status := .blocked } : Goroutine).again w' = g0 := by
        obtain ⟨f1, f2, f3, f4, f5⟩ := g0
        simp only at c d
        subst c d
        simp [Goroutine.again]
      by_cases hsm : γ'.sem = 0
      · unfold Conc.woken
        split
        · rw [hag]; exact .inl ⟨c, e⟩
        · exact .inr (.inr ⟨a, hsm, g0, rfl, c, d, e⟩)
      · have hs1 : γ'.sem = 1 := by
          rcases htk.ph with ⟨_, _, _, x, _⟩ | ⟨_, _, _, x, _⟩ | ⟨_, _, _, x⟩ | ⟨_, _, _, _, x, _⟩ | ⟨x, _⟩
          · omega
          · omega
          · omega
          · omega
          · rcases hin with ⟨L', t', e1, e2⟩ | hin
            · cases e1; subst e2; omega
            · have := htk.sts _ hin; simp only [Gh.tk] at this; omega
        rw [hwk (hw.1 b hs1), hag]
        exact .inl ⟨c, e⟩
  | live L t =>
    rcases hs with ⟨a, b⟩ | a
    · rw [woken_running (.inl a)]; exact .inl ⟨a, b⟩
    · rcases hin with ⟨_, _, e1, _⟩ | hin
      · cases e1
      rcases hpark false L rfl (.inr ⟨rfl, hin⟩) a with h | h
      · exact .inr h
      · exact .inl h
  | tail t =>
    have : TlR P r o t := hs
    rw [woken_running this.status]; exact hs
  | gone t d =>
    obtain ⟨_, n, _, hq⟩ := hs
    rw [woken_running hq.status]; exact ⟨by assumption, n, by assumption, hq⟩
end Go.HL
end

/-! QKMb -/
section
namespace Go.HL
set_option linter.unusedSectionVars false
variable [Tasks]
open Go Go.Conc
set_option linter.unusedVariables false
set_option linter.unusedSectionVars false
set_option linter.unusedSimpArgs false

theorem HOk.app {t u : Trace} {j : Nat} (h : HOk t j) (hu : ∀ i, t.size ≤ i → (t ++ u).g? i = some j → ¬ (t ++ u).counts i) : HOk (t ++ u) j := by
  intro i hg hc
  rcases Nat.lt_or_ge i t.size with hlt | hge
  · rw [g?_old hlt] at hg
    rw [counts_old hlt] at hc
    obtain ⟨q, h1, h2⟩ := h i hg hc
    refine ⟨q, ?_, hb_app u h2⟩
    obtain ⟨op, h3, _⟩ := Option.map_eq_some_iff.1 h1
    rw [g?_old (lt_size_of_getElem? h3)]; exact h1
  · exact absurd hc (hu i hge hg)
theorem Rl.app {γ γ' : Gm} {t u : Trace} {j : Nat} (h : Rl γ t j) (hw : γ'.wg = γ.wg) (hu : ∀ i, t.size ≤ i → (t ++ u).g? i = some j → ¬ (t ++ u).counts i) : Rl γ' (t ++ u) j := by
  obtain ⟨r, h⟩ := h
  unfold Rl
  rw [hw]
  exact ⟨r, h.app hu⟩
theorem new_op {t u : Trace} {i j : Nat} (hi : t.size ≤ i) (hg : (t ++ u).g? i = some j) : ∃ op ∈ u, (t ++ u)[i]? = some op ∧ op.g = j := by
  obtain ⟨op, h1, h2⟩ := Option.map_eq_some_iff.1 hg
  rcases getElem?_append_cases h1 with ⟨h3, _⟩ | ⟨_, h3⟩
  · omega
  · exact ⟨op, h3, h1, h2⟩
theorem not_counts_mute {t : Trace} {i : Nat} {op : MemOp} (h : t[i]? = some op) (ht : op.act.touch? = none) : ¬ t.counts i := by
  rintro ⟨x, hx, _⟩
  rw [show t.act? i = some op.act from act?_of h] at hx
  simp [ht] at hx
theorem late_stays {t u : Trace} {γ γ' : Gm} {tm tm' : Tk} {j : Nat} (h : HOk t j ∨ (tm.st ≠ 12 ∧ Rl γ t j)) (hw : γ'.wg = γ.wg) (h12 : tm.st ≠ 12 → tm'.st ≠ 12) (hu : ∀ i, t.size ≤ i → (t ++ u).g? i = some j → ¬ (t ++ u).counts i) : HOk (t ++ u) j ∨ (tm'.st ≠ 12 ∧ Rl γ' (t ++ u) j) := by
  rcases h with h | ⟨h1, h2⟩
  · exact .inl (h.app hu)
  · exact .inr ⟨h12 h1, h2.app hw hu⟩
theorem others_silent {t u : Trace} {i j : Nat} (hij : i ≠ j) (hu : ∀ op ∈ u, op.g = j) : ∀ n, t.size ≤ n → (t ++ u).g? n = some i → ¬ (t ++ u).counts n := fun n hn hg => by
  obtain ⟨op, h1, _, h3⟩ := new_op hn hg
  exact absurd (h3.symm.trans (hu op h1)) hij
theorem Zb {α : Type} {l : List α} {i j : Nat} {x y : α} (h : (l.set j x)[i]? = some y) : (i = j ∧ y = x) ∨ (i ≠ j ∧ l[i]? = some y) := by
  by_cases e : i = j
  · subst e
    rw [List.getElem?_set] at h
    simp at h
    obtain ⟨_, h⟩ := h
    exact .inl ⟨rfl, h.symm⟩
  · rw [List.getElem?_set_ne (fun q => e q.symm)] at h
    exact .inr ⟨e, h⟩
theorem LfH_set {H : List Gh} {j : Nat} {h h' : Gh} (hj : H[j]? = some h) : LfH (H.set j h') j = h'.L ∧ ∀ i, i ≠ j → LfH (H.set j h') i = LfH H i := by
  have hlt := (List.getElem?_eq_some_iff.1 hj).1
  refine ⟨by simp [LfH, hlt], fun i hi => by simp [LfH, List.getElem?_set_ne (fun q => hi q.symm)]⟩
theorem Sat.keep {k : Ctx} {w w' : World} {L : Heap} (h : Sat k w L) (h0 : Sat k w' []) (hs : w.heap.size ≤ w'.heap.size) (hk : ∀ b, InB L b → w'.heap[b]? = w.heap[b]?) : Sat k w' L :=
  ⟨h0.os, h0.out, h0.tape, fun p hp hg => by rw [hk p.1 ⟨p.2, hp, hg⟩]; exact h.has p hp hg, h.nodup, h.nv, fun p hp => Nat.lt_of_lt_of_le (h.lt p hp) hs⟩
theorem InB.lt {k : Ctx} {w : World} {L : Heap} {b : Nat} (h : Sat k w L) (hb : InB L b) : b < w.heap.size := let ⟨o, h1, _⟩ := hb; h.lt _ h1

theorem Iv.goStep {P : Program} {Φ : Goroutine → Heap → Prop} {k : Ctx} {γ γ' : Gm} {rs : List Rank} {H : List Gh} {L0 L0' : Heap} {tm tm' : Tk} {ws ws' : List Gh} {gs : Array Goroutine} {w w' : World} {t : Trace} {sl : Option (Nat × Nat)} {j : Nat} {h h' : Gh} {r r' : Rank} {g g' : Goroutine} {es : Array Event}
    (iv : Iv P Φ k γ rs H L0 tm ws gs w t) (hj : H[j]? = some h) (hr : rs[j]? = some r) (hg : gs[j]? = some g) (hstep : stepG P (j == 0) g w = .go g' w' es)
    (hH : H.set j h' = .main L0' tm' :: ws') (hnl : ∀ L t, j ≠ 0 → h' ≠ .main L t) (hsize : w.heap.size ≤ w'.heap.size)
    (hkeep : ∀ b, b < w.heap.size → ¬ InW h.L b → ¬ (tm.st ≠ 12 ∧ Sh γ b) → w'.heap[b]? = w.heap[b]?)
    (hsat0 : Sat k w' []) (hsat : Sat k w' h'.L) (htok : ∀ p ∈ h'.L.flatten, gho p.2 = true → p = h'.tk.at_) (hgr : Gr0 w.heap.size h.L h'.L)
    (hγ : γ'.todo = γ.todo ∧ γ'.back = γ.back ∧ γ'.wg = γ.wg) (h12 : tm.st = 12 → tm'.st = 12) (hshr : tm'.st ≠ 12 → Shr γ' w') (htoks : Toks γ' tm' (ws'.map Gh.tk)) (hpt : h'.tk.st ≠ 25 → h.tk.st ≠ 25)
    (hev : ∀ op ∈ MemOp.ofEvents j g.frame.fn g.frame.place es, OkT h.L w.heap.size w'.heap.size (fun b => (tm.st ≠ 12 ∧ Sh γ b) ∧ PtH H j) j op)
    (hdf : deafBehind h.df es = h'.df)
    (hho : ∀ (i : Nat) x, (H.set j h')[i]? = some x → x.late = true → HOk (t ++ MemOp.ofEvents j g.frame.fn g.frame.place es) i ∨ (tm'.st ≠ 12 ∧ Rl γ' (t ++ MemOp.ofEvents j g.frame.fn g.frame.place es) i))
    (hnb : g'.status ≠ .blocked ∨ γ' = γ ∧ tm'.st = 9) (hna : g'.status = .blocked ∨ g'.status = .running ∨ (g'.status = .finished ∧ γ' = γ)) (hwak : Wak P g γ γ') (hok : h'.ok) (hst : StG P Φ γ' r' g' h') :
    runT P (crowd gs w sl) j = (.next (crowd ((gs.map (woken P g g' w')).setIfInBounds j g') w' sl), MemOp.ofEvents j g.frame.fn g.frame.place es) ∧
      Iv P Φ k γ' (rs.set j r') (H.set j h') L0' tm' ws' ((gs.map (woken P g g' w')).setIfInBounds j g') w' (t ++ MemOp.ofEvents j g.frame.fn g.frame.place es) := by
  refine ⟨runT_crowd_go hg hstep, ?_⟩
  have hlt : j < H.length := (List.getElem?_eq_some_iff.1 hj).1
  have hlen : (H.set j h').length = H.length := by simp
  have ug : ∀ op ∈ MemOp.ofEvents j g.frame.fn g.frame.place es, op.g = j := fun op hop => (hev op hop).1
  have hgr' : Gr0 w.heap.size h.L h'.L := hgr
  have hsh' : tm'.st ≠ 12 → tm.st ≠ 12 := fun a b => a (h12 b)
  have hSh : ∀ b, Sh γ' b ↔ Sh γ b := fun b => by simp [Sh, hγ.1, hγ.2.1, hγ.2.2]
  have hdis1 : ∀ i x b, i ≠ j → H[i]? = some x → InB x.L b → ¬ InW h.L b := fun i x b hij hi hb hw => iv.dis j i h x b (fun e => hij e.symm) hj hi hw hb
  have hget : ∀ (i : Nat) y, ((gs.map (woken P g g' w')).setIfInBounds j g')[i]? = some y → (i = j ∧ y = g') ∨ (i ≠ j ∧ ∃ o, gs[i]? = some o ∧ y = woken P g g' w' o) := by
    intro i y hy
    by_cases e : i = j
    · subst e
      rw [Array.getElem?_setIfInBounds_self_of_lt (by rw [Array.size_map, iv.gsz]; exact hlt)] at hy
      cases hy; exact .inl ⟨rfl, rfl⟩
    · rw [Array.getElem?_setIfInBounds_ne (fun q => e q.symm), Array.getElem?_map] at hy
      obtain ⟨o, h1, h2⟩ := Option.map_eq_some_iff.1 hy
      exact .inr ⟨e, o, h1, h2.symm⟩
  have hin : ∀ (i : Nat) x, i ≠ j → H[i]? = some x → (∃ L t, x = .main L t ∧ t = tm') ∨ x.tk ∈ ws'.map Gh.tk := by
    intro i x hij hi
    have : (H.set j h')[i]? = some x := by rw [List.getElem?_set_ne (fun q => hij q.symm)]; exact hi
    rw [hH] at this
    cases i with
    | zero => simp at this; exact .inl ⟨L0', tm', this.symm, rfl⟩
    | succ i => simp at this; exact .inr (List.mem_map.2 ⟨x, List.mem_of_getElem? this, rfl⟩)
  refine ⟨hH, ?_, by simp [iv.gsz], by simp [iv.rsz], ?_, hsat0, ?_, ?_, ?_, hshr, ?_, htoks, ?_, ?_, hho, ?_, ?_, ?_⟩
  · intro x hx L t' e
    obtain ⟨i, hi⟩ := List.getElem?_of_mem hx
    have : (H.set j h')[i + 1]? = some x := by rw [hH]; simpa using hi
    rcases Zb this with ⟨a, rfl⟩ | ⟨a, b⟩
    · exact hnl L t' (by omega) e
    · rw [iv.hd] at b
      simp at b
      exact iv.nl x (List.mem_of_getElem? b) L t' e
  · intro i x y o hi hri ho
    rcases hget i o ho with ⟨rfl, rfl⟩ | ⟨hij, o', h1, rfl⟩
    · rcases Zb hi with ⟨_, rfl⟩ | ⟨a, _⟩
      · rcases Zb hri with ⟨_, rfl⟩ | ⟨a, _⟩
        · exact hst
        · exact absurd rfl a
      · exact absurd rfl a
    · have hi' : H[i]? = some x := (Zb hi).resolve_left (fun a => hij a.1) |>.2
      have hr' : rs[i]? = some y := (Zb hri).resolve_left (fun a => hij a.1) |>.2
      have hso := iv.st i x y o' hi' hr' h1
      rcases hna with hb | hb | ⟨hb, hb2⟩
      · have hγγ : γ' = γ := (hnb.resolve_left fun a => a hb).1
        have : woken P g g' w' o' = o' := by simp [woken, hb]
        rw [this, hγγ]; exact hso
      · exact hso.woken (iv.tok i x hi') (hin i x hij hi') hshr htoks hwak hb
      · subst hb2
        by_cases hm : mayWake P g = true
        · have key := hso.woken (g := g) (g' := { g' with status := .running }) (w' := w') (iv.tok i x hi') (hin i x hij hi') hshr htoks hwak rfl
          have e : woken P g { g' with status := .running } w' o' = woken P g g' w' o' := by simp [woken, hb, hm]
          rw [e] at key; exact key
        · have : woken P g g' w' o' = o' := by simp [woken, hm]
          rw [this]; exact hso
  · intro i x hi
    rcases Zb hi with ⟨_, rfl⟩ | ⟨hij, hi'⟩
    · exact hsat
    · have hs := iv.sat i x hi'
      refine hs.keep hsat0 hsize fun b hb => hkeep b (hb.lt hs) (hdis1 i x b hij hi' hb) fun ⟨a, c⟩ => iv.shB a i x b hi' c hb
  · intro i x hi
    rcases Zb hi with ⟨_, rfl⟩ | ⟨hij, hi'⟩
    · exact htok
    · exact iv.tok i x hi'
  · intro i i' a b x hii ha hb hw hx
    rcases Zb ha with ⟨e, rfl⟩ | ⟨hij, ha'⟩
    · subst e
      have hb' : H[i']? = some b := (Zb hb).resolve_left (fun q => hii q.1.symm) |>.2
      rcases hgr'.w x hw with hw | hw
      · exact iv.dis i i' h b x hii hj hb' hw hx
      · have := hx.lt (iv.sat i' b hb'); omega
    · rcases Zb hb with ⟨e, rfl⟩ | ⟨hij', hb'⟩
      · subst e
        rcases hgr'.b x hx with hx | hx
        · exact iv.dis i i' a h x hii ha' hj hw hx
        · have := hw.b.lt (iv.sat i a ha'); omega
      · exact iv.dis i i' a b x hii ha' hb' hw hx
  · intro ht i x b hi hs hb
    have ht0 := hsh' ht
    have hs' := (hSh b).1 hs
    rcases Zb hi with ⟨e, rfl⟩ | ⟨hij, hi'⟩
    · rcases hgr'.b b hb with hb | hb
      · exact iv.shB ht0 j h b hj hs' hb
      · have hsr := iv.sh ht0
        have : b < w.heap.size := by
          obtain ⟨⟨_, h1⟩, ⟨_, h2⟩, h3, _⟩ := hsr
          rcases hs' with rfl | rfl | rfl
          · exact getElem?_lt h1
          · exact getElem?_lt h2
          · exact getElem?_lt h3
        omega
    · exact iv.shB ht0 i x b hi' hs' hb
  · rw [hlen]
    obtain ⟨hl1, hl2⟩ := LfH_set (h' := h') hj
    have hshlt : ∀ b, tm.st ≠ 12 ∧ Sh γ b → b < w.heap.size := fun b ⟨ht0, hs'⟩ => by
      obtain ⟨⟨_, h1⟩, ⟨_, h2⟩, h3, _⟩ := iv.sh ht0
      rcases hs' with rfl | rfl | rfl
      · exact getElem?_lt h1
      · exact getElem?_lt h2
      · exact getElem?_lt h3
    have inL : ∀ i b, InB (LfH H i) b → ∃ x, H[i]? = some x ∧ InB x.L b := fun i b hb => by
      cases hi : H[i]? with
      | none => simp [LfH, hi] at hb; obtain ⟨o, h1, _⟩ := hb; simp at h1
      | some x => rw [LfH_at hi] at hb; exact ⟨x, rfl, hb⟩
    have hti := iv.ti.step (u := MemOp.ofEvents j g.frame.fn g.frame.place es) (M := w'.heap.size) (Lf' := LfH (H.set j h')) hlt hsize (by rw [LfH_at hj, hl1]; exact hgr) hl2
      (fun i b hij hw hb => by
        rw [LfH_at hj] at hb
        obtain ⟨x, hx, _⟩ := inL i b hw.b
        rw [LfH_at hx] at hw
        exact iv.dis i j x h b hij hx hj hw hb)
      (fun i b hij hw hb => by
        rw [LfH_at hj] at hw
        obtain ⟨x, hx, hb'⟩ := inL i b hb
        exact iv.dis j i h x b (fun e => hij e.symm) hj hx hw hb')
      (fun i b hs hb => by
        obtain ⟨x, hx, hb'⟩ := inL i b hb
        exact iv.shB hs.1 i x b hx hs.2 hb')
      (fun i b hb => by
        obtain ⟨x, hx, hb'⟩ := inL i b hb
        exact hb'.lt (iv.sat i x hx))
      hshlt (by rw [LfH_at hj]; exact hev)
    refine hti.less (fun b ⟨a, c⟩ => ⟨hsh' a, (hSh b).1 c⟩) fun i ⟨x, hx, hp⟩ => ?_
    rcases Zb hx with ⟨e, rfl⟩ | ⟨hij, hx'⟩
    · subst e; exact ⟨h, hj, hpt hp⟩
    · exact ⟨x, hx', hp⟩
  · intro i x hi
    rcases Zb hi with ⟨e, rfl⟩ | ⟨hij, hi'⟩
    · subst e
      rw [Deaf_own, iv.deaf _ h hj, hdf]
    · rw [Deaf_other t (fun q => hij q.symm) _ ug]; exact iv.deaf i x hi'
  · intro i x hi
    rcases Zb hi with ⟨_, rfl⟩ | ⟨_, hi'⟩
    · exact hok
    · exact iv.ok i x hi'
  · intro o ho hb h0 i y hi hy hyb
    rcases hget 0 o ho with ⟨e, rfl⟩ | ⟨hij, o', h1, rfl⟩
    · exfalso
      rcases hnb with a | ⟨_, a⟩
      · exact a hb
      · omega
    · have hmain : H[0]? = some (.main L0 tm) := by rw [iv.hd]; rfl
      have htm : tm' = tm := by
        have : (H.set j h')[0]? = H[0]? := List.getElem?_set_ne (fun q => hij q.symm)
        rw [hH, hmain] at this
        simp at this
        exact this.2
      subst htm
      have blk : ∀ o, (woken P g g' w' o).status = .blocked → o.status = .blocked := fun o hb => by
        unfold woken at hb
        split at hb
        · unfold Goroutine.again at hb
          split at hb
          · assumption
          · cases hb
          · cases hb
          · exact hb
        · exact hb
      rcases hget i y hy with ⟨e, rfl⟩ | ⟨hij', y', h2, rfl⟩
      · exfalso
        rcases hnb with a | ⟨_, a⟩
        · exact a hyb
        · omega
      · obtain ⟨h3, x, h4, h5⟩ := iv.nm o' h1 (blk o' hb) h0 i y' hi h2 (blk y' hyb)
        exact ⟨h3, x, by rw [List.getElem?_set_ne (fun q => hij' q.symm)]; exact h4, h5⟩
  · refine ⟨fun b hb => ?_, fun i x b hi hw ho => ?_, fun a b c => iv.old.sh (hsh' a) b ((hSh b).1 c), fun b hb => Nat.lt_of_lt_of_le (iv.old.lt b hb) hsize⟩
    · rw [hkeep b (iv.old.lt b hb) (fun hw => iv.old.own j h b hj hw hb) (fun ⟨a, c⟩ => iv.old.sh a b c hb)]
      exact iv.old.same b hb
    · rcases Zb hi with ⟨_, rfl⟩ | ⟨_, hi'⟩
      · rcases hgr'.w b hw with hw | hw
        · exact iv.old.own j h b hj hw ho
        · have := iv.old.lt b ho; omega
      · exact iv.old.own i x b hi' hw ho
end Go.HL
end

/-! QKMc -/
section
namespace Go.HL
set_option linter.unusedSectionVars false
variable [Tasks]
open Go Go.Conc
set_option linter.unusedVariables false
set_option linter.unusedSectionVars false
set_option linter.unusedSimpArgs false

def gh (main : Bool) (L : Heap) (t : Tk) : Gh := cond main (.main L t) (.live L t)
theorem gh_L {m : Bool} {L : Heap} {t : Tk} : (gh m L t).L = L := by cases m <;> rfl
theorem gh_tk {m : Bool} {L : Heap} {t : Tk} : (gh m L t).tk = t := by cases m <;> rfl
theorem gh_late {m : Bool} {L : Heap} {t : Tk} : (gh m L t).late = false := by cases m <;> rfl
theorem Shr.keep {γ : Gm} {w w' : World} (h : Shr γ w) (hk : ∀ b, Sh γ b → w'.heap[b]? = w.heap[b]?) : Shr γ w' := by
  obtain ⟨⟨a, h1⟩, ⟨b, h2⟩, h3, h4⟩ := h
  exact ⟨⟨a, by rw [hk _ (.inl rfl)]; exact h1⟩, ⟨b, by rw [hk _ (.inr (.inl rfl))]; exact h2⟩, by rw [hk _ (.inr (.inr rfl))]; exact h3, h4⟩
theorem Shr.lt {γ : Gm} {w : World} (h : Shr γ w) {b : Nat} (hb : Sh γ b) : b < w.heap.size := by
  obtain ⟨⟨_, h1⟩, ⟨_, h2⟩, h3, _⟩ := h
  rcases hb with rfl | rfl | rfl
  · exact getElem?_lt h1
  · exact getElem?_lt h2
  · exact getElem?_lt h3
theorem deafBehind_same {es : Array Event} {d : Nat} (h : ∀ e ∈ es, e.loc ≠ .mark .disable ∧ e.loc ≠ .mark .enable) : deafBehind d es = d := by
  obtain ⟨l⟩ := es
  simp only [deafBehind, List.foldl_toArray']
  induction l with
  | nil => rfl
  | cons e l ih =>
    have he := h e (by simp)
    have ih' := ih fun e he => h e (by simp at he ⊢; exact .inr he)
    rw [List.foldl_cons]
    obtain ⟨loc, wr, sy⟩ := e
    cases loc with
    | mark m => cases m <;> first | exact ih' | exact absurd rfl he.1 | exact absurd rfl he.2
    | _ => exact ih'
theorem EvIn.noDeaf {B W : Nat → Prop} {N : Nat} {e : Event} (h : EvIn B W N e) : e.loc ≠ .mark .disable ∧ e.loc ≠ .mark .enable := by
  rcases h with ⟨b, h1, _⟩ | ⟨m, rfl, hm⟩
  · rcases h1 with h1 | ⟨a, h1, _⟩ <;> rw [h1] <;> exact ⟨by simp, by simp⟩
  · rcases hm with rfl | ⟨f, rfl⟩ <;> exact ⟨by simp, by simp⟩

section
variable {P : Program} {Φ : Goroutine → Heap → Prop} {k : Ctx} {γ : Gm} {rs : List Rank} {H : List Gh} {L0 : Heap} {tm : Tk} {ws : List Gh} {gs : Array Goroutine} {w : World} {t : Trace} {sl : Option (Nat × Nat)} {j : Nat}
theorem Iv.main0 (iv : Iv P Φ k γ rs H L0 tm ws gs w t) : H[0]? = some (.main L0 tm) := by rw [iv.hd]; rfl
theorem Iv.isMain (iv : Iv P Φ k γ rs H L0 tm ws gs w t) {L : Heap} {tk : Tk} (hj : H[j]? = some (.main L tk)) : j = 0 ∧ L = L0 ∧ tk = tm := by
  rw [iv.hd] at hj
  cases j with
  | zero => simp at hj; exact ⟨rfl, hj.1.symm, hj.2.symm⟩
  | succ i => simp at hj; exact absurd rfl (iv.nl _ (List.mem_of_getElem? hj) L tk)
theorem Iv.isWork (iv : Iv P Φ k γ rs H L0 tm ws gs w t) {h : Gh} (hj : H[j]? = some h) (hn : ∀ L tk, h ≠ .main L tk) : ∃ i, j = i + 1 ∧ ws[i]? = some h ∧ (∀ h', H.set j h' = .main L0 tm :: ws.set i h') ∧ h.tk ∈ ws.map Gh.tk ∧ (ws.map Gh.tk)[i]? = some h.tk := by
  rw [iv.hd] at hj
  cases j with
  | zero => simp at hj; exact absurd hj.symm (hn L0 tm)
  | succ i =>
    simp at hj
    exact ⟨i, rfl, hj, fun h' => by rw [iv.hd]; rfl, List.mem_map.2 ⟨h, List.mem_of_getElem? hj, rfl⟩, by simp [hj]⟩
theorem Iv.actor (iv : Iv P Φ k γ rs H L0 tm ws gs w t) {main : Bool} {L : Heap} {tk : Tk} (hj : H[j]? = some (gh main L tk)) : (j == 0) = main ∧ (main = true → tk = tm) ∧ (tk.st ≠ 12 → tk.st ≠ 25 → tm.st ≠ 12 ∧ Cmp tk γ) ∧ (main = false → tk ∈ ws.map Gh.tk) ∧ (main = false → tm.st ≠ 12 ∨ tk.st = 25) := by
  cases main with
  | true =>
    obtain ⟨rfl, rfl, rfl⟩ := iv.isMain (show H[j]? = some (.main L tk) from hj)
    exact ⟨rfl, fun _ => rfl, fun h _ => ⟨h, iv.toks.cmpM h⟩, fun h => (by cases h), fun h => (by cases h)⟩
  | false =>
    obtain ⟨i, rfl, h1, h2, h3, _⟩ := iv.isWork (h := .live L tk) hj (fun L t e => by cases e)
    refine ⟨rfl, fun h => (by cases h), fun _ h => ⟨iv.toks.up h3 h, iv.toks.cmpW h3 h⟩, fun _ => h3, fun _ => ?_⟩
    by_cases h : tk.st = 25
    · exact .inr h
    · exact .inl (iv.toks.up h3 h)
/-- others' releases stand -/
theorem Iv.hoStay (iv : Iv P Φ k γ rs H L0 tm ws gs w t) {γ' : Gm} {tm' : Tk} {h h' : Gh} {u : Trace} (hl : h'.late = false) (hw : γ'.wg = γ.wg) (h12 : tm.st ≠ 12 → tm'.st ≠ 12) (hu : ∀ op ∈ u, op.g = j) :
    ∀ (i : Nat) x, (H.set j h')[i]? = some x → x.late = true → HOk (t ++ u) i ∨ (tm'.st ≠ 12 ∧ Rl γ' (t ++ u) i) := by
  intro i x hi hx
  rcases Zb hi with ⟨_, rfl⟩ | ⟨hij, hi'⟩
  · rw [hl] at hx; cases hx
  · exact late_stays (iv.ho i x hi' hx) hw h12 (others_silent hij hu)
/-- a step of its own -/
theorem Iv.ownStep (iv : Iv P Φ k γ rs H L0 tm ws gs w t) {main : Bool} {L L' : Heap} {tk : Tk} {r r' : Rank} {g g' : Goroutine} {w' : World} {es : Array Event} (hj : H[j]? = some (gh main L tk)) (hr : rs[j]? = some r) (hg : gs[j]? = some g)
    (hstep : stepG P main g w = .go g' w' es) (hrun : g'.status = .running) (htr : Tr w w' L L' es) (hsat : Sat k w' L') (hk : Rk P Φ r' main g' L') :
    ∃ L0' ws', runT P (crowd gs w sl) j = (.next (crowd ((gs.map (woken P g g' w')).setIfInBounds j g') w' sl), MemOp.ofEvents j g.frame.fn g.frame.place es) ∧
      Iv P Φ k γ (rs.set j r') (H.set j (gh main L' tk)) L0' tm ws' ((gs.map (woken P g g' w')).setIfInBounds j g') w' (t ++ MemOp.ofEvents j g.frame.fn g.frame.place es) := by
  obtain ⟨hm, hmt, _, _, _⟩ := iv.actor hj
  have hL : (gh main L tk).L = L := gh_L
  have hshB : ∀ b, tm.st ≠ 12 → Sh γ b → ¬ InB L b := fun b a c hb => iv.shB a j _ b hj c (by rw [hL]; exact hb)
  have hsame : ∀ b, tm.st ≠ 12 → Sh γ b → w'.heap[b]? = w.heap[b]? := fun b a c => htr.keep b ((iv.sh a).lt c) fun hw => hshB b a c hw.b
  obtain ⟨L0', ws', hH, htoks⟩ : ∃ L0' ws', H.set j (gh main L' tk) = .main L0' tm :: ws' ∧ ws'.map Gh.tk = ws.map Gh.tk := by
    cases main with
    | true =>
      obtain ⟨rfl, rfl, rfl⟩ := iv.isMain (show H[j]? = some (.main L tk) from hj)
      exact ⟨L', ws, by rw [iv.hd]; rfl, rfl⟩
    | false =>
      obtain ⟨i, rfl, h1, h2, h3, h4⟩ := iv.isWork (h := .live L tk) hj (fun L t e => by cases e)
      refine ⟨L0, ws.set i (.live L' tk), h2 _, ?_⟩
      apply List.ext_getElem?
      intro n
      rw [List.map_set, List.getElem?_set]
      split
      · rename_i e; subst e
        split
        · rw [h4]; rfl
        · rename_i hx; simp at hx; rw [List.getElem?_eq_none (by simpa using hx)]
      · rfl
  refine ⟨L0', ws', iv.goStep (γ' := γ) (r' := r') (h' := gh main L' tk) hj hr hg (by rw [hm]; exact hstep) hH (fun L t hj0 e => ?_) htr.size (fun b hb hw _ => htr.keep b hb (by rw [hL] at hw; exact hw)) ⟨hsat.os, hsat.out, hsat.tape, by simp, by simp, by simp, by simp⟩ (by rw [gh_L]; exact hsat) ?_ (by rw [gh_L, gh_L]; exact htr.gr.zero) ⟨rfl, rfl, rfl⟩ (fun h => h) (fun a => (iv.sh a).keep fun b c => hsame b a c) (by rw [htoks]; exact iv.toks) (by rw [gh_tk, gh_tk]; exact fun h => h) ?_ ?_ ?_ (.inl (by rw [hrun]; simp)) (.inr (.inl hrun)) .refl (by have := iv.ok j _ hj; cases main <;> exact this) ?_⟩
  · cases main with
    | true => simp at hm; exact absurd hm hj0
    | false => cases e
  · rw [gh_L, gh_tk]
    intro p hp hgp
    have := iv.tok j _ hj p (by rw [hL]; exact htr.gr.tok p hp hgp) hgp
    rwa [gh_tk] at this
  · intro op hop
    obtain ⟨e, he, rfl⟩ := mem_ofEvents hop
    rw [hL]
    exact okT_ev (htr.evs e he).1 (htr.evs e he).2
  · rw [deafBehind_same fun e he => (htr.evs e he).1.noDeaf]
    cases main <;> rfl
  · refine iv.hoStay (h := gh main L tk) gh_late rfl (fun h => h) fun op hop => ?_
    obtain ⟨e, _, rfl⟩ := mem_ofEvents hop
    rfl
  · cases main with
    | true => exact .inl ⟨hrun, hk⟩
    | false => exact .inl ⟨hrun, hk⟩
end
end Go.HL
end

/-! QKMd -/
section
namespace Go.HL
set_option linter.unusedSectionVars false
variable [Tasks]
open Go Go.Conc
set_option linter.unusedVariables false
set_option linter.unusedSectionVars false
set_option linter.unusedSimpArgs false

theorem Mv.same {t t' : Tk} {γ γ' : Gm} {es : Array Event} (h : Mv t γ t' γ' es) : (t'.todo = t.todo ∧ t'.back = t.back ∧ t'.wg = t.wg ∧ t'.tag = t.tag ∧ t'.many = t.many) ∧ (γ'.todo = γ.todo ∧ γ'.back = γ.back ∧ γ'.wg = γ.wg) := by
  cases h <;> exact ⟨⟨rfl, rfl, rfl, rfl, rfl⟩, rfl, rfl, rfl⟩
theorem Mv.deaf {t t' : Tk} {γ γ' : Gm} {es : Array Event} (h : Mv t γ t' γ' es) (hl : t.st ≤ 12) : deafBehind (dfm t.st) es = dfm t'.st ∧ t'.st ≤ 12 := by
  cases h <;> (try (exfalso; omega)) <;> (first
    | (constructor
       · simp_all [deafBehind, evMk, evR, evW, dfm]
       · first | exact hl | (simp only []; omega))
    | (rename_i a; rcases a with a | a <;> exact ⟨by simp_all [deafBehind, evMk, evR, evW, dfm], by simp⟩))
/-- from one's release on -/
theorem Mv.deafT {t t' : Tk} {γ γ' : Gm} {es : Array Event} (h : Mv t γ t' γ' es) (hl : 23 ≤ t.st) (h25 : t.st ≠ 25) : deafBehind (if t.st = 23 then 0 else 1) es = (if t'.st = 23 then 0 else 1) ∧ 23 ≤ t'.st := by
  cases h <;> (try (exfalso; omega)) <;> refine ⟨?_, ?_⟩ <;> first | exact hl | (simp only []; omega) | (simp_all [deafBehind, evMk, evR, evW]; done) | simp [deafBehind]
theorem Only.sat {γ : Gm} {k : Ctx} {w w' : World} {L : Heap} (h : Only γ w w') (hs : Sat k w L) (hb : ∀ b, Sh γ b → ¬ InB L b) : Sat k w' L :=
  hs.keep ⟨h.os.trans hs.os, h.out.trans hs.out, h.tape.trans hs.tape, by simp, by simp, by simp, by simp⟩ (by rw [h.size]; exact Nat.le_refl _) fun b hx => h.keep b (fun e => hb b (.inl e) hx) fun e => hb b (.inr (.inr e)) hx
/-- what happened ahead of a release happens ahead of whoever acquires -/
theorem join_ho {γ : Gm} {t : Trace} {i : Nat} {y : MemOp} (h : Rl γ t i) (hy : y.act = .mark (.acquire (stA γ.wg))) (hg : y.g = 0) (hd : Deaf t 0 = 0) (hi : i ≠ 0) (hr : ∀ i a, t.act? i ≠ some (.mark (.release a))) : HOk (t ++ #[y]) i := by
  obtain ⟨r, hr1⟩ := h
  have hrl : r < t.size := lt_of_act? hr1.act
  have hq : (t ++ #[y])[t.size]? = some y := by rw [Array.getElem?_append_right (Nat.le_refl _)]; simp
  have hh : (t ++ #[y]).heard t.size := ⟨0, by simp [Trace.g?, hq, hg], by rw [deaf_old (Nat.le_refl _)]; exact hd⟩
  have e1 : (t ++ #[y]).act? r = some (.mark (.releaseMerge (stA γ.wg))) := by rw [act?_old hrl]; exact hr1.act
  have edge : HappensBefore (t ++ #[y]) r t.size := .single (.inr ⟨.marked hrl (.inr e1) (by rw [act?_of hq, hy]) (fun k _ hk => by rw [act?_old hk]; exact hr k _), (heard_old hrl).2 hr1.heard, hh⟩)
  intro n hn hc
  have hnl : n < t.size := by
    apply Classical.byContradiction
    intro hge
    obtain ⟨op, h1, h2, h3⟩ := new_op (by omega) hn
    simp at h1
    subst h1
    exact hi (h3.symm.trans hg)
  rw [g?_old hnl] at hn
  rw [counts_old hnl] at hc
  refine ⟨t.size, by simp [Trace.g?, hq, hg], ?_⟩
  rcases Nat.lt_trichotomy n r with hlt | rfl | hgt
  · exact .trans (.single (.inl ⟨hlt, i, by rw [g?_old hnl]; exact hn, by rw [g?_old hrl]; exact hr1.g⟩)) edge
  · exact edge
  · exact absurd hc (hr1.after n hgt hn)
section
variable {P : Program} {Φ : Goroutine → Heap → Prop} {k : Ctx} {γ : Gm} {rs : List Rank} {H : List Gh} {L0 : Heap} {tm : Tk} {ws : List Gh} {gs : Array Goroutine} {w : World} {t : Trace} {sl : Option (Nat × Nat)} {j : Nat}
/-- one of the crowd is set anew -/
theorem Iv.put (iv : Iv P Φ k γ rs H L0 tm ws gs w t) {h h' : Gh} (hj : H[j]? = some h) (hn : ∀ L tk, h ≠ .main L tk) : ∃ i, j = i + 1 ∧ H.set j h' = .main L0 tm :: ws.set i h' ∧ (ws.map Gh.tk)[i]? = some h.tk ∧ (ws.set i h').map Gh.tk = (ws.map Gh.tk).set i h'.tk := by
  obtain ⟨i, rfl, h1, h2, h3, h4⟩ := iv.isWork hj hn
  exact ⟨i, rfl, h2 _, h4, by rw [List.map_set]⟩
theorem Iv.sharedStep (iv : Iv P Φ k γ rs H L0 tm ws gs w t) {main : Bool} {L L' : Heap} {tk tk' : Tk} {γ' : Gm} {r r' : Rank} {g g' : Goroutine} {w' : World} {es : Array Event} (hj : H[j]? = some (gh main L tk)) (hr : rs[j]? = some r) (hg : gs[j]? = some g)
    (hstep : stepG P main g w = .go g' w' es) (hrun : g'.status = .running) (hmv : Mv tk γ tk' γ' es) (hwak : Wak P g γ γ') (hshr : Shr γ' w') (ho : Only γ w w') (hu : Upd L tk.todo tk.obj tk'.obj L') (h12 : tk.st ≠ 12) (hk : Rk P Φ r' main g' L') :
    ∃ L0' tm' ws', runT P (crowd gs w sl) j = (.next (crowd ((gs.map (woken P g g' w')).setIfInBounds j g') w' sl), MemOp.ofEvents j g.frame.fn g.frame.place es) ∧
      Iv P Φ k γ' (rs.set j r') (H.set j (gh main L' tk')) L0' tm' ws' ((gs.map (woken P g g' w')).setIfInBounds j g') w' (t ++ MemOp.ofEvents j g.frame.fn g.frame.place es) := by
  obtain ⟨hm, hmt, hcm, hin, _⟩ := iv.actor hj
  have hok0 := iv.ok j _ hj
  have h25 : tk.st ≠ 25 := by cases main <;> simp only [gh, cond_true, cond_false, Gh.ok] at hok0 <;> omega
  obtain ⟨ht12, hcmp⟩ := hcm h12 h25
  obtain ⟨hsame, hγ⟩ := hmv.same
  have hL : (gh main L tk).L = L := gh_L
  have hshB : ∀ b, Sh γ b → ¬ InB L b := fun b c hb => iv.shB ht12 j _ b hj c (by rw [hL]; exact hb)
  have hsat : Sat k w L := by have := iv.sat j _ hj; rwa [hL] at this
  have hsat' : Sat k w' L' := hu.sat rfl rfl rfl (ho.sat hsat hshB)
  have htok := hu.gtok (tk := tk) hsame.1 (fun p hp hgp => by have := iv.tok j _ hj p (by rw [hL]; exact hp) hgp; rwa [gh_tk] at this) hsat.nodup
  have ug : ∀ op ∈ MemOp.ofEvents j g.frame.fn g.frame.place es, op.g = j := fun op hop => by obtain ⟨e, _, rfl⟩ := mem_ofEvents hop; rfl
  have hg0 : Gr0 w.heap.size L L' := ⟨fun b hb => .inl ((hu.gW rfl rfl b).1 hb), fun b hb => .inl ((hu.gB rfl rfl b).1 hb)⟩
  have hpth : PtH H j := ⟨_, hj, by rw [gh_tk]; exact h25⟩
  have hev : ∀ op ∈ MemOp.ofEvents j g.frame.fn g.frame.place es, OkT (gh main L tk).L w.heap.size w'.heap.size (fun b => (tm.st ≠ 12 ∧ Sh γ b) ∧ PtH H j) j op :=
    okT_mv hmv ⟨⟨ht12, .inr (.inr rfl)⟩, hpth⟩ ⟨⟨ht12, .inl rfl⟩, hpth⟩ (by rw [ho.size]; exact (iv.sh ht12).lt (.inr (.inr rfl))) (by rw [ho.size]; exact (iv.sh ht12).lt (.inl rfl)) fun hle => by
      cases main with
      | true => simpa using hm
      | false => have : 20 ≤ tk.st := hok0.1; omega
  cases main with
  | true =>
    obtain ⟨rfl, rfl, rfl⟩ := iv.isMain (show H[j]? = some (.main L tk) from hj)
    have hd := hmv.deaf hok0
    refine ⟨L', tk', ws, iv.goStep (γ' := γ') (r' := r') (h' := .main L' tk') hj hr hg hstep (by rw [iv.hd]; rfl) (fun L t hj0 e => absurd rfl hj0) (by rw [ho.size]; exact Nat.le_refl _)
      (fun b hb hw hs => ho.keep b (fun e => hs ⟨ht12, .inl e⟩) fun e => hs ⟨ht12, .inr (.inr e)⟩) ⟨hsat'.os, hsat'.out, hsat'.tape, by simp, by simp, by simp, by simp⟩ hsat' htok.2 hg0 hγ (fun a => absurd a h12) (fun _ => hshr) (iv.toks.mainMv h12 hmv) (fun _ => h25) hev hd.1 ?_ (.inl (by rw [hrun]; simp)) (.inr (.inl hrun)) hwak hd.2 (.inl ⟨hrun, hk⟩)⟩
    intro i x hi hx
    rcases Zb hi with ⟨_, rfl⟩ | ⟨hij, hi'⟩
    · cases hx
    · have h0 := iv.ho i x hi' hx
      by_cases hj12 : tk'.st = 12
      · left
        rcases h0 with h0 | ⟨_, h0⟩
        · exact h0.app (others_silent hij ug)
        · cases hmv <;> (first | (exfalso; simp at hj12; done) | (exact absurd hj12 h12) | skip)
          rename_i h11
          have hdf : Deaf t 0 = 0 := by rw [iv.deaf 0 _ iv.main0]; simp [Gh.df, dfm, h11]
          have := join_ho (y := { g := 0, fn := g.frame.fn, pos := g.frame.place, act := .mark (.acquire (stA γ.wg)) }) h0 rfl rfl hdf hij iv.ti.rel
          simpa [ofEvents_eq, MemAct.ofEvent, evMk] using this
      · exact late_stays h0 hγ.2.2 (fun _ => hj12) (others_silent hij ug)
  | false =>
    have h20 : 20 ≤ tk.st ∧ tk.st ≤ 22 := hok0
    have hidle : tk' = tk ∧ γ' = γ ∧ es = #[] := by
      cases hmv <;> (try (exfalso; omega))
      exact ⟨rfl, rfl, rfl⟩
    obtain ⟨rfl, rfl, rfl⟩ := hidle
    obtain ⟨i, rfl, hH, hi4, hmap⟩ := iv.put (h' := .live L' tk') (show H[j]? = some (.live L tk') from hj) (fun L t e => by cases e)
    refine ⟨L0, tm, _, iv.goStep (γ' := γ') (r' := r') (h' := .live L' tk') hj hr hg hstep hH (fun L t _ e => by cases e) (by rw [ho.size]; exact Nat.le_refl _)
      (fun b hb hw hs => ho.keep b (fun e => hs ⟨ht12, .inl e⟩) fun e => hs ⟨ht12, .inr (.inr e)⟩) ⟨hsat'.os, hsat'.out, hsat'.tape, by simp, by simp, by simp, by simp⟩ hsat' htok.2 hg0 hγ (fun a => a) (fun _ => hshr) (by rw [hmap]; exact iv.toks.late hi4 h25 (.inl .idle)) (fun _ => h25) hev rfl ?_ (.inl (by rw [hrun]; simp)) (.inr (.inl hrun)) hwak h20 (.inl ⟨hrun, hk⟩)⟩
    exact iv.hoStay (h := .live L tk') rfl rfl (fun a => a) ug
/-- it waits for the group -/
theorem Iv.blockStep (iv : Iv P Φ k γ rs H L0 tm ws gs w t) {L : Heap} {tk : Tk} {r : Rank} {g : Goroutine} (hj : H[j]? = some (.main L tk)) (hr : rs[j]? = some r) (hg : gs[j]? = some g) (hrun : g.status = .running)
    (hstep : stepG P true g w = .go { g with status := .blocked } w #[]) (h9 : tk.st = 9) (hs : γ.sem = 0) (hof : g.offers = none) (hk : Rk P Φ r true g L) :
    runT P (crowd gs w sl) j = (.next (crowd (gs.setIfInBounds j { g with status := .blocked }) w sl), #[]) ∧ Iv P Φ k γ rs H L0 tm ws (gs.setIfInBounds j { g with status := .blocked }) w t := by
  obtain ⟨rfl, rfl, rfl⟩ := iv.isMain hj
  have hHs : H.set 0 (.main L tk) = H := by rw [iv.hd]; rfl
  have hrs : rs.set 0 r = rs := by
    cases rs with
    | nil => simp at hr
    | cons a b => simp at hr; subst hr; rfl
  have hsat := iv.sat 0 _ hj
  have key := iv.goStep (sl := sl) (γ' := γ) (r' := r) (h' := .main L tk) (es := #[]) hj hr hg hstep (by rw [hHs]; exact iv.hd) (fun L t hj0 e => absurd rfl hj0) (Nat.le_refl _) (fun _ _ _ _ => rfl) iv.sat0 hsat (iv.tok 0 _ hj) ⟨fun _ h => .inl h, fun _ h => .inl h⟩ ⟨rfl, rfl, rfl⟩ (fun a => a) iv.sh iv.toks (fun h => h)
    (fun op hop => by obtain ⟨e, he, _⟩ := mem_ofEvents hop; simp at he) rfl (by rw [hHs]; exact fun i x hi hx => by simpa [ofEvents_eq] using iv.ho i x hi hx) (.inr ⟨rfl, h9⟩) (.inl rfl) .refl (iv.ok 0 _ hj) (.inr (.inr ⟨h9, hs, g, rfl, hrun, hof, hk⟩))
  rw [hHs, hrs] at key
  have e : MemOp.ofEvents 0 g.frame.fn g.frame.place #[] = #[] := by simp [ofEvents_eq]
  have hid : gs.map (woken P g { g with status := .blocked } w) = gs := by
    have : woken P g { g with status := .blocked } w = id := by funext o; simp [woken]
    rw [this, Array.map_id]
  rw [e, Array.append_empty, hid] at key
  exact key
end
end Go.HL
end

/-! QKMe -/
section
namespace Go.HL
set_option linter.unusedSectionVars false
variable [Tasks]
open Go Go.Conc
set_option linter.unusedVariables false
set_option linter.unusedSectionVars false
set_option linter.unusedSimpArgs false

theorem deaf_at {t : Trace} {j : Nat} {u : List MemOp} {m : Nat} (hm : m ≤ u.length) : (t ++ u.toArray).deaf j (t.size + m) = (u.take m).foldl (deafStep j) (Deaf t j) := by
  have h1 := Deaf_append t j (u.take m)
  have hs : (t ++ (u.take m).toArray).size = t.size + m := by simp; omega
  have e : t ++ u.toArray = (t ++ (u.take m).toArray) ++ (u.drop m).toArray := by
    apply Array.ext'; simp
  rw [e, deaf_old (by rw [hs]; exact Nat.le_refl _), ← h1]
  unfold Deaf
  rw [hs]
set_option maxHeartbeats 2000000 in
theorem tail_silent {t : Trace} {tk tk' : Tk} {γ γ' : Gm} {es : Array Event} {j : Nat} {fn : FuncId} {pos : String} (hmv : Mv tk γ tk' γ' es) (hl : 23 ≤ tk.st) (h25 : tk.st ≠ 25) (hd : Deaf t j = if tk.st = 23 then 0 else 1) :
    ∀ n, t.size ≤ n → (t ++ MemOp.ofEvents j fn pos es).g? n = some j → ¬ (t ++ MemOp.ofEvents j fn pos es).counts n := by
  intro n hn hg
  obtain ⟨op, h1, h2, h3⟩ := new_op hn hg
  rintro ⟨x, hx, hmem, hk⟩
  have hact : (t ++ MemOp.ofEvents j fn pos es).act? n = some op.act := act?_of h2
  rw [hact] at hx
  have hx : op.act.touch? = some x := hx
  obtain ⟨e, he, rfl⟩ := mem_ofEvents h1
  have hat : x.kind = .atomic ∧ tk.st ≠ 23 := by
    cases hmv <;> (try (exfalso; omega)) <;> simp only [List.mem_toArray, List.mem_cons, List.not_mem_nil, or_false] at he
    all_goals (first | (rcases he with rfl | rfl | rfl | rfl) | (rcases he with rfl | rfl) | subst he | exact absurd he (by simp))
    all_goals (first | (simp [evMk, MemAct.ofEvent, MemAct.touch?] at hx; done) | (simp [evR, evW, MemAct.ofEvent, MemAct.touch?] at hx; subst hx; exact ⟨rfl, by omega⟩))
  obtain ⟨g', hg', h0⟩ := hk.resolve_left fun a => a hat.1
  rw [hg] at hg'
  cases hg'
  rw [if_neg hat.2] at hd
  have hsz : n < (t ++ MemOp.ofEvents j fn pos es).size := lt_size_of_getElem? h2
  obtain ⟨m, rfl⟩ : ∃ m, n = t.size + m := ⟨n - t.size, by omega⟩
  have key : ∀ (l : List Event), es = ⟨l⟩ → m ≤ l.length → (t ++ MemOp.ofEvents j fn pos es).deaf j (t.size + m) = ((l.map fun e => ({ g := j, fn := fn, pos := pos, act := .ofEvent e } : MemOp)).take m).foldl (deafStep j) 1 := by
    rintro l rfl hm
    rw [ofEvents_eq, ← hd]
    simpa using deaf_at (t := t) (j := j) (u := l.map fun e => ({ g := j, fn := fn, pos := pos, act := .ofEvent e } : MemOp)) (m := m) (by simpa using hm)
  have hm : m < es.size := by
    rw [Array.size_append, ofEvents_eq, Array.size_map] at hsz
    omega
  rw [key es.toList rfl (by simp; omega)] at h0
  cases hmv <;> (try (exfalso; omega)) <;> simp only [List.size_toArray, List.length_cons, List.length_nil] at hm
  all_goals (match m, hm with
    | 0, _ => simp at h0
    | 1, _ => simp [deafStep, evR, evW, evMk, MemAct.ofEvent] at h0
    | 2, _ => simp [deafStep, evR, evW, evMk, MemAct.ofEvent] at h0
    | 3, _ => simp [deafStep, evR, evW, evMk, MemAct.ofEvent] at h0
    | m + 4, hm => omega)
section
variable {P : Program} {Φ : Goroutine → Heap → Prop} {k : Ctx} {γ : Gm} {rs : List Rank} {H : List Gh} {L0 : Heap} {tm : Tk} {ws : List Gh} {gs : Array Goroutine} {w : World} {t : Trace} {sl : Option (Nat × Nat)} {j : Nat}
theorem noW {b : Nat} : ¬ InW [] b := fun ⟨o, h, _⟩ => by simp at h
theorem noB {b : Nat} : ¬ InB [] b := fun ⟨o, h, _⟩ => by simp at h
/-- others' releases stand; its own -/
theorem Iv.hoOwn (iv : Iv P Φ k γ rs H L0 tm ws gs w t) {γ' : Gm} {h' : Gh} {u : Trace} (hw : γ'.wg = γ.wg) (hu : ∀ op ∈ u, op.g = j) (hown : HOk (t ++ u) j ∨ (tm.st ≠ 12 ∧ Rl γ' (t ++ u) j)) :
    ∀ (i : Nat) x, (H.set j h')[i]? = some x → x.late = true → HOk (t ++ u) i ∨ (tm.st ≠ 12 ∧ Rl γ' (t ++ u) i) := by
  intro i x hi hx
  rcases Zb hi with ⟨rfl, rfl⟩ | ⟨hij, hi'⟩
  · exact hown
  · exact late_stays (iv.ho i x hi' hx) hw (fun a => a) (others_silent hij hu)
/-- it says its release -/
theorem Iv.relStep (iv : Iv P Φ k γ rs H L0 tm ws gs w t) {L : Heap} {tk : Tk} {r r' : Rank} {g g' : Goroutine} (hj : H[j]? = some (.live L tk)) (hr : rs[j]? = some r) (hg : gs[j]? = some g)
    (hstep : stepG P false g w = .go g' w #[evMk (.releaseMerge (stA tk.wg))]) (hrun : g'.status = .running) (h22 : tk.st = 22) (hk : TlR P r' g' { tk with st := 23 }) :
    ∃ gs' ws' ops, runT P (crowd gs w sl) j = (.next (crowd gs' w sl), ops) ∧ Iv P Φ k γ (rs.set j r') (H.set j (.tail { tk with st := 23 })) L0 tm ws' gs' w (t ++ ops) := by
  obtain ⟨i, rfl, hH, hi4, hmap⟩ := iv.put (h' := .tail { tk with st := 23 }) hj (fun L t e => by cases e)
  have hmem : tk ∈ ws.map Gh.tk := List.mem_of_getElem? hi4
  have hcmp := iv.toks.cmpW hmem (by omega)
  have h12 := iv.toks.up hmem (by omega)
  have hd : Deaf t (i + 1) = 0 := iv.deaf _ _ hj
  have eu : MemOp.ofEvents (i + 1) g.frame.fn g.frame.place #[evMk (.releaseMerge (stA tk.wg))] = #[{ g := i + 1, fn := g.frame.fn, pos := g.frame.place, act := .mark (.releaseMerge (stA tk.wg)) }] := by simp [ofEvents_eq, MemAct.ofEvent, evMk]
  have ug : ∀ op ∈ MemOp.ofEvents (i + 1) g.frame.fn g.frame.place #[evMk (.releaseMerge (stA tk.wg))], op.g = i + 1 := fun op hop => by obtain ⟨e, _, rfl⟩ := mem_ofEvents hop; rfl
  refine ⟨_, _, _, iv.goStep (γ' := γ) (r' := r') (h' := .tail { tk with st := 23 }) hj hr hg hstep hH (fun L t _ e => by cases e) (Nat.le_refl _) (fun _ _ _ _ => rfl) iv.sat0 iv.sat0 (by simp [Gh.L]) ⟨fun b h => absurd h noW, fun b h => absurd h noB⟩ ⟨rfl, rfl, rfl⟩ (fun a => a) iv.sh
    (by rw [hmap]; exact iv.toks.late (es := #[]) hi4 (by show tk.st ≠ 25; omega) (.inr ⟨h22, rfl, rfl⟩)) (fun _ => by show tk.st ≠ 25; omega) (fun op hop => ?_) ?_ ?_ (.inl (by rw [hrun]; simp)) (.inr (.inl hrun)) .refl (by show 23 ≤ 23; omega) hk⟩
  · obtain ⟨e, he, rfl⟩ := mem_ofEvents hop
    simp at he
    subst he
    exact okT_mark rfl fun a e => by cases e
  · simp [Gh.df, deafBehind, evMk]
  · refine iv.hoOwn rfl ug (.inr ⟨h12, t.size, ?_⟩)
    rw [eu]
    have hq : (t ++ #[({ g := i + 1, fn := g.frame.fn, pos := g.frame.place, act := .mark (.releaseMerge (stA tk.wg)) } : MemOp)])[t.size]? = some { g := i + 1, fn := g.frame.fn, pos := g.frame.place, act := .mark (.releaseMerge (stA tk.wg)) } := by rw [Array.getElem?_append_right (Nat.le_refl _)]; simp
    refine ⟨by rw [act?_of hq, hcmp.2.2.1], by simp [Trace.g?], ⟨i + 1, by simp [Trace.g?], by rw [deaf_old (Nat.le_refl _)]; exact hd⟩, fun n hn hgn => ?_⟩
    exfalso
    obtain ⟨op, h1, _⟩ := Option.map_eq_some_iff.1 hgn
    have := lt_size_of_getElem? h1
    simp at this
    omega
/-- it goes on, silent but for what is shared -/
theorem Iv.tailStep (iv : Iv P Φ k γ rs H L0 tm ws gs w t) {tk tk' : Tk} {γ' : Gm} {r r' : Rank} {g g' : Goroutine} {w' : World} {es : Array Event} (hj : H[j]? = some (.tail tk)) (hr : rs[j]? = some r) (hg : gs[j]? = some g)
    (hstep : stepG P false g w = .go g' w' es) (hrun : g'.status = .running) (hmv : Mv tk γ tk' γ' es) (hwak : Wak P g γ γ') (hshr : Shr γ' w') (ho : Only γ w w') (h25 : tk.st ≠ 25) (hk : TlR P r' g' tk') :
    ∃ gs' ws' ops, runT P (crowd gs w sl) j = (.next (crowd gs' w' sl), ops) ∧ Iv P Φ k γ' (rs.set j r') (H.set j (.tail tk')) L0 tm ws' gs' w' (t ++ ops) := by
  obtain ⟨i, rfl, hH, hi4, hmap⟩ := iv.put (h' := .tail tk') hj (fun L t e => by cases e)
  have hmem : tk ∈ ws.map Gh.tk := List.mem_of_getElem? hi4
  have h12 := iv.toks.up hmem h25
  have hok : 23 ≤ tk.st := iv.ok _ _ hj
  have hd := hmv.deafT hok h25
  have hdf : Deaf t (i + 1) = if tk.st = 23 then 0 else 1 := iv.deaf _ _ hj
  have hpth : PtH H (i + 1) := ⟨_, hj, h25⟩
  have ug : ∀ op ∈ MemOp.ofEvents (i + 1) g.frame.fn g.frame.place es, op.g = i + 1 := fun op hop => by obtain ⟨e, _, rfl⟩ := mem_ofEvents hop; rfl
  refine ⟨_, _, _, iv.goStep (γ' := γ') (r' := r') (h' := .tail tk') hj hr hg hstep hH (fun L t _ e => by cases e) (by rw [ho.size]; exact Nat.le_refl _) (fun b hb hw hs => ho.keep b (fun e => hs ⟨h12, .inl e⟩) fun e => hs ⟨h12, .inr (.inr e)⟩)
    (ho.sat iv.sat0 fun _ _ => noB) (ho.sat iv.sat0 fun _ _ => noB) (by simp [Gh.L]) ⟨fun b h => absurd h noW, fun b h => absurd h noB⟩ hmv.same.2 (fun a => a) (fun _ => hshr)
    (by rw [hmap]; exact iv.toks.late hi4 h25 (.inl hmv)) (fun _ => h25) (okT_mv hmv ⟨⟨h12, .inr (.inr rfl)⟩, hpth⟩ ⟨⟨h12, .inl rfl⟩, hpth⟩ (by rw [ho.size]; exact (iv.sh h12).lt (.inr (.inr rfl))) (by rw [ho.size]; exact (iv.sh h12).lt (.inl rfl)) fun hle => by omega) hd.1 ?_ (.inl (by rw [hrun]; simp)) (.inr (.inl hrun)) hwak hd.2 hk⟩
  exact iv.hoOwn hmv.same.2.2.2 ug (late_stays (iv.ho _ _ hj rfl) hmv.same.2.2.2 (fun a => a) (tail_silent hmv hok h25 hdf))
/-- it only leaves -/
theorem Iv.goneStep (iv : Iv P Φ k γ rs H L0 tm ws gs w t) {tk : Tk} {d n : Nat} {r r' : Rank} {g g' : Goroutine} {es : Array Event} (hj : H[j]? = some (.gone tk d)) (hr : rs[j]? = some r) (hg : gs[j]? = some g)
    (hstep : stepG P false g w = .go g' w es) (hmu : ∀ e ∈ es, e.mute = true) (hq : QuitsD P n (deafBehind d es) g') (hr' : r' = Tn n) :
    ∃ gs' ws' ops, runT P (crowd gs w sl) j = (.next (crowd gs' w sl), ops) ∧ Iv P Φ k γ (rs.set j r') (H.set j (.gone tk (deafBehind d es))) L0 tm ws' gs' w (t ++ ops) := by
  obtain ⟨i, rfl, hH, hi4, hmap⟩ := iv.put (h' := .gone tk (deafBehind d es)) hj (fun L t e => by cases e)
  have h25 : tk.st = 25 := iv.ok _ _ hj
  have hmm : ∀ e ∈ es, e.loc = .mark .disable ∨ e.loc = .mark .enable := fun e he => by
    have := hmu e he
    unfold Event.mute at this
    split at this
    · exact .inl rfl
    · exact .inr rfl
    · cases this
  have hno : ∀ op ∈ MemOp.ofEvents (i + 1) g.frame.fn g.frame.place es, op.g = i + 1 ∧ op.act.touch? = none ∧ ∀ a, op.act ≠ .mark (.release a) := fun op hop => by
    obtain ⟨e, he, rfl⟩ := mem_ofEvents hop
    obtain ⟨loc, wr, sy⟩ := e
    rcases hmm _ he with h | h <;> simp only at h <;> subst h <;> exact ⟨rfl, rfl, fun a e => by cases e⟩
  refine ⟨_, _, _, iv.goStep (γ' := γ) (r' := r') (h' := .gone tk (deafBehind d es)) hj hr hg hstep hH (fun L t _ e => by cases e) (Nat.le_refl _) (fun _ _ _ _ => rfl) iv.sat0 iv.sat0 (by simp [Gh.L]) ⟨fun b h => absurd h noW, fun b h => absurd h noB⟩ ⟨rfl, rfl, rfl⟩ (fun a => a) iv.sh
    (by
      rw [hmap, show (ws.map Gh.tk).set i (Gh.gone tk (deafBehind d es)).tk = ws.map Gh.tk from ?_]
      · exact iv.toks
      · apply List.ext_getElem?
        intro n
        rw [List.getElem?_set]
        split
        · rename_i e; subst e
          split
          · rw [hi4]; rfl
          · rename_i hx; rw [List.getElem?_eq_none (by omega)]
        · rfl) (fun h => absurd h25 h) (fun op hop => ⟨(hno op hop).1, (hno op hop).2.2, fun a ha => by rw [(hno op hop).2.1] at ha; cases ha⟩) rfl ?_ (.inl ?_) (hq.status.elim (fun a => .inr (.inl a)) fun a => .inr (.inr ⟨a, rfl⟩)) .refl h25 ⟨h25, n, hr', hq⟩⟩
  · refine iv.hoOwn rfl (fun op hop => (hno op hop).1) (late_stays (iv.ho _ _ hj rfl) rfl (fun a => a) fun m hm hgm => ?_)
    obtain ⟨op, h1, h2, h3⟩ := new_op hm hgm
    exact not_counts_mute h2 (hno op h1).2.1
  · rcases hq.status with a | a <;> rw [a] <;> simp
end
end Go.HL
end

/-! QKMf -/
section
namespace Go.HL
set_option linter.unusedSectionVars false
variable [Tasks]
open Go Go.Conc
set_option linter.unusedVariables false
set_option linter.unusedSectionVars false
set_option linter.unusedSimpArgs false
section
variable {P : Program} {Φ : Goroutine → Heap → Prop} {k : Ctx} {γ : Gm} {rs : List Rank} {H : List Gh} {L0 : Heap} {tm : Tk} {ws : List Gh} {gs : Array Goroutine} {w : World} {t : Trace} {sl : Option (Nat × Nat)} {j : Nat}
theorem map_tk_set {ws : List Gh} {i : Nat} {h h' : Gh} (hi : ws[i]? = some h) (he : h'.tk = h.tk) : (ws.set i h').map Gh.tk = ws.map Gh.tk := by
  apply List.ext_getElem?
  intro n
  rw [List.map_set, List.getElem?_set]
  split
  · rename_i e; subst e
    split
    · simp [hi, he]
    · rename_i hx; rw [List.getElem?_eq_none (by omega)]
  · rfl
theorem Iv.ghost (iv : Iv P Φ k γ rs H L0 tm ws gs w t) {h h' : Gh} {r' : Rank} {g : Goroutine} {L0' : Heap} {ws' : List Gh} (hj : H[j]? = some h) (hg : gs[j]? = some g) (hH : H.set j h' = .main L0' tm :: ws') (hnl : ∀ L t, j ≠ 0 → h' ≠ .main L t) (hmap : ws'.map Gh.tk = ws.map Gh.tk)
    (hw : ∀ b, InW h'.L b → InW h.L b) (hb : ∀ b, InB h'.L b → InB h.L b) (hsat : Sat k w h'.L) (htok : ∀ p ∈ h'.L.flatten, gho p.2 = true → p = h'.tk.at_) (htk : h'.tk = h.tk) (hdf : h'.df = h.df) (hlate : h'.late = true → h.late = true) (hok : h'.ok) (hst : StG P Φ γ r' g h') :
    Iv P Φ k γ (rs.set j r') (H.set j h') L0' tm ws' gs w t := by
  have hlen : (H.set j h').length = H.length := by simp
  refine ⟨hH, ?_, by simp [iv.gsz], by simp [iv.rsz], ?_, iv.sat0, ?_, ?_, ?_, iv.sh, ?_, by rw [hmap]; exact iv.toks, ?_, ?_, ?_, ?_, ?_, ⟨iv.old.same, fun i x b hi hwx ho => ?_, iv.old.sh, iv.old.lt⟩⟩
  · intro x hx L t' e
    obtain ⟨i, hi⟩ := List.getElem?_of_mem hx
    have : (H.set j h')[i + 1]? = some x := by rw [hH]; simpa using hi
    rcases Zb this with ⟨a, rfl⟩ | ⟨a, b⟩
    · exact hnl L t' (by omega) e
    · rw [iv.hd] at b; simp at b
      exact iv.nl x (List.mem_of_getElem? b) L t' e
  · intro i x y o hi hri ho
    rcases Zb hi with ⟨rfl, rfl⟩ | ⟨hij, hi'⟩
    · rcases Zb hri with ⟨_, rfl⟩ | ⟨a, _⟩
      · rw [hg] at ho; cases ho; exact hst
      · exact absurd rfl a
    · exact iv.st i x y o hi' ((Zb hri).resolve_left (fun a => hij a.1)).2 ho
  · intro i x hi
    rcases Zb hi with ⟨rfl, rfl⟩ | ⟨_, hi'⟩
    · exact hsat
    · exact iv.sat i x hi'
  · intro i x hi
    rcases Zb hi with ⟨rfl, rfl⟩ | ⟨_, hi'⟩
    · exact htok
    · exact iv.tok i x hi'
  · intro i i' a b x hii ha hb' hwx hbx
    rcases Zb ha with ⟨rfl, rfl⟩ | ⟨_, ha'⟩
    · exact iv.dis i i' h b x hii hj ((Zb hb').resolve_left (fun q => hii q.1.symm)).2 (hw x hwx) hbx
    · rcases Zb hb' with ⟨rfl, rfl⟩ | ⟨_, hb2⟩
      · exact iv.dis i i' a h x hii ha' hj hwx (hb x hbx)
      · exact iv.dis i i' a b x hii ha' hb2 hwx hbx
  · intro h12 i x b hi hs hbx
    rcases Zb hi with ⟨rfl, rfl⟩ | ⟨_, hi'⟩
    · exact iv.shB h12 i h b hj hs (hb b hbx)
    · exact iv.shB h12 i x b hi' hs hbx
  · rw [hlen]
    obtain ⟨hl1, hl2⟩ := LfH_set (h' := h') hj
    refine (iv.ti.heap (Lf' := LfH (H.set j h')) (fun i b hx => ?_) fun i b hx => ?_).less (fun _ a => a) fun i ⟨x, hx, hp⟩ => ?_
    · by_cases e : i = j
      · subst e; rw [hl1] at hx; rw [LfH_at hj]; exact hw b hx
      · rw [hl2 i e] at hx; exact hx
    · by_cases e : i = j
      · subst e; rw [hl1] at hx; rw [LfH_at hj]; exact hb b hx
      · rw [hl2 i e] at hx; exact hx
    · rcases Zb hx with ⟨rfl, rfl⟩ | ⟨_, hi'⟩
      · exact ⟨h, hj, by rw [← htk]; exact hp⟩
      · exact ⟨x, hi', hp⟩
  · intro i x hi
    rcases Zb hi with ⟨rfl, rfl⟩ | ⟨_, hi'⟩
    · rw [hdf]; exact iv.deaf i h hj
    · exact iv.deaf i x hi'
  · intro i x hi hx
    rcases Zb hi with ⟨rfl, rfl⟩ | ⟨_, hi'⟩
    · exact iv.ho i h hj (hlate hx)
    · exact iv.ho i x hi' hx
  · intro i x hi
    rcases Zb hi with ⟨rfl, rfl⟩ | ⟨_, hi'⟩
    · exact hok
    · exact iv.ok i x hi'
  · intro o ho hbl h0 i y hi hy hyb
    obtain ⟨h3, x, h4, h5⟩ := iv.nm o ho hbl h0 i y hi hy hyb
    refine ⟨h3, ?_⟩
    by_cases e : i = j
    · subst e
      rw [hj] at h4; cases h4
      exact ⟨h', by rw [List.getElem?_set]; simp [(List.getElem?_eq_some_iff.1 hj).1], by rw [htk]; exact h5⟩
    · exact ⟨x, by rw [List.getElem?_set_ne (fun q => e q.symm)]; exact h4, h5⟩
  · rcases Zb hi with ⟨rfl, rfl⟩ | ⟨_, hi'⟩
    · exact iv.old.own i h b hj (hw b hwx) ho
    · exact iv.old.own i x b hi' hwx ho
theorem Iv.weakStep (iv : Iv P Φ k γ rs H L0 tm ws gs w t) {main : Bool} {L L' : Heap} {tk : Tk} {r' : Rank} {g : Goroutine} (hj : H[j]? = some (gh main L tk)) (hg : gs[j]? = some g) (hrun : g.status = .running) (hw : Wk L L') (hk : Rk P Φ r' main g L') :
    ∃ L0' ws', Iv P Φ k γ (rs.set j r') (H.set j (gh main L' tk)) L0' tm ws' gs w t := by
  have hL : (gh main L tk).L = L := gh_L
  have hs := iv.sat j _ hj
  rw [hL] at hs
  have ht := iv.tok j _ hj
  rw [hL, gh_tk] at ht
  cases main with
  | true =>
    obtain ⟨rfl, rfl, rfl⟩ := iv.isMain (show H[j]? = some (.main L tk) from hj)
    exact ⟨L', ws, iv.ghost (h' := .main L' tk) hj hg (by rw [iv.hd]; rfl) (fun L t hj0 e => absurd rfl hj0) rfl hw.w hw.b (hw.sat k w hs) (fun p hp hgp => ht p (hw.tok p hp hgp) hgp) rfl rfl (fun h => h) (show Gh.ok (.main L' tk) from iv.ok 0 (.main L tk) hj) (.inl ⟨hrun, hk⟩)⟩
  | false =>
    obtain ⟨i, rfl, h1, h2, h3, h4⟩ := iv.isWork (show H[j]? = some (.live L tk) from hj) (fun L t e => by cases e)
    exact ⟨L0, _, iv.ghost (h' := .live L' tk) hj hg (h2 _) (fun L t hj0 e => by cases e) (map_tk_set h1 rfl) hw.w hw.b (hw.sat k w hs) (fun p hp hgp => ht p (hw.tok p hp hgp) hgp) rfl rfl (fun h => h) (show Gh.ok (.live L' tk) from iv.ok _ (.live L tk) hj) (.inl ⟨hrun, hk⟩)⟩
theorem Iv.quitStep (iv : Iv P Φ k γ rs H L0 tm ws gs w t) {tk : Tk} {n : Nat} {g : Goroutine} (hj : H[j]? = some (.tail tk)) (hg : gs[j]? = some g) (h25 : tk.st = 25) (hq : QuitsD P n 1 g) :
    ∃ ws', Iv P Φ k γ (rs.set j (Tn n)) (H.set j (.gone tk 1)) L0 tm ws' gs w t := by
  obtain ⟨i, rfl, h1, h2, h3, h4⟩ := iv.isWork hj (fun L t e => by cases e)
  exact ⟨_, iv.ghost (h' := .gone tk 1) hj hg (h2 _) (fun L t hj0 e => by cases e) (map_tk_set h1 rfl) (fun b h => h) (fun b h => h) iv.sat0 (by simp [Gh.L]) rfl (by simp [Gh.df, h25]) (fun _ => rfl) h25 ⟨h25, n, rfl, hq⟩⟩
/-- a new group -/
theorem Iv.beginStep (iv : Iv P Φ k γ rs H L0 tm ws gs w t) {L : Heap} {rest : List Blk} {tk t' : Tk} {r' : Rank} {g : Goroutine} {c d u E : Nat} (hj : H[j]? = some (.main L tk)) (hr : ∃ r, rs[j]? = some r) (hg : gs[j]? = some g) (hrun : g.status = .running) (h12 : tk.st = 12) (h0 : t'.st = 0) (e1 : t'.todo = c) (e2 : t'.back = d) (e3 : t'.wg = u) (e4 : t'.n = 0) (e5 : t'.a = 0) (e6 : t'.b = 0) (e7 : t'.l = [])
    (hls : LS (tk.at_ :: (c, .chan 0 #[] false 0 0 false) :: (d, .chan 0 #[] false 0 0 false) :: (u, wgObj Tasks.T 0 0 0) :: rest) L.flatten) (hk : Rk P Φ r' true g [t'.at_ :: rest]) :
    ∃ γ' L0' tm' ws', Iv P Φ k γ' (rs.set j r') (H.set j (.main [t'.at_ :: rest] t')) L0' tm' ws' gs w t := by
  obtain ⟨rfl, rfl, rfl⟩ := iv.isMain hj
  have hs : Sat k w L := iv.sat 0 _ hj
  have hfl : ([t'.at_ :: rest] : Heap).flatten = t'.at_ :: rest := by simp
  have hs2 : Sat k w [tk.at_ :: (c, .chan 0 #[] false 0 0 false) :: (d, .chan 0 #[] false 0 0 false) :: (u, wgObj Tasks.T 0 0 0) :: rest] := hs.sp (by simpa using hls)
  have hnd := hs2.nodup
  simp only [List.flatten_cons, List.flatten_nil, List.append_nil, List.map_cons, List.nodup_cons, List.mem_cons, not_or] at hnd
  have hpc : pln (.chan 0 #[] false 0 0 false) = true := rfl
  have hpu : pln (wgObj Tasks.T 0 0 0) = true := by
    have : Nat.blt Tasks.m 0 = false := by
      cases h : Nat.blt Tasks.m 0 with
      | false => rfl
      | true => exact absurd (Nat.le_of_ble_eq_true h) (by omega)
    simp [pln, gho, rob, wgObj, this]
  have inL : ∀ p ∈ (c, Obj.chan 0 #[] false 0 0 false) :: (d, .chan 0 #[] false 0 0 false) :: (u, wgObj Tasks.T 0 0 0) :: rest, p ∈ L.flatten := fun p hp => hls.mem (List.mem_cons_of_mem _ hp)
  have mc : (c, Obj.chan 0 #[] false 0 0 false) ∈ L.flatten := inL _ (by simp)
  have md : (d, Obj.chan 0 #[] false 0 0 false) ∈ L.flatten := inL _ (by simp)
  have mu : (u, wgObj Tasks.T 0 0 0) ∈ L.flatten := inL _ (by simp)
  let γ' : Gm := ⟨c, d, u, E, 0, 0, 0, false⟩
  have hSh : ∀ b, Sh γ' b → InW L b := by
    intro b hb
    have hb : b = c ∨ b = d ∨ b = u := hb
    rcases hb with e | e | e <;> rw [e]
    · exact ⟨_, mc, hpc⟩
    · exact ⟨_, md, hpc⟩
    · exact ⟨_, mu, hpu⟩
  have hSh2 : ∀ b, Sh γ' b → ¬ InB ([t'.at_ :: rest] : Heap) b := by
    rintro b hb ⟨o, h1, h2⟩
    rw [hfl] at h1
    rcases List.mem_cons.1 h1 with h1 | h1
    · cases h1; cases h2
    · have hm : b ∈ rest.map (·.1) := List.mem_map.2 ⟨_, h1, rfl⟩
      have hb : b = c ∨ b = d ∨ b = u := hb
      rcases hb with e | e | e <;> rw [e] at hm
      · exact hnd.2.1.2.2 hm
      · exact hnd.2.2.1.2 hm
      · exact hnd.2.2.2.1 hm
  have h25 : ∀ x ∈ ws.map Gh.tk, x.st = 25 := by
    rcases iv.toks.ph with ⟨a, _⟩ | ⟨a, _⟩ | ⟨a, _⟩ | ⟨a, _⟩ | ⟨_, a⟩ <;> (try (exfalso; omega))
    exact a
  have hw : ∀ b, InW ([t'.at_ :: rest] : Heap) b → InW L b := fun b ⟨o, h1, h2⟩ => by
    rw [hfl] at h1
    rcases List.mem_cons.1 h1 with h1 | h1
    · cases h1; cases h2
    · exact ⟨o, inL _ (by simp [h1]), h2⟩
  have hb : ∀ b, InB ([t'.at_ :: rest] : Heap) b → InB L b := fun b ⟨o, h1, h2⟩ => by
    rw [hfl] at h1
    rcases List.mem_cons.1 h1 with h1 | h1
    · cases h1; cases h2
    · exact ⟨o, inL _ (by simp [h1]), h2⟩
  have hat : ∀ p ∈ L.flatten, gho p.2 = true → p = tk.at_ := iv.tok 0 _ hj
  have hnr : ∀ p ∈ rest, gho p.2 = false := fun p hp => by
    cases hgp : gho p.2 with
    | false => rfl
    | true =>
      exfalso
      have := hat p (inL p (by simp [hp])) hgp
      subst this
      exact hnd.1.2.2.2 (List.mem_map.2 ⟨_, hp, rfl⟩)
  have hsN : Sat k w [t'.at_ :: rest] := by
    refine ⟨hs.os, hs.out, hs.tape, fun p hp hgp => ?_, ?_, fun p hp => ?_, fun p hp => ?_⟩ <;> rw [hfl] at *
    · rcases List.mem_cons.1 hp with rfl | hp
      · cases hgp
      · exact hs.has p (inL p (by simp [hp])) hgp
    · rw [List.map_cons, List.nodup_cons]
      refine ⟨?_, hnd.2.2.2.2⟩
      show t'.todo ∉ _
      rw [e1]; exact hnd.2.1.2.2
    · rcases List.mem_cons.1 hp with rfl | hp
      · rfl
      · exact hs.nv p (inL p (by simp [hp]))
    · rcases List.mem_cons.1 hp with rfl | hp
      · show t'.todo < _
        rw [e1]; exact hs.lt _ mc
      · exact hs.lt p (inL p (by simp [hp]))
  refine ⟨γ', [t'.at_ :: rest], t', ws, ?_⟩
  have hH : H.set 0 (.main [t'.at_ :: rest] t') = .main [t'.at_ :: rest] t' :: ws := by rw [iv.hd]; rfl
  have hw25 : ∀ (i : Nat) x, i ≠ 0 → H[i]? = some x → x.tk.st = 25 := fun i x hi hx => by
    rw [iv.hd] at hx
    cases i with
    | zero => exact absurd rfl hi
    | succ i => simp at hx; exact h25 _ (List.mem_map.2 ⟨x, List.mem_of_getElem? hx, rfl⟩)
  refine ⟨hH, iv.nl, by simp [iv.gsz], by simp [iv.rsz], ?_, iv.sat0, ?_, ?_, ?_, fun _ => ?_, ?_, iv.toks.begin h12 h0 e4 e5 e6 e7 ⟨e1, e2, e3⟩ ⟨rfl, rfl, rfl, rfl⟩, ?_, ?_, ?_, ?_, ?_, ⟨iv.old.same, fun i x b hi hwx ho => ?_, fun _ b hs ho => iv.old.own 0 _ b hj (hSh b hs) ho, iv.old.lt⟩⟩
  · intro i x y o hi hri ho
    rcases Zb hi with ⟨rfl, rfl⟩ | ⟨hij, hi'⟩
    · rcases Zb hri with ⟨_, rfl⟩ | ⟨a, _⟩
      · rw [hg] at ho; cases ho; exact .inl ⟨hrun, hk⟩
      · exact absurd rfl a
    · have hso := iv.st i x y o hi' ((Zb hri).resolve_left (fun a => hij a.1)).2 ho
      have h5 := hw25 i x hij hi'
      cases x with
      | main L t => exact absurd (iv.isMain hi').1 hij
      | live L t => have h6 : 20 ≤ t.st ∧ t.st ≤ 22 := iv.ok i _ hi'; simp only [Gh.tk] at h5; omega
      | tail t => exact hso
      | gone t d => exact hso
  · intro i x hi
    rcases Zb hi with ⟨rfl, rfl⟩ | ⟨_, hi'⟩
    · exact hsN
    · exact iv.sat i x hi'
  · intro i x hi
    rcases Zb hi with ⟨rfl, rfl⟩ | ⟨_, hi'⟩
    · intro p hp hgp
      simp only [Gh.L, hfl] at hp
      rcases List.mem_cons.1 hp with rfl | hp
      · rfl
      · rw [hnr p hp] at hgp; cases hgp
    · exact iv.tok i x hi'
  · intro i i' a b x hii ha hb' hwx hbx
    rcases Zb ha with ⟨rfl, rfl⟩ | ⟨_, ha'⟩
    · exact iv.dis 0 i' _ b x hii hj ((Zb hb').resolve_left (fun q => hii q.1.symm)).2 (hw x hwx) hbx
    · rcases Zb hb' with ⟨rfl, rfl⟩ | ⟨_, hb2⟩
      · exact iv.dis i 0 a _ x hii ha' hj hwx (hb x hbx)
      · exact iv.dis i i' a b x hii ha' hb2 hwx hbx
  · refine ⟨⟨0, ?_⟩, ⟨0, ?_⟩, ?_, ?_⟩
    · exact hs.has _ mc rfl
    · exact hs.has _ md rfl
    · have := hs.has _ mu rfl
      rw [act_pln hpu] at this; exact this
    · exact ⟨fun e => hnd.2.1.1 e, fun e => hnd.2.1.2.1 e, fun e => hnd.2.2.1.1 e⟩
  · intro _ i x b hi hsb hbx
    rcases Zb hi with ⟨rfl, rfl⟩ | ⟨hij, hi'⟩
    · exact hSh2 b hsb hbx
    · exact iv.dis 0 i _ x b (fun e => hij e.symm) hj hi' (hSh b hsb) hbx
  · have hlen : (H.set 0 (.main [t'.at_ :: rest] t')).length = H.length := by simp
    rw [hlen]
    obtain ⟨hl1, hl2⟩ := LfH_set (h' := .main [t'.at_ :: rest] t') hj
    have hti := iv.ti
    refine ⟨hti.nr, hti.g, hti.lt, fun i b hx => ?_, fun i b hx => ?_, fun i b hp hsb => ?_, hti.shs, hti.rel⟩
    · by_cases e : i = 0
      · subst e; rw [hl1] at hx
        exact hti.own 0 b (by rw [LfH_at hj]; exact hw b hx)
      · rw [hl2 i e] at hx; exact hti.own i b hx
    · by_cases e : i = 0
      · subst e; rw [hl1] at hx
        exact hti.rd 0 b (by rw [LfH_at hj]; exact hb b hx)
      · rw [hl2 i e] at hx; exact hti.rd i b hx
    · obtain ⟨x, hx, hp⟩ := hp
      rcases Zb hx with ⟨rfl, rfl⟩ | ⟨hij, hi'⟩
      · exact (hti.own 0 b (by rw [LfH_at hj]; exact hSh b hsb.2)).imp fun _ _ => trivial
      · exact absurd (hw25 i x hij hi') hp
  · intro i x hi
    rcases Zb hi with ⟨rfl, rfl⟩ | ⟨_, hi'⟩
    · have := iv.deaf 0 _ hj
      simp only [Gh.df, h12, h0, dfm] at this ⊢
      simpa using this
    · exact iv.deaf i x hi'
  · intro i x hi hx
    rcases Zb hi with ⟨rfl, rfl⟩ | ⟨_, hi'⟩
    · cases hx
    · rcases iv.ho i x hi' hx with a | ⟨a, _⟩
      · exact .inl a
      · exact absurd h12 a
  · intro i x hi
    rcases Zb hi with ⟨rfl, rfl⟩ | ⟨_, hi'⟩
    · show t'.st ≤ 12; omega
    · exact iv.ok i x hi'
  · intro o ho hbl
    rw [hg] at ho; cases ho
    rw [hrun] at hbl; cases hbl
  · rcases Zb hi with ⟨rfl, rfl⟩ | ⟨_, hi'⟩
    · exact iv.old.own 0 _ b hj (hw b hwx) ho
    · exact iv.old.own i x b hi' hwx ho
end
end Go.HL
end

/-! QKMg -/
section
namespace Go.HL
set_option linter.unusedSectionVars false
variable [Tasks]
open Go Go.Conc
set_option linter.unusedVariables false
set_option linter.unusedSectionVars false
set_option linter.unusedSimpArgs false
theorem nodup_same {l : List Blk} (h : (l.map (·.1)).Nodup) {b : Nat} {o o' : Obj} (h1 : (b, o) ∈ l) (h2 : (b, o') ∈ l) : o = o' := by
  induction l with
  | nil => cases h1
  | cons x l ih =>
    rw [List.map_cons, List.nodup_cons] at h
    rcases List.mem_cons.1 h1 with e1 | e1 <;> rcases List.mem_cons.1 h2 with e2 | e2
    · rw [← e1] at e2; cases e2; rfl
    · subst e1; exact absurd (show b ∈ l.map (·.1) from List.mem_map.2 ⟨(b, o'), e2, rfl⟩) h.1
    · subst e2; exact absurd (show b ∈ l.map (·.1) from List.mem_map.2 ⟨(b, o), e1, rfl⟩) h.1
    · exact ih h.2 e1 e2
theorem LS.nodup {a b : List Blk} (h : LS a b) (hb : (b.map (·.1)).Nodup) : (a.map (·.1)).Nodup := by
  obtain ⟨l, h1, h2⟩ := h
  exact (h1.map _).nodup_iff.1 (hb.sublist (h2.map _))
section
variable {P : Program} {Φ : Goroutine → Heap → Prop} {k : Ctx} {γ : Gm} {rs : List Rank} {H : List Gh} {L0 : Heap} {tm : Tk} {ws : List Gh} {gs : Array Goroutine} {w : World} {t : Trace} {sl : Option (Nat × Nat)} {j : Nat}
theorem Iv.spawnStep (iv : Iv P Φ k γ rs H L0 tm ws gs w t) {L L1 L' Lc : Heap} {tk : Tk} {d : Deferred} {r' rc : Rank} {g g' : Goroutine} (hj : H[j]? = some (.main L tk)) (hg : gs[j]? = some g) (hstep : stepG P true g w = .spawn g' (born P d) w #[]) (hrun' : g'.status = .running) (h3 : tk.st = 3)
    (hu : Upd L tk.todo tk.obj ({ tk with st := 0, n := tk.n + 1 } : Tk).obj L1) (hgv : Give L1 L' Lc { tk with st := 20 }) (hk : Rk P Φ r' true g' L') (hkc : Rk P Φ rc false (born P d) Lc) :
    ∃ gs' ops, runT P (crowd gs w sl) j = (.next (crowd gs' w sl), ops) ∧ Iv P Φ k γ (rs.set j r' ++ [rc]) (H.set j (.main L' { tk with st := 0, n := tk.n + 1 }) ++ [Gh.live Lc { tk with st := 20 }]) L' { tk with st := 0, n := tk.n + 1 } (ws ++ [Gh.live Lc { tk with st := 20 }]) gs' w (t ++ ops) := by
  obtain ⟨rfl, rfl, rfl⟩ := iv.isMain hj
  have h12 : tk.st ≠ 12 := by omega
  have hs : Sat k w L := iv.sat 0 _ hj
  have hs1 : Sat k w L1 := hu.sat rfl rfl rfl hs
  have htok1 := hu.gtok (tk := tk) (t' := { tk with st := 0, n := tk.n + 1 }) rfl (iv.tok 0 _ hj) hs.nodup
  obtain ⟨⟨own, ro, hp, hls, hpl, hro⟩, hnd⟩ := hgv
  have hLc : ∀ p ∈ Lc.flatten, p = ({ tk with st := 20 } : Tk).at_ ∨ p ∈ own ∨ p ∈ ro := fun p hm => by
    have := hp.mem_iff.1 hm
    simpa using this
  have own1 : ∀ p ∈ own, p ∈ L1.flatten := fun p hm => hls.mem (List.mem_append_left _ hm)
  have L'1 : ∀ p ∈ L'.flatten, p ∈ L1.flatten := fun p hm => hls.mem (List.mem_append_right _ hm)
  have ro1 : ∀ p ∈ ro, p ∈ L1.flatten := fun p hm => L'1 p (hro p hm).2
  have hnd2 := hls.nodup hs1.nodup
  have apart : ∀ b o o', (b, o) ∈ own → (b, o') ∈ L'.flatten → False := fun b o o' h1 h2 => by
    rw [List.map_append, List.nodup_append] at hnd2
    exact hnd2.2.2 b (List.mem_map.2 ⟨_, h1, rfl⟩) b (List.mem_map.2 ⟨_, h2, rfl⟩) rfl
  have hrog : ∀ o, rob o = true → gho o = false := fun o h => by cases o <;> first | rfl | cases h
  have F1 : ∀ x, InW L' x → InW L x := fun x ⟨o, h1, h2⟩ => (hu.gW rfl rfl x).1 ⟨o, L'1 _ h1, h2⟩
  have F2 : ∀ x, InB L' x → InB L x := fun x ⟨o, h1, h2⟩ => (hu.gB rfl rfl x).1 ⟨o, L'1 _ h1, h2⟩
  have F3 : ∀ x, InW Lc x → InW L x ∧ ¬ InB L' x := fun x ⟨o, h1, h2⟩ => by
    rcases hLc _ h1 with h1 | h1 | h1
    · cases h1; cases h2
    · exact ⟨(hu.gW rfl rfl x).1 ⟨o, own1 _ h1, h2⟩, fun ⟨o', h3, _⟩ => apart x o o' h1 h3⟩
    · have := (hro _ h1).1; rw [pln_rob h2] at this; cases this
  have F4 : ∀ x, InB Lc x → InB L x := fun x ⟨o, h1, h2⟩ => by
    rcases hLc _ h1 with h1 | h1 | h1
    · cases h1; cases h2
    · exact (hu.gB rfl rfl x).1 ⟨o, own1 _ h1, h2⟩
    · exact (hu.gB rfl rfl x).1 ⟨o, ro1 _ h1, h2⟩
  have F5 : ∀ x, InW L' x → ¬ InB Lc x := fun x ⟨o, h1, h2⟩ ⟨o', h3, h4⟩ => by
    rcases hLc _ h3 with h3 | h3 | h3
    · cases h3; cases h4
    · exact apart x o' o h3 h1
    · obtain ⟨h5, h6⟩ := hro _ h3
      have := nodup_same (hs1.nodup) (L'1 _ h1) (L'1 _ h6)
      subst this
      rw [pln_rob h2] at h5; cases h5
  have hsL' : Sat k w L' := hs1.sp (by
    obtain ⟨l, h1, h2⟩ := hls
    exact LS.trans ⟨L'.flatten, .refl _, List.sublist_append_right _ _⟩ ⟨l, h1, h2⟩)
  have hsc : Sat k w Lc := by
    refine ⟨hs.os, hs.out, hs.tape, fun p hm hgp => ?_, hnd, fun p hm => ?_, fun p hm => ?_⟩ <;> rcases hLc p hm with rfl | h1 | h1
    · cases hgp
    · exact hs1.has p (own1 p h1) hgp
    · exact hs1.has p (ro1 p h1) hgp
    · rfl
    · exact hs1.nv p (own1 p h1)
    · exact hs1.nv p (ro1 p h1)
    · exact hs.lt (tk.todo, tk.obj) hu.mem
    · exact hs1.lt p (own1 p h1)
    · exact hs1.lt p (ro1 p h1)
  have hn0 : 0 < H.length := (List.getElem?_eq_some_iff.1 hj).1
  -- who stands where
  have hH' : ∀ {i : Nat} {x : Gh}, (H.set 0 (Gh.main L' { tk with st := 0, n := tk.n + 1 }) ++ [Gh.live Lc { tk with st := 20 }])[i]? = some x → (i = 0 ∧ x = .main L' { tk with st := 0, n := tk.n + 1 }) ∨ (i ≠ 0 ∧ i < H.length ∧ H[i]? = some x) ∨ (i = H.length ∧ x = .live Lc { tk with st := 20 }) := by
    intro i x hi
    rcases Nat.lt_trichotomy i H.length with hlt | rfl | hgt
    · rw [List.getElem?_append_left (by simpa using hlt)] at hi
      rcases Zb hi with ⟨a, b⟩ | ⟨a, b⟩
      · exact .inl ⟨a, b⟩
      · exact .inr (.inl ⟨a, hlt, b⟩)
    · rw [List.getElem?_append_right (by simp)] at hi
      simp at hi
      exact .inr (.inr ⟨rfl, hi.symm⟩)
    · rw [List.getElem?_eq_none (by simp; omega)] at hi; cases hi
  have hgs : ∀ {i : Nat} {o : Goroutine}, ((gs.setIfInBounds 0 g').push (born P d))[i]? = some o → (i = 0 ∧ o = g') ∨ (i ≠ 0 ∧ i < H.length ∧ gs[i]? = some o) ∨ (i = H.length ∧ o = born P d) := by
    intro i o hi
    rw [Array.getElem?_push] at hi
    split at hi
    · rename_i e
      cases hi
      rw [Array.size_setIfInBounds, iv.gsz] at e
      exact .inr (.inr ⟨e, rfl⟩)
    · by_cases e : i = 0
      · subst e
        rw [Array.getElem?_setIfInBounds_self_of_lt (by rw [iv.gsz]; exact hn0)] at hi
        cases hi; exact .inl ⟨rfl, rfl⟩
      · rw [Array.getElem?_setIfInBounds_ne (fun q => e q.symm)] at hi
        exact .inr (.inl ⟨e, by rw [← iv.gsz]; exact (Array.getElem?_eq_some_iff.1 hi).1, hi⟩)
  have hrs : ∀ {i : Nat} {y : Rank}, (rs.set 0 r' ++ [rc])[i]? = some y → (i = 0 ∧ y = r') ∨ (i ≠ 0 ∧ i < H.length ∧ rs[i]? = some y) ∨ (i = H.length ∧ y = rc) := by
    intro i y hi
    rcases Nat.lt_trichotomy i H.length with hlt | rfl | hgt
    · rw [List.getElem?_append_left (by rw [List.length_set, iv.rsz]; exact hlt)] at hi
      rcases Zb hi with ⟨a, b⟩ | ⟨a, b⟩
      · exact .inl ⟨a, b⟩
      · exact .inr (.inl ⟨a, hlt, b⟩)
    · rw [List.getElem?_append_right (by simp [iv.rsz])] at hi
      simp [iv.rsz] at hi
      exact .inr (.inr ⟨rfl, hi.symm⟩)
    · rw [List.getElem?_eq_none (by simp [iv.rsz]; omega)] at hi; cases hi
  have hrt := runT_crowd_spawn (sl := sl) hg hstep
  generalize hx : ({ g := 0, fn := g.frame.fn, pos := g.frame.place, act := .go gs.size } : MemOp) = x at hrt
  generalize hy : ({ g := gs.size, fn := (born P d).frame.fn, pos := g.frame.place, act := .start } : MemOp) = y at hrt
  have hop : ((MemOp.ofEvents 0 g.frame.fn g.frame.place #[]).push x).push y = #[x, y] := by simp [ofEvents_eq]
  rw [hop] at hrt
  refine ⟨_, _, hrt, ?_⟩
  have xg : x.g = 0 ∧ x.act = .go H.length := by subst hx; exact ⟨rfl, by rw [← iv.gsz]⟩
  have yg : y.g = H.length ∧ y.act = .start := by subst hy; exact ⟨iv.gsz, rfl⟩
  have hmute : ∀ op ∈ (#[x, y] : Trace), op.act.touch? = none ∧ op.g < H.length + 1 ∧ ∀ a, op.act ≠ .mark (.release a) := fun op ho => by
    simp only [List.mem_toArray, List.mem_cons, List.not_mem_nil, or_false] at ho
    rcases ho with rfl | rfl
    · exact ⟨by rw [xg.2]; rfl, by rw [xg.1]; omega, fun a e => by rw [xg.2] at e; cases e⟩
    · exact ⟨by rw [yg.2]; rfl, by rw [yg.1]; omega, fun a e => by rw [yg.2] at e; cases e⟩
  have d0 : Deaf t 0 = 0 := by rw [iv.deaf 0 _ hj]; simp [Gh.df, dfm, h3]
  have dn : Deaf t H.length = 0 := ConcN.Deaf_absent fun i op hi e => by have := iv.ti.g i op hi; omega
  have fk : ∀ i, Knows t 0 i → Knows (t ++ #[x, y]) H.length i := fun i h => ConcN.fork_knows xg yg d0 dn h
  have dpush : ∀ i, Deaf (t ++ #[x, y]) i = Deaf t i := fun i => by
    have e : t ++ #[x, y] = (t ++ #[x]) ++ #[y] := by apply Array.ext'; simp
    rw [e, Deaf_push, Deaf_push]
    simp [deafStep, xg.2, yg.2]
  have main' : LfH (H.set 0 (Gh.main L' { tk with st := 0, n := tk.n + 1 }) ++ [Gh.live Lc { tk with st := 20 }]) 0 = L' := by
    simp [LfH, List.getElem?_append_left (show 0 < (H.set 0 (Gh.main L' { tk with st := 0, n := tk.n + 1 })).length by simpa using hn0), hn0, Gh.L]
  have lfh : ∀ {i b}, (InB (LfH (H.set 0 (Gh.main L' { tk with st := 0, n := tk.n + 1 }) ++ [Gh.live Lc { tk with st := 20 }]) i) b) → ∃ z, (H.set 0 (Gh.main L' { tk with st := 0, n := tk.n + 1 }) ++ [Gh.live Lc { tk with st := 20 }])[i]? = some z := fun {i b} hb => by
    cases hi : (H.set 0 (Gh.main L' { tk with st := 0, n := tk.n + 1 }) ++ [Gh.live Lc { tk with st := 20 }])[i]? with
    | none => rw [LfH, hi] at hb; exact absurd hb noB
    | some z => exact ⟨z, rfl⟩
  refine ⟨by rw [iv.hd]; rfl, ?_, by simp [iv.gsz], by simp [iv.rsz], ?_, iv.sat0, ?_, ?_, ?_, fun _ => iv.sh h12, ?_, ?_, ?_, ?_, ?_, ?_, ?_, ⟨iv.old.same, fun i z b hi hwx ho => ?_, fun _ b hs ho => iv.old.sh h12 b hs ho, iv.old.lt⟩⟩
  · intro z hz L t e
    rcases List.mem_append.1 hz with hz | hz
    · exact iv.nl z hz L t e
    · simp at hz; subst hz; cases e
  · intro i z yy o hi hri ho
    rcases hH' hi with ⟨rfl, rfl⟩ | ⟨h0, hlt, hi'⟩ | ⟨rfl, rfl⟩
    · obtain ⟨_, rfl⟩ := (hrs hri).resolve_right (by rintro (⟨a, _⟩ | ⟨a, _⟩); exact a rfl; omega)
      obtain ⟨_, rfl⟩ := (hgs ho).resolve_right (by rintro (⟨a, _⟩ | ⟨a, _⟩); exact a rfl; omega)
      exact .inl ⟨hrun', hk⟩
    · have hri' := ((hrs hri).resolve_left (fun a => h0 a.1)).resolve_right (fun a => by omega)
      have ho' := ((hgs ho).resolve_left (fun a => h0 a.1)).resolve_right (fun a => by omega)
      exact iv.st i z yy o hi' hri'.2.2 ho'.2.2
    · obtain ⟨_, rfl⟩ := ((hrs hri).resolve_left (fun a => by omega)).resolve_left (fun a => by omega)
      obtain ⟨_, rfl⟩ := ((hgs ho).resolve_left (fun a => by omega)).resolve_left (fun a => by omega)
      exact .inl ⟨rfl, hkc⟩
  · intro i z hi
    rcases hH' hi with ⟨rfl, rfl⟩ | ⟨h0, hlt, hi'⟩ | ⟨rfl, rfl⟩
    · exact hsL'
    · exact iv.sat i z hi'
    · exact hsc
  · intro i z hi
    rcases hH' hi with ⟨rfl, rfl⟩ | ⟨h0, hlt, hi'⟩ | ⟨rfl, rfl⟩
    · exact fun p hp hg => htok1.2 p (L'1 p hp) hg
    · exact iv.tok i z hi'
    · intro p hm hgp
      rcases hLc p hm with h1 | h1 | h1
      · exact h1
      · rw [pln_gho (hpl p h1)] at hgp; cases hgp
      · rw [hrog _ (hro p h1).1] at hgp; cases hgp
  · intro i i' a b z hii ha hb hw hbz
    rcases hH' ha with ⟨rfl, rfl⟩ | ⟨h0, hlt, ha'⟩ | ⟨rfl, rfl⟩ <;> rcases hH' hb with ⟨rfl, rfl⟩ | ⟨h0', hlt', hb'⟩ | ⟨rfl, rfl⟩
    · exact hii rfl
    · exact iv.dis 0 i' _ b z hii hj hb' (F1 z hw) hbz
    · exact F5 z hw hbz
    · exact iv.dis i 0 a _ z hii ha' hj hw (F2 z hbz)
    · exact iv.dis i i' a b z hii ha' hb' hw hbz
    · exact iv.dis i 0 a _ z h0 ha' hj hw (F4 z hbz)
    · exact (F3 z hw).2 hbz
    · exact iv.dis 0 i' _ b z (fun e => h0' e.symm) hj hb' (F3 z hw).1 hbz
    · exact hii rfl
  · intro _ i z b hi hsb hb
    rcases hH' hi with ⟨rfl, rfl⟩ | ⟨h0, hlt, hi'⟩ | ⟨rfl, rfl⟩
    · exact iv.shB h12 0 _ b hj hsb (F2 b hb)
    · exact iv.shB h12 i z b hi' hsb hb
    · exact iv.shB h12 0 _ b hj hsb (F4 b hb)
  · rw [List.map_append]; exact iv.toks.born h3
  · have hlen : (H.set 0 (Gh.main L' { tk with st := 0, n := tk.n + 1 }) ++ [Gh.live Lc { tk with st := 20 }]).length = H.length + 1 := by simp
    rw [hlen]
    refine iv.ti.mute (Nat.le_succ _) hmute (fun i b hb => ?_) (fun i b hb => ?_) (fun i b hp hsb => ?_)
    · obtain ⟨z, hz⟩ := lfh hb.b
      rw [LfH_at hz] at hb
      rcases hH' hz with ⟨rfl, rfl⟩ | ⟨h0, hlt, hi'⟩ | ⟨rfl, rfl⟩
      · exact (iv.ti.own 0 b (by rw [LfH_at hj]; exact F1 b hb)).mute fun op ho => (hmute op ho).1
      · exact (iv.ti.own i b (by rw [LfH_at hi']; exact hb)).mute fun op ho => (hmute op ho).1
      · exact (iv.ti.own 0 b (by rw [LfH_at hj]; exact (F3 b hb).1)).pass fk fun op ho => (hmute op ho).1
    · obtain ⟨z, hz⟩ := lfh hb
      rw [LfH_at hz] at hb
      rcases hH' hz with ⟨rfl, rfl⟩ | ⟨h0, hlt, hi'⟩ | ⟨rfl, rfl⟩
      · exact (iv.ti.rd 0 b (by rw [LfH_at hj]; exact F2 b hb)).mute fun op ho => (hmute op ho).1
      · exact (iv.ti.rd i b (by rw [LfH_at hi']; exact hb)).mute fun op ho => (hmute op ho).1
      · exact (iv.ti.rd 0 b (by rw [LfH_at hj]; exact F4 b hb)).pass fk fun op ho => (hmute op ho).1
    · obtain ⟨z, hz, hp⟩ := hp
      have hs0 := iv.ti.shp 0 b ⟨_, hj, by show tk.st ≠ 25; omega⟩ ⟨h12, hsb.2⟩
      rcases hH' hz with ⟨rfl, rfl⟩ | ⟨h0, hlt, hi'⟩ | ⟨rfl, rfl⟩
      · exact hs0.mute fun op ho => (hmute op ho).1
      · exact (iv.ti.shp i b ⟨z, hi', hp⟩ ⟨h12, hsb.2⟩).mute fun op ho => (hmute op ho).1
      · exact hs0.pass fk fun op ho => (hmute op ho).1
  · intro i z hi
    rw [dpush]
    rcases hH' hi with ⟨rfl, rfl⟩ | ⟨h0, hlt, hi'⟩ | ⟨rfl, rfl⟩
    · rw [d0]; simp [Gh.df, dfm]
    · exact iv.deaf i z hi'
    · rw [dn]; rfl
  · intro i z hi hz
    rcases hH' hi with ⟨rfl, rfl⟩ | ⟨h0, hlt, hi'⟩ | ⟨rfl, rfl⟩
    · cases hz
    · refine late_stays (iv.ho i z hi' hz) rfl (fun _ => by simp) fun n hn hgn => ?_
      obtain ⟨op, h1, h2, _⟩ := new_op hn hgn
      exact not_counts_mute h2 (hmute op h1).1
    · cases hz
  · intro i z hi
    rcases hH' hi with ⟨rfl, rfl⟩ | ⟨h0, hlt, hi'⟩ | ⟨rfl, rfl⟩
    · show 0 ≤ 12; omega
    · exact iv.ok i z hi'
    · show 20 ≤ 20 ∧ 20 ≤ 22; omega
  · intro o ho hb
    obtain ⟨_, rfl⟩ := (hgs ho).resolve_right (by rintro (⟨a, _⟩ | ⟨a, _⟩); exact a rfl; omega)
    rw [hrun'] at hb; cases hb
  · rcases hH' hi with ⟨rfl, rfl⟩ | ⟨h0, hlt, hi'⟩ | ⟨rfl, rfl⟩
    · exact iv.old.own 0 _ b hj (F1 b hwx) ho
    · exact iv.old.own i z b hi' hwx ho
    · exact iv.old.own 0 _ b hj (F3 b hwx).1 ho
end
end Go.HL
end

/-! QKMh -/
section
namespace Go.HL
set_option linter.unusedSectionVars false
variable [Tasks]
open Go Go.Conc
set_option linter.unusedVariables false
set_option linter.unusedSectionVars false
set_option linter.unusedSimpArgs false
theorem upd_ex {L : Heap} {b : Nat} {o : Obj} (h : (b, o) ∈ L.flatten) (o' : Obj) : ∃ L', Upd L b o o' L' := by
  obtain ⟨l, r, e⟩ := List.append_of_mem h
  exact ⟨[l ++ (b, o') :: r], l, r, e, by simp⟩
/-- only the channels' counts turn -/
structure Cnt (γ : Gm) (w w' : World) : Prop where
  size : w'.heap.size = w.heap.size
  os : w'.os = w.os
  out : w'.output = w.output
  tape : w'.tape = w.tape
  keep : ∀ b, ¬ Sh γ b → w'.heap[b]? = w.heap[b]?
theorem Cnt.sat {γ : Gm} {k : Ctx} {w w' : World} {L : Heap} (h : Cnt γ w w') (hs : Sat k w L) (hb : ∀ b, Sh γ b → ¬ InB L b) : Sat k w' L :=
  hs.keep ⟨h.os.trans hs.os, h.out.trans hs.out, h.tape.trans hs.tape, by simp, by simp, by simp, by simp⟩ (by rw [h.size]; exact Nat.le_refl _) fun b hx => h.keep b fun e => hb b e hx
def NoMk (op : MemOp) : Prop := op.act.touch? = none ∧ ∀ m, op.act ≠ .mark m
theorem Deaf_nomk (t : Trace) (g : Nat) (u : Trace) (hu : ∀ op ∈ u, NoMk op) : Deaf (t ++ u) g = Deaf t g := by
  obtain ⟨l⟩ := u
  rw [Deaf_append]
  induction l generalizing t with
  | nil => rfl
  | cons y l ih =>
    have hy : deafStep g (Deaf t g) y = Deaf t g := by
      have := (hu y (by simp)).2
      unfold deafStep
      split
      · rename_i e; exact absurd e (this _)
      · rename_i e; exact absurd e (this _)
      · rfl
    rw [List.foldl_cons, hy]
    exact ih t fun op ho => hu op (by simp at ho ⊢; exact .inr ho)
theorem deaf_nomk (t : Trace) (g : Nat) (l : List MemOp) (hu : ∀ op ∈ l, NoMk op) {m : Nat} (hm : m ≤ l.length) : (t ++ l.toArray).deaf g (t.size + m) = Deaf t g := by
  rw [deaf_at hm]
  have := Deaf_nomk t g (l.take m).toArray fun op ho => hu op (List.mem_of_mem_take (by simpa using ho))
  rw [Deaf_append] at this
  exact this
section
variable {P : Program} {Φ : Goroutine → Heap → Prop} {k : Ctx} {γ : Gm} {rs : List Rank} {H : List Gh} {L0 : Heap} {tm : Tk} {ws : List Gh} {gs : Array Goroutine} {w : World} {t : Trace} {sl : Option (Nat × Nat)} {j : Nat}
theorem Iv.meet (iv : Iv P Φ k γ rs H L0 tm ws gs w t) {i : Nat} {Lw Lm' Lw' : Heap} {tw tm' tw' : Tk} {rm rw' : Rank} {gs' : Array Goroutine} {w' : World} {u : Trace} {gm gw : Goroutine} (hw : H[i + 1]? = some (.live Lw tw)) (h12 : tm.st ≠ 12) (h0 : tm'.st = 0) (hdm : dfm tm.st = 0) (h20 : 20 ≤ tw'.st ∧ tw'.st ≤ 22)
    (hsz : gs'.size = gs.size) (g0 : gs'[0]? = some gm) (g1 : gs'[i + 1]? = some gw) (go : ∀ n, n ≠ 0 → n ≠ i + 1 → gs'[n]? = gs[n]?) (rm0 : gm.status = .running) (rw0 : gw.status = .running) (hc : Cnt γ w w') (hshr : Shr γ w')
    (hsm : Sat k w Lm') (hsw : Sat k w Lw') (htm : ∀ p ∈ Lm'.flatten, gho p.2 = true → p = tm'.at_) (htw : ∀ p ∈ Lw'.flatten, gho p.2 = true → p = tw'.at_)
    (mW : ∀ x, InW Lm' x → InW L0 x ∨ InW Lw x) (mB : ∀ x, InB Lm' x → InB L0 x ∨ InB Lw x) (wW : ∀ x, InW Lw' x → InW Lw x) (wB : ∀ x, InB Lw' x → InB Lw x) (d1 : ∀ x, InW Lm' x → ¬ InB Lw' x) (d2 : ∀ x, InW Lw' x → ¬ InB Lm' x)
    (htoks : Toks γ tm' ((ws.map Gh.tk).set i tw')) (hkm : Rk P Φ rm true gm Lm') (hkw : Rk P Φ rw' false gw Lw') (hu : ∀ op ∈ u, NoMk op ∧ op.g < H.length)
    (kW : ∀ b, InW Lm' b → KAll (t ++ u) 0 b) (kB : ∀ b, InB Lm' b → KWr (t ++ u) 0 b) :
    Iv P Φ k γ ((rs.set 0 rm).set (i + 1) rw') ((H.set 0 (.main Lm' tm')).set (i + 1) (.live Lw' tw')) Lm' tm' (ws.set i (.live Lw' tw')) gs' w' (t ++ u) := by
  have hm := iv.main0
  have hwi : ws[i]? = some (.live Lw tw) := by rw [iv.hd] at hw; simpa using hw
  have hlen : ((H.set 0 (.main Lm' tm')).set (i + 1) (.live Lw' tw')).length = H.length := by simp
  have h25 : tw.st ≠ 25 := by have : 20 ≤ tw.st ∧ tw.st ≤ 22 := iv.ok _ _ hw; omega
  have hH : ∀ {n : Nat} {x : Gh}, ((H.set 0 (.main Lm' tm')).set (i + 1) (.live Lw' tw'))[n]? = some x → (n = 0 ∧ x = .main Lm' tm') ∨ (n = i + 1 ∧ x = .live Lw' tw') ∨ (n ≠ 0 ∧ n ≠ i + 1 ∧ H[n]? = some x) := by
    intro n x hn
    rcases Zb hn with ⟨a, b⟩ | ⟨a, b⟩
    · exact .inr (.inl ⟨a, b⟩)
    · rcases Zb b with ⟨c, d⟩ | ⟨c, d⟩
      · exact .inl ⟨c, d⟩
      · exact .inr (.inr ⟨c, a, d⟩)
  have hR : ∀ {n : Nat} {x : Rank}, ((rs.set 0 rm).set (i + 1) rw')[n]? = some x → (n = 0 ∧ x = rm) ∨ (n = i + 1 ∧ x = rw') ∨ (n ≠ 0 ∧ n ≠ i + 1 ∧ rs[n]? = some x) := by
    intro n x hn
    rcases Zb hn with ⟨a, b⟩ | ⟨a, b⟩
    · exact .inr (.inl ⟨a, b⟩)
    · rcases Zb b with ⟨c, d⟩ | ⟨c, d⟩
      · exact .inl ⟨c, d⟩
      · exact .inr (.inr ⟨c, a, d⟩)
  have hmute : ∀ op ∈ u, op.act.touch? = none := fun op ho => (hu op ho).1.1
  have shm : ∀ b, Sh γ b → ¬ InB Lm' b := fun b hs hb => by
    rcases mB b hb with hb | hb
    · exact iv.shB h12 0 _ b hm hs hb
    · exact iv.shB h12 (i + 1) _ b hw hs hb
  have shw : ∀ b, Sh γ b → ¬ InB Lw' b := fun b hs hb => iv.shB h12 (i + 1) _ b hw hs (wB b hb)
  have lfh : ∀ {n b}, (InB (LfH ((H.set 0 (.main Lm' tm')).set (i + 1) (.live Lw' tw')) n) b) → ∃ z, ((H.set 0 (.main Lm' tm')).set (i + 1) (.live Lw' tw'))[n]? = some z := fun {n b} hb => by
    cases hi : ((H.set 0 (Gh.main Lm' tm')).set (i + 1) (Gh.live Lw' tw'))[n]? with
    | none => rw [LfH, hi] at hb; exact absurd hb noB
    | some z => exact ⟨z, rfl⟩
  refine ⟨by rw [iv.hd]; rfl, ?_, by simp [hsz, iv.gsz], by simp [iv.rsz], ?_, hc.sat iv.sat0 fun _ _ => noB, ?_, ?_, ?_, fun _ => hshr, ?_, by rw [List.map_set]; exact htoks, ?_, ?_, ?_, ?_, ?_, ⟨fun b hb => by rw [hc.keep b fun hs => iv.old.sh h12 b hs hb]; exact iv.old.same b hb, fun n x b hn hwx ho => ?_, fun _ b hs ho => iv.old.sh h12 b hs ho, fun b hb => by rw [hc.size]; exact iv.old.lt b hb⟩⟩
  · intro x hx L t e
    rcases List.mem_or_eq_of_mem_set hx with hx | rfl
    · exact iv.nl x hx L t e
    · cases e
  · intro n x y o hn hr ho
    rcases hH hn with ⟨rfl, rfl⟩ | ⟨rfl, rfl⟩ | ⟨a, b, c⟩
    · obtain ⟨_, rfl⟩ := (hR hr).resolve_right (by rintro (⟨a, _⟩ | ⟨a, _⟩); omega; exact a rfl)
      rw [g0] at ho; cases ho
      exact .inl ⟨rm0, hkm⟩
    · obtain ⟨_, rfl⟩ := ((hR hr).resolve_left (fun a => by omega)).resolve_right (fun a => a.2.1 rfl)
      rw [g1] at ho; cases ho
      exact .inl ⟨rw0, hkw⟩
    · rw [go n a b] at ho
      have hr' := ((hR hr).resolve_left (fun q => a q.1)).resolve_left (fun q => b q.1)
      exact iv.st n x y o c hr'.2.2 ho
  · intro n x hn
    rcases hH hn with ⟨rfl, rfl⟩ | ⟨rfl, rfl⟩ | ⟨a, b, c⟩
    · exact hc.sat hsm shm
    · exact hc.sat hsw shw
    · exact hc.sat (iv.sat n x c) fun q hq => iv.shB h12 n x q c hq
  · intro n x hn
    rcases hH hn with ⟨rfl, rfl⟩ | ⟨rfl, rfl⟩ | ⟨a, b, c⟩
    · exact htm
    · exact htw
    · exact iv.tok n x c
  · intro n n' x y z hnn hx hy hwz hbz
    rcases hH hx with ⟨rfl, rfl⟩ | ⟨rfl, rfl⟩ | ⟨a, b, c⟩ <;> rcases hH hy with ⟨rfl, rfl⟩ | ⟨rfl, rfl⟩ | ⟨a', b', c'⟩
    · exact hnn rfl
    · exact d1 z hwz hbz
    · rcases mW z hwz with h | h
      · exact iv.dis 0 n' _ y z hnn hm c' h hbz
      · exact iv.dis (i + 1) n' _ y z (fun e => b' e.symm) hw c' h hbz
    · exact d2 z hwz hbz
    · exact hnn rfl
    · exact iv.dis (i + 1) n' _ y z hnn hw c' (wW z hwz) hbz
    · rcases mB z hbz with h | h
      · exact iv.dis n 0 x _ z hnn c hm hwz h
      · exact iv.dis n (i + 1) x _ z b c hw hwz h
    · exact iv.dis n (i + 1) x _ z hnn c hw hwz (wB z hbz)
    · exact iv.dis n n' x y z hnn c c' hwz hbz
  · intro _ n x b hn hs hb
    rcases hH hn with ⟨rfl, rfl⟩ | ⟨rfl, rfl⟩ | ⟨a, b', c⟩
    · exact shm b hs hb
    · exact shw b hs hb
    · exact iv.shB h12 n x b c hs hb
  · rw [hlen, hc.size]
    refine iv.ti.mute (Nat.le_refl _) (fun op ho => ⟨hmute op ho, (hu op ho).2, fun a => (hu op ho).1.2 _⟩) (fun n b hb => ?_) (fun n b hb => ?_) (fun n b hp hsb => ?_)
    · obtain ⟨z, hz⟩ := lfh hb.b
      rw [LfH_at hz] at hb
      rcases hH hz with ⟨rfl, rfl⟩ | ⟨rfl, rfl⟩ | ⟨a, b', c⟩
      · exact kW b hb
      · exact (iv.ti.own (i + 1) b (by rw [LfH_at hw]; exact wW b hb)).mute hmute
      · exact (iv.ti.own n b (by rw [LfH_at c]; exact hb)).mute hmute
    · obtain ⟨z, hz⟩ := lfh hb
      rw [LfH_at hz] at hb
      rcases hH hz with ⟨rfl, rfl⟩ | ⟨rfl, rfl⟩ | ⟨a, b', c⟩
      · exact kB b hb
      · exact (iv.ti.rd (i + 1) b (by rw [LfH_at hw]; exact wB b hb)).mute hmute
      · exact (iv.ti.rd n b (by rw [LfH_at c]; exact hb)).mute hmute
    · obtain ⟨z, hz, hp⟩ := hp
      refine (iv.ti.shp n b ?_ ⟨h12, hsb.2⟩).mute hmute
      rcases hH hz with ⟨rfl, rfl⟩ | ⟨rfl, rfl⟩ | ⟨a, b', c⟩
      · have : tm.st ≤ 12 := iv.ok 0 _ hm
        exact ⟨_, hm, by show tm.st ≠ 25; omega⟩
      · exact ⟨_, hw, h25⟩
      · exact ⟨z, c, hp⟩
  · intro n x hn
    rw [Deaf_nomk t n u fun op ho => (hu op ho).1]
    rcases hH hn with ⟨rfl, rfl⟩ | ⟨rfl, rfl⟩ | ⟨a, b, c⟩
    · rw [iv.deaf 0 _ hm]; simp only [Gh.df, hdm, h0]; rfl
    · exact (show Deaf t (i + 1) = 0 from iv.deaf _ (.live Lw tw) hw)
    · exact iv.deaf n x c
  · intro n x hn hx
    rcases hH hn with ⟨rfl, rfl⟩ | ⟨rfl, rfl⟩ | ⟨a, b, c⟩
    · cases hx
    · cases hx
    · refine late_stays (iv.ho n x c hx) rfl (fun _ => by omega) fun m hm hgm => ?_
      obtain ⟨op, q1, q2, _⟩ := new_op hm hgm
      exact not_counts_mute q2 (hmute op q1)
  · intro n x hn
    rcases hH hn with ⟨rfl, rfl⟩ | ⟨rfl, rfl⟩ | ⟨a, b, c⟩
    · show tm'.st ≤ 12; omega
    · exact h20
    · exact iv.ok n x c
  · intro o ho hb
    rw [g0] at ho; cases ho
    rw [rm0] at hb; cases hb
  · rcases hH hn with ⟨rfl, rfl⟩ | ⟨rfl, rfl⟩ | ⟨a, b', c⟩
    · rcases mW b hwx with h | h
      · exact iv.old.own 0 _ b hm h ho
      · exact iv.old.own (i + 1) _ b hw h ho
    · exact iv.old.own (i + 1) _ b hw (wW b hwx) ho
    · exact iv.old.own n x b c hwx ho
/-- a task is taken -/
theorem Iv.task (iv : Iv P Φ k γ rs H L0 tm ws gs w t) {i : Nat} {Lw : Heap} {tw : Tk} {fm fw : Nat → Goroutine → Heap → Rank} {gs' : Array Goroutine} {w' : World} {u : Trace} {gm gw : Goroutine} (hw : H[i + 1]? = some (.live Lw tw)) (h0 : tm.st = 0) (h20 : tw.st = 20) (ha : tm.a < tm.many) (hat : tm.at_ ∈ L0.flatten) (haw : tw.at_ ∈ Lw.flatten)
    (hsz : gs'.size = gs.size) (g0 : gs'[0]? = some gm) (g1 : gs'[i + 1]? = some gw) (go : ∀ n, n ≠ 0 → n ≠ i + 1 → gs'[n]? = gs[n]?) (rm0 : gm.status = .running) (rw0 : gw.status = .running) (hc : Cnt γ w w') (hshr : Shr γ w') (hu : ∀ op ∈ u, NoMk op ∧ op.g < H.length)
    (hkm : ∀ L', Upd L0 tm.todo tm.obj ({ tm with a := tm.a + 1, l := tm.a :: tm.l } : Tk).obj L' → Rk P Φ (fm 0 gm L') true gm L') (hkw : ∀ L', Upd Lw tw.todo tw.obj ({ tw with st := 21, a := tm.a, b := tm.a + 1 } : Tk).obj L' → Rk P Φ (fw 1 gw L') false gw L') :
    ∃ n1 L1 n2 L2 H' L0' tm' ws', Iv P Φ k γ ((rs.set 0 (fm n1 gm L1)).set (i + 1) (fw n2 gw L2)) H' L0' tm' ws' gs' w' (t ++ u) := by
  obtain ⟨L1, hu1⟩ := upd_ex hat ({ tm with a := tm.a + 1, l := tm.a :: tm.l } : Tk).obj
  obtain ⟨L2, hu2⟩ := upd_ex haw ({ tw with st := 21, a := tm.a, b := tm.a + 1 } : Tk).obj
  have hm := iv.main0
  have hsm : Sat k w L0 := iv.sat 0 _ hm
  have hsw : Sat k w Lw := iv.sat _ _ hw
  have t1 := hu1.gtok (t := tm) (t' := { tm with a := tm.a + 1, l := tm.a :: tm.l }) rfl (iv.tok 0 _ hm) hsm.nodup
  have t2 := hu2.gtok (t := tw) (t' := { tw with st := 21, a := tm.a, b := tm.a + 1 }) rfl (iv.tok _ _ hw) hsw.nodup
  have hi4 : (ws.map Gh.tk)[i]? = some tw := by rw [iv.hd] at hw; simp at hw; simp [hw, Gh.tk]
  have hmute : ∀ op ∈ u, op.act.touch? = none := fun op ho => (hu op ho).1.1
  have ne : (0 : Nat) ≠ i + 1 := by omega
  refine ⟨0, L1, 1, L2, _, L1, _, _, iv.meet hw (by omega) (tm' := { tm with a := tm.a + 1, l := tm.a :: tm.l }) (tw' := { tw with st := 21, a := tm.a, b := tm.a + 1 }) (Lm' := L1) (Lw' := L2) h0 (by simp [dfm, h0]) (by simp) hsz g0 g1 go rm0 rw0 hc hshr (hu1.sat rfl rfl rfl hsm) (hu2.sat rfl rfl rfl hsw) t1.2 t2.2
    (fun x h => .inl ((hu1.gW rfl rfl x).1 h)) (fun x h => .inl ((hu1.gB rfl rfl x).1 h)) (fun x h => (hu2.gW rfl rfl x).1 h) (fun x h => (hu2.gB rfl rfl x).1 h)
    (fun x h h' => iv.dis 0 (i + 1) _ _ x ne hm hw ((hu1.gW rfl rfl x).1 h) ((hu2.gB rfl rfl x).1 h')) (fun x h h' => iv.dis (i + 1) 0 _ _ x ne.symm hw hm ((hu2.gW rfl rfl x).1 h) ((hu1.gB rfl rfl x).1 h'))
    (iv.toks.take h0 hi4 h20 ha) (hkm L1 hu1) (hkw L2 hu2) hu (fun b h => (iv.ti.own 0 b (by rw [LfH_at hm]; exact (hu1.gW rfl rfl b).1 h)).mute hmute) (fun b h => (iv.ti.rd 0 b (by rw [LfH_at hm]; exact (hu1.gB rfl rfl b).1 h)).mute hmute)⟩
/-- what was made is handed over -/
theorem Iv.done (iv : Iv P Φ k γ rs H L0 tm ws gs w t) {i : Nat} {Lw L1 L' : Heap} {tw : Tk} {v : Value} {bl : List Blk} {fm fw : Nat → Goroutine → Heap → Rank} {gs' : Array Goroutine} {w' : World} {u : Trace} {gm gw : Goroutine} (hw : H[i + 1]? = some (.live Lw tw)) (h0 : tm.st = 0) (h21 : tw.st = 21) (hat : tm.at_ ∈ L0.flatten)
    (hu1 : Upd Lw tw.todo tw.obj ({ tw with st := 20 } : Tk).obj L1) (hls : LS (bl ++ L'.flatten) L1.flatten) (hbl : ∀ p ∈ bl, pln p.2 = true) (hR : Tasks.R tw.tag tw.a v bl)
    (hsz : gs'.size = gs.size) (g0 : gs'[0]? = some gm) (g1 : gs'[i + 1]? = some gw) (go : ∀ n, n ≠ 0 → n ≠ i + 1 → gs'[n]? = gs[n]?) (rm0 : gm.status = .running) (rw0 : gw.status = .running) (hc : Cnt γ w w') (hshr : Shr γ w') (hu : ∀ op ∈ u, NoMk op ∧ op.g < H.length)
    (hkm : ∀ i bl L', i ∈ tm.l → Tasks.R tm.tag i v bl → Upd L0 tm.todo tm.obj ({ tm with b := tm.b + 1, l := tm.l.erase i } : Tk).obj L' → Rk P Φ (fm 0 gm (bl :: L')) true gm (bl :: L')) (hkw : Rk P Φ (fw 1 gw L') false gw L') (hkn : ∀ n, Knows t (i + 1) n → Knows (t ++ u) 0 n) :
    ∃ n1 L1 n2 L2 H' L0' tm' ws', Iv P Φ k γ ((rs.set 0 (fm n1 gm L1)).set (i + 1) (fw n2 gw L2)) H' L0' tm' ws' gs' w' (t ++ u) := by
  have hm := iv.main0
  have hi4 : (ws.map Gh.tk)[i]? = some tw := by rw [iv.hd] at hw; simp at hw; simp [hw, Gh.tk]
  have hsame := iv.toks.same tw (List.mem_of_getElem? hi4) (by omega)
  obtain ⟨hal, htk⟩ := iv.toks.give h0 hi4 h21
  obtain ⟨L2, hu2⟩ := upd_ex hat ({ tm with b := tm.b + 1, l := tm.l.erase tw.a } : Tk).obj
  have hsm : Sat k w L0 := iv.sat 0 _ hm
  have hsw : Sat k w Lw := iv.sat _ _ hw
  have hs1 : Sat k w L1 := hu1.sat rfl rfl rfl hsw
  have hsN : Sat k w L2 := hu2.sat rfl rfl rfl hsm
  have t1 := hu1.gtok (t := tw) (t' := { tw with st := 20 }) rfl (iv.tok _ _ hw) hsw.nodup
  have t2 := hu2.gtok (t := tm) (t' := { tm with b := tm.b + 1, l := tm.l.erase tw.a }) rfl (iv.tok 0 _ hm) hsm.nodup
  have hmute : ∀ op ∈ u, op.act.touch? = none := fun op ho => (hu op ho).1.1
  have ne : (0 : Nat) ≠ i + 1 := by omega
  have bl1 : ∀ p ∈ bl, p ∈ L1.flatten := fun p hp => hls.mem (List.mem_append_left _ hp)
  have L'1 : ∀ p ∈ L'.flatten, p ∈ L1.flatten := fun p hp => hls.mem (List.mem_append_right _ hp)
  have hnd := hls.nodup hs1.nodup
  rw [List.map_append, List.nodup_append] at hnd
  have apart : ∀ b o o', (b, o) ∈ bl → (b, o') ∈ L'.flatten → False := fun b o o' a c => hnd.2.2 b (List.mem_map.2 ⟨_, a, rfl⟩) b (List.mem_map.2 ⟨_, c, rfl⟩) rfl
  have blW : ∀ p ∈ bl, InW Lw p.1 := fun p hp => (hu1.gW rfl rfl p.1).1 ⟨p.2, bl1 p hp, hbl p hp⟩
  have W' : ∀ x, InW L' x → InW Lw x := fun x ⟨o, a, c⟩ => (hu1.gW rfl rfl x).1 ⟨o, L'1 _ a, c⟩
  have B' : ∀ x, InB L' x → InB Lw x := fun x ⟨o, a, c⟩ => (hu1.gB rfl rfl x).1 ⟨o, L'1 _ a, c⟩
  have mW : ∀ x, InW (bl :: L2) x → InW L0 x ∨ (InW Lw x ∧ ¬ InB L' x) := fun x ⟨o, a, c⟩ => by
    rw [List.flatten_cons] at a
    rcases List.mem_append.1 a with a | a
    · exact .inr ⟨blW _ a, fun ⟨o', q, _⟩ => apart x o o' a q⟩
    · exact .inl ((hu2.gW rfl rfl x).1 ⟨o, a, c⟩)
  have mB : ∀ x, InB (bl :: L2) x → InB L0 x ∨ (InW Lw x ∧ ¬ InB L' x) := fun x ⟨o, a, c⟩ => by
    rw [List.flatten_cons] at a
    rcases List.mem_append.1 a with a | a
    · exact .inr ⟨blW _ a, fun ⟨o', q, _⟩ => apart x o o' a q⟩
    · exact .inl ((hu2.gB rfl rfl x).1 ⟨o, a, c⟩)
  have shk : ∀ p ∈ bl, ∀ q ∈ L2.flatten, p.1 ≠ q.1 := fun p hp q hq e => by
    cases hgq : gho q.2 with
    | true =>
      have := t2.2 q hq hgq
      subst this
      have h12 : tm.st ≠ 12 := by omega
      have e' : p.1 = γ.todo := e.trans (iv.toks.main h12).1
      exact iv.shB h12 _ _ p.1 hw (.inl e') (blW p hp).b
    | false =>
      have : InB L0 q.1 := (hu2.gB rfl rfl q.1).1 ⟨q.2, hq, hgq⟩
      exact iv.dis (i + 1) 0 _ _ p.1 ne.symm hw hm (blW p hp) (e ▸ this)
  have hsm' : Sat k w (bl :: L2) := by
    have hb : Sat k w [bl] := hs1.sp (by
      obtain ⟨l, a, c⟩ := hls
      exact LS.trans (b := bl ++ L'.flatten) ⟨bl, by simp, List.sublist_append_left _ _⟩ ⟨l, a, c⟩)
    refine ⟨hsN.os, hsN.out, hsN.tape, fun p hp hg => ?_, ?_, fun p hp => ?_, fun p hp => ?_⟩ <;> rw [List.flatten_cons] at *
    · rcases List.mem_append.1 hp with hp | hp
      · exact hs1.has p (bl1 p hp) hg
      · exact hsN.has p hp hg
    · rw [List.map_append, List.nodup_append]
      refine ⟨hnd.1, hsN.nodup, fun a ha b hb => ?_⟩
      obtain ⟨p, hp, rfl⟩ := List.mem_map.1 ha
      obtain ⟨q, hq, rfl⟩ := List.mem_map.1 hb
      exact shk p hp q hq
    · rcases List.mem_append.1 hp with hp | hp
      · exact hs1.nv p (bl1 p hp)
      · exact hsN.nv p hp
    · rcases List.mem_append.1 hp with hp | hp
      · exact hs1.lt p (bl1 p hp)
      · exact hsN.lt p hp
  have hsw' : Sat k w L' := hs1.sp (by
    obtain ⟨l, a, c⟩ := hls
    exact LS.trans (b := bl ++ L'.flatten) ⟨L'.flatten, .refl _, List.sublist_append_right _ _⟩ ⟨l, a, c⟩)
  refine ⟨0, bl :: L2, 1, L', _, bl :: L2, _, _, iv.meet hw (by omega) (tm' := { tm with b := tm.b + 1, l := tm.l.erase tw.a }) (tw' := { tw with st := 20 }) (Lm' := bl :: L2) (Lw' := L') h0 (by simp [dfm, h0]) (by simp) hsz g0 g1 go rm0 rw0 hc hshr hsm' hsw'
    (fun p hp hg => ?_) (fun p hp hg => t1.2 p (L'1 p hp) hg) (fun x h => (mW x h).imp id (·.1)) (fun x h => (mB x h).imp id (·.1.b)) W' B' (fun x h h' => ?_) (fun x h h' => ?_) htk (hkm tw.a bl L2 hal (hsame.2.2.2.1 ▸ hR) hu2) hkw hu (fun b h => ?_) (fun b h => ?_)⟩
  · rw [List.flatten_cons] at hp
    rcases List.mem_append.1 hp with hp | hp
    · rw [pln_gho (hbl p hp)] at hg; cases hg
    · exact t2.2 p hp hg
  · rcases mW x h with h | h
    · exact iv.dis 0 (i + 1) _ _ x ne hm hw h (B' x h')
    · exact h.2 h'
  · rcases mB x h' with h' | h'
    · exact iv.dis (i + 1) 0 _ _ x ne.symm hw hm (W' x h) h'
    · exact h'.2 h.b
  · rcases mW b h with h | h
    · exact (iv.ti.own 0 b (by rw [LfH_at hm]; exact h)).mute hmute
    · exact (iv.ti.own (i + 1) b (by rw [LfH_at hw]; exact h.1)).pass hkn hmute
  · rcases mB b h with h | h
    · exact (iv.ti.rd 0 b (by rw [LfH_at hm]; exact h)).mute hmute
    · exact (iv.ti.rd (i + 1) b (by rw [LfH_at hw]; exact h.1.b)).pass hkn hmute
end
end Go.HL
end
