/- The heap logic: from a statement's reading of its arguments to the walk, and back. No program in sight. Conditions: none. -/
import Derived.Test.YtkookaogdkdegabDoorHLMem
import Derived.ProofKit
import Derived.OpenShut
import Derived.Deep.Slices
import Derived.Deep.Strs
import Derived.JoinedCond
namespace Go.HL
open Go Go.ChangeShapes Go.WideShapes Go.ChangeAt Go.RowKit
set_option linter.unusedVariables false
set_option linter.unusedSimpArgs false

/-- all blocks of a world -/
def blks (w : World) : List Blk := (List.range w.heap.size).map fun i => (i, w.heap.getD i default)
def ctx (w : World) : Ctx := (w.os, w.output, w.tape)
theorem mem_blks {w : World} {b : Nat} {o : Obj} (h : w.heap[b]? = some o) : (b, o) ∈ blks w := by
  obtain ⟨hlt, he⟩ := Array.getElem?_eq_some_iff.1 h
  refine List.mem_map.2 ⟨b, List.mem_range.2 hlt, ?_⟩
  simp [h]
theorem sat_init (w : World) : Sat (ctx w) w [blks w] := by
  refine ⟨rfl, rfl, rfl, fun p hp => ?_, ?_⟩
  · simp only [List.flatten_cons, List.flatten_nil, List.append_nil] at hp
    obtain ⟨i, hi, rfl⟩ := List.mem_map.1 hp
    have hlt := List.mem_range.1 hi
    simp [hlt]
  · simp only [List.flatten_cons, List.flatten_nil, List.append_nil, blks, List.map_map]
    have : ((fun x : Blk => x.1) ∘ fun i => (i, w.heap.getD i default)) = id := rfl
    rw [this, List.map_id]
    exact List.nodup_range
theorem below_of_sat {w w' : World} (h : Sat (ctx w) w' [blks w]) : Below w.heap.size w w' := by
  have hb : ∀ k, k < w.heap.size → w'.heap[k]? = w.heap[k]? := fun k hk => by
    have := h.has (k, w.heap[k]) (by simp only [List.flatten_cons, List.flatten_nil, List.append_nil]; exact mem_blks (Array.getElem?_eq_getElem hk))
    rw [this, Array.getElem?_eq_getElem hk]
  refine ⟨h.os, h.tape, h.out, ?_, hb⟩
  cases hz : w.heap.size with
  | zero => omega
  | succ m =>
    have h1 := hb m (by omega)
    have h2 : ∃ o, w'.heap[m]? = some o := ⟨_, h1.trans (Array.getElem?_eq_getElem (by omega))⟩
    obtain ⟨o, h3⟩ := h2
    obtain ⟨h4, _⟩ := Array.getElem?_eq_some_iff.1 h3
    omega
/-- a law's walk, as the row wants it -/
theorem calls_law {P : Program} {f : Nat} {args : List Value} {w : World} (h : HC P f args [blks w] (fun v L' => v = .bool true ∧ L' = [blks w])) :
    Calls P f ⟨args⟩ w fun e w' => e = .returned (.bool true) ∧ Below w.heap.size w w' :=
  (h.2 (ctx w) w (sat_init w)).mono fun e w' ⟨v, L', h1, h2, h3, h4⟩ => by subst h3; subst h4; exact ⟨h1, below_of_sat h2⟩

theorem trodAll_stays {H : Type} {enc : TypeId × Value → H} {P : Program} (hl : laidOutB P = true) {W W' : World} (hb : Below W.heap.size W W') :
    ∀ (ts : List TypeId) (vs : List Value) (ds : List (DataW H)) (ps : List MemPlace), (∀ t ∈ ts, P.readableRec t = true ∧ t < P.types.size) → DataW.TrodAll enc P W 0 (fun _ => true) true ts vs ds ps →
      (∀ x ∈ ps, x.block < W.heap.size) → DataW.TrodAll enc P W' 0 (fun b => decide (b < W.heap.size)) true ts vs ds ps
  | [], [], [], ps, _, h, _ => h
  | t :: ts, v :: vs, d :: ds, ps, hr, h, hlt => by
    obtain ⟨p, q, h1, h2, rfl⟩ := h
    exact ⟨p, q, Below.trod hl (hr t (by simp)).1 (hr t (by simp)).2 h1 hb (fun x hx => hlt x (by simp [hx])),
      trodAll_stays hl hb ts vs ds q (fun t ht => hr t (by simp [ht])) h2 (fun x hx => hlt x (by simp [hx])), rfl⟩
  | [], _ :: _, _, _, _, h, _ => by simp [DataW.TrodAll] at h
  | [], [], _ :: _, _, _, h, _ => by simp [DataW.TrodAll] at h
  | _ :: _, [], _, _, _, h, _ => by simp [DataW.TrodAll] at h
  | _ :: _, _ :: _, [], _, _, h, _ => by simp [DataW.TrodAll] at h

/-- the end of a law: true comes back, the arguments read as they did -/
theorem post_law {H : Type} {enc : TypeId × Value → H} {P : Program} {f : Func} {s : ChangeSpec} {apart fresh handsOn : Bool} {W W' : World} {args : Array Value} {ds gs : List (DataW H)} {before : List MemPlace} {tb : TypeId}
    (hl : laidOutB P = true) (hr : ∀ t ∈ f.params.toList, P.readableRec t = true ∧ t < P.types.size) (hW : DataW.Whole enc P f.params.toList s.vars apart W args.toList ds gs before) (hb : Below W.heap.size W W')
    (hv : s.vars = []) (hfn : s.fn H (ds ++ gs) = { results := [.lit (.bool true)], args := ds }) (hrt : f.resultTypes = #[tb]) (hbool : P.underlying tb = some .bool) :
    s.post enc P f apart fresh handsOn false W args (.bool true) W' := by
  have hlt := hW.lt
  have hW' := hW
  obtain ⟨p, q, hA, hV, rfl, hfz, hnd⟩ := hW
  rw [hv] at hV
  obtain ⟨rfl, rfl⟩ := trodVars_none hV
  refine ⟨ds, [], p ++ [], [], p, [], hW', ?_, ?_, ?_, hb.frame _, fun h => by cases h⟩
  · rw [hfn, hrt]
    exact trodAll_mk1 (shut_bool hbool _)
  · rw [hfn]
    exact trodAll_stays hl hb _ _ _ _ hr hA (fun x hx => hlt x (by simp [hx]))
  · rw [hv, hfn]
    rfl

theorem cell_of_cells {W : World} {b off i : Nat} {c : Array Value} {E : Nat} {fr : Nat × Nat} (hb : W.heap[b]? = some (.cells c E fr)) : W.cell? (Addr.add ⟨b, off, none⟩ i) = c[off + i]? := by
  unfold Addr.add
  by_cases h0 : i = 0
  · subst h0; simp [World.cell?, hb]
  · simp [World.cell?, hb, h0]
theorem has_blks {W : World} {b : Nat} {o : Obj} (h : W.heap[b]? = some o) : Has [blks W] b o := by
  simp only [Has, List.flatten_cons, List.flatten_nil, List.append_nil]
  exact mem_blks h
/-- a slice that is read: of its cells, from the reading -/
theorem open_rd {H : Type} {enc : TypeId × Value → H} {P : Program} {W : World} {base : Nat} {r : Reach} {spare : Nat → Bool} {held : Bool} {t e : TypeId} {α : Type} {encV : α → List Value} {sz : Nat} {v : Value} {d : DataW H} {ps : List MemPlace}
    (ht : P.underlying t = some (.slice e)) (hsz : P.cellsOf e = sz) (hpos : 0 < sz) (hval : Value.okWide P W r base t v) (hd : DataW.Trod enc P W 0 spare held t v d ps)
    (good : α → Prop) (one : ∀ n cs x, DataW.trod enc P W 0 spare held n e cs = some x → ∃ s, cs = encV s ∧ good s) :
    ∃ a cap, ∃ xs : List α, v = .slice a xs.length cap ∧ Rd encV sz [blks W] a xs ∧ (∀ x ∈ xs, good x) ∧ xs.length ≤ cap := by
  obtain ⟨a, len, cap, rfl⟩ := okWide_slice ht hval
  obtain ⟨fuel, hf⟩ := hd
  rcases Deep.open_slice ht hf with ⟨h1, -⟩ | ⟨a', len', cap', m, n, D, Pl, h1, -, hl, -, hm, -, hx⟩
  · simp [Value.cells] at h1
    obtain ⟨rfl, rfl, rfl⟩ := h1
    exact ⟨none, 0, [], rfl, Rd.nil, by simp, by simp⟩
  · simp [Value.cells] at h1
    obtain ⟨rfl, rfl, rfl⟩ := h1
    have hlm : len ≤ m := by rw [hm]; split <;> omega
    have : ∀ i, i < len → ∃ s, W.cells? 0 (a'.add (i * sz)) sz = some (encV s) ∧ good s := fun i hi => by
      obtain ⟨cs, h1, h2⟩ := hx i (by omega)
      obtain ⟨s, rfl, hg⟩ := one _ _ _ h2
      rw [hsz] at h1
      exact ⟨s, h1, hg⟩
    by_cases h0 : len = 0
    · subst h0
      exact ⟨some a', cap, [], rfl, Rd.nil, by simp, by simp⟩
    · have : ∃ V : Fin len → α, ∀ i, W.cells? 0 (a'.add (i.1 * sz)) sz = some (encV (V i)) ∧ good (V i) := ⟨fun i => (this i.1 i.2).choose, fun i => (this i.1 i.2).choose_spec⟩
      obtain ⟨V, hV⟩ := this
      obtain ⟨-, -, hc⟩ := World.cells?_some (hV ⟨0, by omega⟩).1
      have hlen := (World.cells?_some (hV ⟨0, by omega⟩).1).2.1
      have h00 := hc 0 hpos
      have hs : ∃ x, W.cell? a' = some x := by
        simp [Addr.add] at h00
        exact ⟨_, h00.trans (List.getElem?_eq_getElem (by omega))⟩
      obtain ⟨x, hx0⟩ := hs
      obtain ⟨b, off, spot⟩ := a'
      have hblk : ∃ c E fr, W.heap[b]? = some (.cells c E fr) ∧ spot = none := by
        unfold World.cell? at hx0
        simp only at hx0
        split at hx0
        · rename_i c E fr he
          refine ⟨c, E, fr, he, ?_⟩
          cases spot with
          | none => rfl
          | some k => simp at hx0
        · cases hx0
      obtain ⟨c, E, fr, he, rfl⟩ := hblk
      refine ⟨some ⟨b, off, none⟩, cap, List.ofFn V, by simp, .inr ⟨b, off, c.toList, E, fr, rfl, has_blks (by simpa using he), fun k x hk => ?_⟩, ?_, by simpa using hl⟩
      · have hkl : k < len := by
          have := (List.getElem?_eq_some_iff.1 hk).1
          simpa using this
        have hx : V ⟨k, hkl⟩ = x := by
          rw [List.getElem?_ofFn] at hk
          simpa [hkl] using hk
        obtain ⟨-, hl2, hc2⟩ := World.cells?_some (hV ⟨k, hkl⟩).1
        rw [hx] at hl2 hc2
        intro j v hj
        have hjl := (List.getElem?_eq_some_iff.1 hj).1
        have := hc2 j (by omega)
        rw [hj] at this
        rw [← this]
        have e : (Addr.add ⟨b, off, none⟩ (k * sz)) = ⟨b, off + k * sz, none⟩ := by
          unfold Addr.add; split
          · rename_i h; simp [h]
          · rfl
        show c.toList[off + k * sz + j]? = _
        simp only [e]
        rw [cell_of_cells he]
        simp
      · intro x hx
        obtain ⟨i, rfl⟩ := List.mem_ofFn.1 hx
        exact (hV i).2
end Go.HL
