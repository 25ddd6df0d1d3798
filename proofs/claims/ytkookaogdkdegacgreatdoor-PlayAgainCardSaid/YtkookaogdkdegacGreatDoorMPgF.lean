/- Texts laid into one, without what the claim does not use. Conditions: none. -/
import Derived.Test.YtkookaogdkdegacGreatDoorMPgG
import Derived.Test.YtkookaogdkdegacGreatDoorCards
import Derived.Test.YtkookaogdkdegacGreatDoorTie
set_option linter.unusedVariables false
set_option linter.unusedSimpArgs false
/-! CdPG -/
section
namespace Go.Proofs.YtkookaogdkdegacGreatDoor.playAgain
set_option maxRecDepth 100000
open Go.ChangeShapes Go.WideShapes Go.ChangeAt Go.RowKit Go.HL
theorem own:ownKnob Tryz.prog.godebug=none:=by kernel_rfl
theorem contract (H:Type) (enc:TypeId × Value→H) (W:World) (base:Nat) (args:Array Value) (ds gs:List (DataW H)) (before:List MemPlace)
  (hval : ∀ (j:Nat) t v,Tryz.f7.params[j]? = some t→args[j]? = some v→Value.okWide Tryz.prog W .any base t v)
  (hW:DataW.Whole enc Tryz.prog Tryz.f7.params.toList Rows.playAgainSpec.vars false W args.toList ds gs before) (hL:laidMetH Tryz.prog Rows.playAgainRow.laid W) :
  Calls Tryz.prog 7 args W fun e W' => ∃ v,e = .returned v∧Rows.playAgainSpec.post enc Tryz.prog Tryz.f7 false true false false W args v W':=by
 have hW':=hW
 obtain ⟨p,q,hA0,hV,rfl,hfz,hnd⟩:=hW
 have hA:DataW.TrodAll enc Tryz.prog W 0 (fun _=>true) true Tryz.f7.params.toList args.toList ds p:=hA0
 rw [Tryz.params7] at hA hval
 obtain ⟨v0,vs0,d0,ds0,p0,q0,hargs,rfl,rfl,h0,r0⟩:=trodAll_cons hA
 obtain ⟨v1,vs1,d1,ds1,p1,q1,rfl,rfl,rfl,h1,r1⟩:=trodAll_cons r0
 obtain ⟨v2,vs2,d2,ds2,p2,q2,rfl,rfl,rfl,h2,r2⟩:=trodAll_cons r1
 obtain ⟨rfl,rfl,rfl⟩:=trodAll_nil r2
 obtain rfl:args = #[v0,v1,v2]:=by cases args;simp_all
 obtain ⟨rfl,rfl⟩:=trodVars_none hV
 obtain ⟨a,cap,w,rfl,hR,hx,hc⟩:=Zlv Tryz.underlying22 (sz:=1) (by kernel_rfl) (by decide) (hval 0 _ v0 rfl rfl) h0 okI Zlt
 obtain ⟨al,capl,l,rfl,hRl,hxl,hcl⟩:=Zlv Tryz.underlying22 (sz:=1) (by kernel_rfl) (by decide) (hval 1 _ v1 rfl rfl) h1 okI Zlt
 obtain ⟨a2,rfl,rfl,rfl,w2⟩:=open_int Tryz.underlying3 (hval 2 _ v2 rfl rfl) h2
 have hL':laidMet Tryz.prog (Zfz [1,2,3,4,5,6,7,8,9]) W∧handlesMet Tryz.prog handL W:=hL
 obtain ⟨E,hE⟩:=ez_of hL'.1 hL'.2
 refine (Zmk (Zco 394 E a al cap capl w l a2 [Ug W] hE hR hRl hcl (fun x h=>(hxl x h).2))).mono fun e W' ⟨he,hb⟩=>?_
 subst he
 exact ⟨_,rfl,post_law (by kernel_rfl) (by decide +kernel) hW' hb rfl rfl rfl Tryz.underlying4⟩
theorem laid_met (os:Os):laidMetH Tryz.prog Rows.playAgainRow.laid ((layH os [1,2,3,4,5,6,7,8,9]).forCall (fun _ _=>0) ⟨#[],#[.slice none 0 0,.slice none 0 0,.int .i64 0],[]⟩).memory:=laidMetH_of_parts (Zgv (laid:=Zfz [1,2,3,4,5,6,7,8,9]) _ (by kernel_rfl) (by kernel_rfl)) (by kernel_rfl)
theorem reads (os:Os) {H:Type} (enc:TypeId × Value→H) : ∃ places,DataW.whole enc Tryz.prog ((layH os [1,2,3,4,5,6,7,8,9]).forCall (fun _ _=>0) ⟨#[],#[.slice none 0 0,.slice none 0 0,.int .i64 0],[]⟩).memory Tryz.f7.params.toList Rows.playAgainSpec.vars false (#[.slice none 0 0,.slice none 0 0,.int .i64 0]:Array Value).toList 8=some ([.nil,.nil,.lit (.int .i64 0)],[],places):=
 ⟨[],by kernel_rfl⟩
set_option maxRecDepth 100000 in
theorem lifted (os:Os) (started:os.Started) (H:Type) (enc:TypeId × Value→H) (F:Stop.Interp) :
  ReturnsInHanded {} Tryz.checked os 7 .any ((OpenSpec.ofChange Rows.playAgainSpec).preRow enc Tryz.prog Tryz.f7 Rows.playAgainRow.domain false Rows.playAgainRow.laid) (((OpenSpec.ofChange Rows.playAgainSpec).at F).post enc Tryz.prog Tryz.f7 false true false false):=by
 obtain ⟨places,hx⟩:=reads os enc
 refine returnsInHanded_of_row (C:=Tryz.checked) (s:=OpenSpec.ofChange Rows.playAgainSpec) own started (by kernel_rfl) Tryz.func7
  (witness_row_at (enc:=enc) (C:=Tryz.checked) false (layH os [1,2,3,4,5,6,7,8,9]) #[.slice none 0 0,.slice none 0 0,.int .i64 0] (layH_os _ _) (by kernel_rfl) (by kernel_rfl) (by kernel_rfl)
   (OpenSpec.preRow_of_cond 8 hx (by kernel_rfl) (fun k hk=>by cases hk) (by kernel_rfl) (laid_met os))) ?_
 intro W base args ds gs before hval hW _ _ _ hL _ _
 exact contract H enc W base args ds gs before hval hW hL
set_option maxHeartbeats 0 in
theorem closed:joinedFacts Tryz.pinned.checked.prog 7 Tryz.f7 Rows.playAgainSpec Rows.playAgainRow=true:=by
 unfold joinedFacts
 repeat' with_reducible refine and_mk ?_ ?_
 all_goals as_aux_lemma=>kernel_rfl
theorem said:Rows.PlayAgainSaid:=
 OpenClaim.holds_of_wide_leaving 7 Tryz.f7 rfl rfl rfl rfl rfl rfl rfl ⟨rfl,rfl,rfl,rfl,rfl⟩ rfl rfl rfl rfl rfl (by as_aux_lemma=>kernel_rfl) Tryz.func7 closed
  (of_decide_eq_true (by as_aux_lemma=>kernel_rfl)) (by unfold Func.isWrapper;first|(rw [if_pos (by decide +kernel)];kernel_rfl)|(rw [if_neg (by decide +kernel)];exact ⟨rfl,rfl⟩))
  (fun os started H enc _=>by rw [OpenClaim.pre_eq_preRow];exact Zav (lifted os started H enc (fun _ _ _=>0)))
theorem plain (f:FuncId) (fn:Func) (hf:Tryz.pinned.checked.prog.funcNamed "threefold/threefoldlaw3.PlayAgain" = some f) (hfn:Tryz.pinned.checked.prog.funcs[f]? = some fn) :
  true=Tryz.pinned.checked.prog.looks [] ∧ ∀ (j:Nat) t,fn.params[j]? = some t→Tryz.pinned.checked.prog.wantsStandIn t=false:=by
 obtain rfl:f=7:=Option.some.inj ((show Tryz.prog.funcNamed "threefold/threefoldlaw3.PlayAgain" = some 7 by as_aux_lemma=>kernel_rfl).symm.trans hf) |>.symm
 obtain rfl:fn=Tryz.f7:=(Option.some.inj (Tryz.func7.symm.trans hfn)).symm
 refine ⟨by as_aux_lemma=>kernel_rfl,fun j t ht=>?_⟩
 have hm:t∈Tryz.f7.params:=Array.mem_of_getElem? ht
 have hall:(Tryz.f7.params.toList.all fun t => !Tryz.prog.wantsStandIn t)=true:=by as_aux_lemma=>kernel_rfl
 have h9:=List.all_eq_true.1 hall t (Array.mem_toList_iff.2 hm)
 have h8:Tryz.prog.wantsStandIn t=false:=by simpa using h9
 exact h8
theorem proved:Rows.PlayAgainCardSaid:=
 Zcl .later [] _ _ _ _ _ said (fun _ h=>by cases h) (by as_aux_lemma=>kernel_rfl) (fun _ h=>by cases h) playAgain_row_tie rfl ⟨rfl,rfl⟩ (by as_aux_lemma=>kernel_rfl) rfl plain (by as_aux_lemma=>kernel_rfl)
#print axioms proved
end Go.Proofs.YtkookaogdkdegacGreatDoor.playAgain
end
