/- Texts laid into one, without what the claim does not use. Conditions: none. -/
import Derived.Test.YtkookaogdkdegacGreatDoorMSaI
import Derived.Test.YtkookaogdkdegacGreatDoorCards
import Derived.Test.YtkookaogdkdegacGreatDoorTie
set_option linter.unusedVariables false
set_option linter.unusedSimpArgs false
/-! CdXA -/
section
namespace Go.Proofs.YtkookaogdkdegacGreatDoor.scriptAnew
set_option maxRecDepth 100000
open Go.ChangeShapes Go.WideShapes Go.ChangeAt Go.RowKit Go.HL
def scrL:List (String × DataW Unit):=Rows.scriptAnewRow.laid.filter fun x=>x.2.handleName?.isNone
theorem scr_hand:(Rows.scriptAnewRow.laid.filter fun x=>x.2.handleName?.isSome)=handL:=by kernel_rfl
theorem scr_err:errL scrL=Zd6 [1,2,3,4,5,6,8,9]:=by kernel_rfl
theorem own:ownKnob Tryz.prog.godebug=none:=by kernel_rfl
theorem contract (H:Type) (enc:TypeId × Value→H) (W:World) (base:Nat) (args:Array Value) (ds gs:List (DataW H)) (before:List MemPlace)
  (hval : ∀ (j:Nat) t v,Tryz.f13.params[j]? = some t→args[j]? = some v→Value.okWide Tryz.prog W .any base t v)
  (hW:DataW.Whole enc Tryz.prog Tryz.f13.params.toList Rows.scriptAnewSpec.vars false W args.toList ds gs before) (hL:laidMetH Tryz.prog Rows.scriptAnewRow.laid W) (hSh:W.ShapedOpen Tryz.prog) :
  Calls Tryz.prog 13 args W fun e W' => ∃ v,e = .returned v∧Rows.scriptAnewSpec.post enc Tryz.prog Tryz.f13 false true false false W args v W':=by
 have hW':=hW
 obtain ⟨p,q,hA0,hV,rfl,hfz,hnd⟩:=hW
 have hA:DataW.TrodAll enc Tryz.prog W 0 (fun _=>true) true Tryz.f13.params.toList args.toList ds p:=hA0
 rw [Tryz.params13] at hA hval
 obtain ⟨v0,vs0,d0,ds0,p0,q0,hargs,rfl,rfl,h0,r0⟩:=trodAll_cons hA
 obtain ⟨rfl,rfl,rfl⟩:=trodAll_nil r0
 obtain rfl:args = #[v0]:=by cases args;simp_all
 obtain ⟨rfl,rfl⟩:=trodVars_none hV
 obtain ⟨a,cap,l,rfl,hR,hx,hc⟩:=open_rd Tryz.underlying96 (sz:=2) (by kernel_rfl) (by decide) (hval 0 _ v0 rfl rfl) h0 (fun s:Ln=>Rd ic 1 [Vk W] s.a s.ns∧s.ns.length≤s.cap ∧ ∀ z∈s.ns,okI z) open_ln
 obtain ⟨hA,hB⟩:=laidMetH_iff.1 hL
 rw [scr_hand] at hB
 have hA:laidMet Tryz.prog scrL W:=hA
 have hs:=hA.filter fun x=>(Zd6 [1,2,3,4,5,6,8,9]).any fun y=>y.1 == x.1
 rw [show scrL.filter (fun x=>(Zd6 [1,2,3,4,5,6,8,9]).any fun y=>y.1 == x.1)=Zd6 [1,2,3,4,5,6,8,9] from scr_err] at hs
 obtain ⟨E,hE,hX⟩:=est_of hs hB
 have hS:=sz_of (t1:=[118,97,108,117,101,32,111,117,116,32,111,102,32,114,97,110,103,101]) (t2:=[105,110,118,97,108,105,100,32,115,121,110,116,97,120]) hA hSh (by kernel_rfl) (by kernel_rfl) (by kernel_rfl)
 refine (Zqt (Zm8 394 E a cap l [Vk W] hE hS hX hR (fun x hx2=>(hx x hx2).1) hc)).mono fun e W' ⟨he,hb⟩=>?_
 subst he
 exact ⟨_,rfl,post_law (by kernel_rfl) (by decide +kernel) hW' hb rfl rfl rfl Tryz.underlying4⟩
theorem laid_met (os:Os):laidMetH Tryz.prog Rows.scriptAnewRow.laid ((layS os scrL).forCall (fun _ _=>0) ⟨#[],#[.slice none 0 0],[]⟩).memory:=laidMetH_of_parts (Zi6 (laid:=scrL) _ (by kernel_rfl) (by kernel_rfl)) (by kernel_rfl)
theorem reads (os:Os) {H:Type} (enc:TypeId × Value→H) : ∃ places,DataW.whole enc Tryz.prog ((layS os scrL).forCall (fun _ _=>0) ⟨#[],#[.slice none 0 0],[]⟩).memory Tryz.f13.params.toList Rows.scriptAnewSpec.vars false (#[.slice none 0 0]:Array Value).toList 8=some ([.nil],[],places):=
 ⟨[],by kernel_rfl⟩
set_option maxRecDepth 100000 in
theorem lifted (os:Os) (started:os.Started) (H:Type) (enc:TypeId × Value→H) (F:Stop.Interp) :
  ReturnsInHanded {} Tryz.checked os 13 .any ((OpenSpec.ofChange Rows.scriptAnewSpec).preRow enc Tryz.prog Tryz.f13 Rows.scriptAnewRow.domain false Rows.scriptAnewRow.laid) (((OpenSpec.ofChange Rows.scriptAnewSpec).at F).post enc Tryz.prog Tryz.f13 false true false false):=by
 obtain ⟨places,hx⟩:=reads os enc
 refine returnsInHanded_of_row (C:=Tryz.checked) (s:=OpenSpec.ofChange Rows.scriptAnewSpec) own started (by kernel_rfl) Tryz.func13
  (witness_row_at (enc:=enc) (C:=Tryz.checked) false (layS os scrL) #[.slice none 0 0] (layS_os _ _) (by kernel_rfl) (by kernel_rfl) (by kernel_rfl)
   (OpenSpec.preRow_of_cond 8 hx (by kernel_rfl) (fun k hk=>by cases hk) (by kernel_rfl) (laid_met os))) ?_
 intro W base args ds gs before hval hW _ _ _ hL hSh _
 exact contract H enc W base args ds gs before hval hW hL hSh
set_option maxHeartbeats 0 in
theorem closed:joinedFacts Tryz.pinned.checked.prog 13 Tryz.f13 Rows.scriptAnewSpec Rows.scriptAnewRow=true:=by
 unfold joinedFacts
 repeat' with_reducible refine and_mk ?_ ?_
 all_goals as_aux_lemma=>kernel_rfl
theorem said:Rows.ScriptAnewSaid:=
 OpenClaim.holds_of_wide_leaving 13 Tryz.f13 rfl rfl rfl rfl rfl rfl rfl ⟨rfl,rfl,rfl,rfl,rfl⟩ rfl rfl rfl rfl rfl (by as_aux_lemma=>kernel_rfl) Tryz.func13 closed
  (of_decide_eq_true (by as_aux_lemma=>kernel_rfl)) (by unfold Func.isWrapper;first|(rw [if_pos (by decide +kernel)];kernel_rfl)|(rw [if_neg (by decide +kernel)];exact ⟨rfl,rfl⟩))
  (fun os started H enc _=>by rw [OpenClaim.pre_eq_preRow];exact Zci (lifted os started H enc (fun _ _ _=>0)))
theorem plain (f:FuncId) (fn:Func) (hf:Tryz.pinned.checked.prog.funcNamed "threefold/threefoldlaw3.ScriptAnew" = some f) (hfn:Tryz.pinned.checked.prog.funcs[f]? = some fn) :
  true=Tryz.pinned.checked.prog.looks [] ∧ ∀ (j:Nat) t,fn.params[j]? = some t→Tryz.pinned.checked.prog.wantsStandIn t=false:=by
 obtain rfl:f=13:=Option.some.inj ((show Tryz.prog.funcNamed "threefold/threefoldlaw3.ScriptAnew" = some 13 by as_aux_lemma=>kernel_rfl).symm.trans hf) |>.symm
 obtain rfl:fn=Tryz.f13:=(Option.some.inj (Tryz.func13.symm.trans hfn)).symm
 refine ⟨by as_aux_lemma=>kernel_rfl,fun j t ht=>?_⟩
 have hm:t∈Tryz.f13.params:=Array.mem_of_getElem? ht
 have hall:(Tryz.f13.params.toList.all fun t => !Tryz.prog.wantsStandIn t)=true:=by as_aux_lemma=>kernel_rfl
 have h9:=List.all_eq_true.1 hall t (Array.mem_toList_iff.2 hm)
 have h8:Tryz.prog.wantsStandIn t=false:=by simpa using h9
 exact h8
theorem proved:Rows.ScriptAnewCardSaid:=
 Zei .later [] _ _ _ _ _ said (fun _ h=>by cases h) (by as_aux_lemma=>kernel_rfl) (fun _ h=>by cases h) scriptAnew_row_tie rfl ⟨rfl,rfl⟩ (by as_aux_lemma=>kernel_rfl) rfl plain (by as_aux_lemma=>kernel_rfl)
#print axioms proved
end Go.Proofs.YtkookaogdkdegacGreatDoor.scriptAnew
end
