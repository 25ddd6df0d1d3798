/- Texts laid into one, without what the claim does not use. Conditions: none. -/
import Derived.Leaving
import Derived.Conc.Holds
import Derived.SevenTiedAt
import Derived.JoinedCond
import Derived.Conc.LeavingOf
import Derived.Deep.DeepHandedRow
import Derived.WalkKit
import Derived.Conc.Listed
import Derived.Conc.Own5
import Derived.Conc.RecvAny
import Derived.WalkSpells
import Derived.WalkLawsBesides
import Derived.Deep.Quiet
import Derived.KernelRfl
import Derived.Conc.CompanyCalls
import Derived.Conc.QuitsD
import Derived.Test.YtkookaogdkdegacGreatDoorProg
import Derived.Calls
import Derived.Conc.Own
import Derived.Conc.Own3
import Derived.Conc.Own4
import Derived.Conc.Script
import Derived.Conc.WgGenW
import Derived.Laws.Entries
import Derived.Laws.Externs
import Derived.Laws.Sem
import Derived.Orders
import Derived.Stop.Asserts
set_option linter.unusedVariables false
set_option linter.unusedSimpArgs false
set_option linter.unusedSectionVars false
set_option maxHeartbeats 4000000
set_option maxRecDepth 100000
set_option linter.defProp false
namespace Go.HL
open Go
def Z15:=@List.Sublist.refl
def Z16:=@if_neg
def Z17:=@List.flatten_cons
def Z18:=@List.append_assoc
def Z19:=@List.cons_append
def Z2a:=@Nat.eq_of_beq_eq_true
def Z2b:=@List.nil_append
def Z2c:=@List.getElem?_eq_getElem
def Z2d:=@if_pos
def Z2e:=@Array.getElem?_setIfInBounds_ne
def Z2f:=@List.mem_append
def Z2g:=@Array.getElem?_eq_some_iff
def Z2h:=@List.mem_cons
def Z2i:=@List.length_append
def Z2j:=@List.getElem?_eq_some_iff
def Z2k:=@Go.run_underlying
def Z2l:=@List.flatten_append
def Z2m:=@Nat.le_of_ble_eq_true
def Z2n:=@List.take_succ_eq_append_getElem
def Z2o:=@Array.getElem?_setIfInBounds_self_of_lt
def Z2p:=@List.append_nil
def Z2q:=@List.mem_append_right
def Z2r:=@Bool.false_eq_true
def Z2s:=@List.map_cons
def Z2t:=@Int.eq_ofNat_of_zero_le
def Z2u:=@List.all_eq_true
def Z2v:=@List.mem_map
def Z2w:=@Int.toNat_natCast
def Z2x:=@List.mem_append_left
def Z2y:=@List.length_cons
def Z2z:=@List.getElem?_set
def Z20:=@List.map_append
def Z21:=@Nat.le_refl
def Z22:=@List.flatten_nil
def Z23:=@List.length_nil
def Z24:=@List.getElem?_replicate
def Z25:=@Array.mem_toList_iff
def Z26:=@List.length_map
def Z27:=@Bool.and_eq_true
def Z28:=@Option.map_eq_some_iff
def Z29:=@decide_eq_true
def Z3a:=@List.mem_of_getElem?
def Z3b:=@Go.Result.andThen_ok
def Z3c:=@List.getElem_mem
def Z3d:=@List.take_of_length_le
def Z3e:=@Nat.pow_le_pow_right
def Z3f:=@List.getElem?_append_right
def Z3g:=@List.length_take
def Z3h:=@if_false
def Z3i:=@List.ext_getElem?
def Z3j:=@List.mem_singleton
def Z3k:=@Nat.lt_of_lt_of_le
def Z3l:=@List.length_drop
def Z3m:=@Prod.mk.injEq
def Z3n:=@List.getElem?_append_left
def Z3o:=@Nat.zero_add
def Z3p:=@Nat.two_pow_pos
def Z3q:=@Go.Sem.run_bind
def Z3r:=@decide_eq_true_eq
def Z3s:=@List.mem_filter
def Z3t:=@decide_eq_false
def Z3u:=@Array.getElem?_eq_none
def Z3v:=@List.eq_nil_of_length_eq_zero
def Z3w:=@List.nodup_cons
def Z3x:=@Array.getElem?_eq_getElem
def Z3y:=@List.foldl_cons
def Z3z:=@List.map_nil
def Z30:=@List.getElem?_map
def Z31:=@List.size_toArray
def Z32:=@Nat.add_mul
def Z33:=@Array.getElem?_modify
def Z34:=@List.set_append_right
def Z35:=@List.take_append_drop
def Z36:=@not_true_eq_false
def Z37:=@Go.Sem.run_pure
def Z38:=@List.getElem?_cons_zero
def Z39:=@Option.some.inj
def Z4a:=@List.getElem?_set_ne
def Z4b:=@List.length_eraseIdx
def Z4c:=@List.take_length
def Z4d:=@if_true
def Z4e:=@Classical.byContradiction
def Z4f:=@List.sublist_append_right
def Z4g:=@List.getElem?_toArray
def Z4h:=@List.map_set
def Z4i:=@List.range_succ
def Z4j:=@Nat.xor_lt_two_pow
def Z4k:=@Option.isSome_iff_exists
def Z4l:=@List.any_eq_true
def Z4m:=@List.not_mem_nil
def Z4n:=@List.getElem?_cons_succ
def Z4o:=@List.nodup_append
def Z4p:=@Go.Frame.finish_at
def Z4q:=@Go.Value.slice.inj
def Z4r:=@Array.toList_inj
def Z4s:=@List.getElem?_eq_none
def Z4t:=@Nat.add_zero
def Z4u:=@List.drop_eq_getElem_cons
def Z4v:=@List.mem_or_eq_of_mem_set
def Z4w:=@List.mem_range
def Z4x:=@List.mem_of_mem_take
def Z4y:=@List.any_eq_false
def Z4z:=@List.drop_left'
def Z40:=@List.take_left'
def Z41:=@Nat.min_eq_left
def Z42:=@Option.map_some
def Z43:=@Go.Conc.ofEvents_eq
def Z44:=@Array.mem_zipIdx_iff_getElem?
def Z45:=@Int.mul_le_mul_of_nonneg_left
def Z46:=@Option.getD_some
def Z47:=@List.drop_drop
def Z48:=@Array.getElem?_setIfInBounds
def Z49:=@List.append_of_mem
def Z5a:=@List.getElem?_zipWith
def Z5b:=@List.foldl_append
def Z5c:=@Array.getElem?_append_left
def Z5d:=@List.mem_cons_of_mem
def Z5e:=@Nat.mul_le_mul_right
def Z5f:=@Array.mapM_eq_mapM_toList
def Z5g:=@List.map_toArray
def Z5h:=@Nat.mod_eq_of_lt
def Z5i:=@decide_eq_decide
def Z5j:=@Array.getElem?_push
def Z5k:=@List.countP_eq_zero
def Z5l:=@List.mem_map_of_mem
def Z5m:=@Int.emod_lt_of_pos
def Z5n:=@Int.emod_nonneg
def Z5o:=@List.elem_iff
def Z5p:=@List.map_replicate
def Z5q:=@Option.isSome_none
def Z5r:=@Option.isSome_some
def Z5s:=@List.drop_of_length_le
def Z5t:=@Nat.mul_one
def Z5u:=@Option.some.injEq
def Z5v:=@of_decide_eq_true
def Z5w:=@Nat.ble_eq_true_of_le
def Z5x:=@Nat.lt_or_ge
def Z5y:=@Array.toList_map
def Z5z:=@Bool.not_eq_true
def Z50:=@List.mem_toArray
def Z51:=@Go.Conc.stepG_region_end
def Z52:=@Go.run_typeAssert_lacksB
def Z53:=@Array.ext'
def Z54:=@Go.Conc.stepG_value
def Z55:=@Array.getElem?_append_right
def Z56:=@List.cons.injEq
def Z57:=@List.length_pos_iff
def Z58:=@List.replicate_succ
def Z59:=@Nat.one_mul
def Z6a:=@Array.ext_getElem?
def Z6b:=@List.filter_append
def Z6c:=@List.mem_cons_self
def Z6d:=@List.mem_filterMap
def Z6e:=@List.set_cons_succ
def Z6f:=@List.set_cons_zero
def Z6g:=@Nat.add_comm
def Z6h:=@Nat.lt_of_le_of_lt
def Z6i:=@Nat.pow_succ
def Z6j:=@or_false
def Z6k:=@Go.run_callFunc_extern
def Z6l:=@Go.Conc.stepG_region_end
def Z6m:=@Bool.not_eq_true'
def Z6n:=@Decidable.not_not
def Z6o:=@List.length_erase_of_mem
def Z6p:=@not_false_eq_true
def Z6q:=@Go.Conc.seen_none
def Z6r:=@Go.Conc.stepG_end
def Z6s:=@Int.le_refl
def Z6t:=@Nat.add_assoc
def Z6u:=@Nat.mod_one
def Z6v:=@Nat.zero_le
def Z6w:=@List.getElem_map
def Z6x:=@List.mem_flatten
def Z6y:=@List.perm_middle
def Z6z:=@Option.getD_none
def Z60:=@List.filter_eq_nil_iff
def Z61:=@List.sum_replicate_nat
def Z62:=@Go.Conc.enter_at
def Z63:=@Go.Conc.stepG_region
def Z64:=@Array.mem_of_getElem?
def Z65:=@List.any_append
def Z66:=@List.length_replicate
def Z67:=@List.mem_iff_getElem?
def Z68:=@Nat.le_trans
def Z69:=@Nat.mul_zero
def Z7a:=@Nat.mod_lt
def Z7b:=@Std.Legacy.Range.forIn_eq_forIn_range'
def Z7c:=@cond_false
def Z7d:=@List.getElem?_of_mem
def Z7e:=@List.replicate_succ'
def Z7f:=@Go.ConcR.Gen.x_disable_b
def Z7g:=@Go.ConcR.Gen.x_disable_f
def Z7h:=@Go.ConcR.Gen.x_disable_n
def Z7i:=@Go.ConcR.Gen.x_disable_x
def Z7j:=@List.drop_left
def Z7k:=@List.countP_pos_iff
def Z7l:=@List.length_flatten
def Z7m:=@Prod.exists
def Z7n:=@Go.ready_mono
end Go.HL
namespace Go.HL
open Go Go.Proofs Go.Proofs.Tryz
theorem and_mk{a b:Bool}(ha:a=true)(hb:b=true):(a && b)=true:=by rw[ha,hb];rfl
theorem Zju(Lk:Looks){p:Pinned}{s:OpenSpec}{c:OpenClaim}(al:List (List PathCond))(kinds:List LaidKind)(tests:Bool)(har:Bool × String)(lk:Bool)(g:Bool)
  (hc:c.holds p s)(hal:∀D∈al,(c.withDomain D).holds p s)(hw:c.wfByText s=true)(hwal:∀D∈al,(c.withDomain D).wfByText s=true)
  (htie:c.laidByTextAt Lk p kinds tests)
  (hst:c.start=.entering)(hnb:c.noBlocks=false∧c.again=false)(hm:p.checked.prog.mainIs=some (har.1,har.2.toList))(hn:(!har.1 && har.2.isEmpty && !lk)=false)
  (hl:∀f fn,p.checked.prog.funcNamed c.func=some f→p.checked.prog.funcs[f]?=some fn→lk=p.checked.prog.looks []∧∀(j:Nat) t,fn.params[j]?=some t→p.checked.prog.wantsStandIn t=false)
  (hg:g=c.goesBy p.checked.prog):
  Claim7.holds p (.plain s) { stood:={ row:=c,standIns:=[],harness:=har,looks:=lk },kinds:=[],alts:=al,laidByText:=true,laidKinds:=kinds,laidTests:=tests,laidLooks:=Lk,goes:=g }:=by
 have h6:∀r:OpenClaim,Claim7.isSixth { stood:={ row:=r,standIns:=[],harness:=har,looks:=lk },kinds:=[] }=false:=fun r=>by simpa[Claim7.isSixth] using hn
 refine⟨Claim7.tied_new_at Lk kinds tests (Claim7.new_of_sixth hc har lk hst hnb hm (h6 c) hl) hw,fun D hD=>?_,htie,(fun h=>by cases h),hg⟩
 exact Claim7.tied_new_at Lk kinds tests (Claim7.new_of_sixth (hal D hD) har lk hst hnb hm (h6 _) hl) (hwal D hD)
end Go.HL
namespace Go.HL
open Go Go.Proofs Go.Conc Go.Proofs.Tryz
theorem Zlq{H:Type}{enc:TypeId × Value→H}{a:Assume}{C:Checked}{os:Os}{f:FuncId}{fn:Func}{s:OpenSpec}{F:Stop.Interp}{conds:List PathCond}{apart fresh handsOn again:Bool}{laid:List (String × DataW Unit)}
  (own:ownKnob C.prog.godebug=none)(started:os.Started)(hfn:C.prog.funcs[f]?=some fn)
  (witness:∃(w:World) (tape:Tape) (i:Input),w.os=os∧(w.forCall tape i).Shaped C.prog∧i.vars=[]∧Input.okWide C.prog (w.forCall tape i) .any w.heap.size f i∧
   s.preRow enc C.prog fn conds apart laid (w.forCall tape i).memory i.args∧a.holds C.prog (lone (Frame.enter C.prog f i.args .normal) [] (w.forCall tape i)))
  (contract:∀(W:World) (base:Nat) (args:Array Value) (ds gs:List (DataW H)) (before:List MemPlace),
   (∀(j:Nat) t v,fn.params[j]?=some t→args[j]?=some v→Value.okWide C.prog W .any base t v)→
   DataW.Whole enc C.prog fn.params.toList s.vars apart W args.toList ds gs before→
   laidMetH C.prog laid W→
   W.ShapedOpen C.prog→(∀k,s.cond=some k→k H (ds++gs)=true)→
   ∃M last o w' t',runNT C.prog (M+1) (solo (G (Frame.enter C.prog f args .normal) []) W) #[]=(.ended o w',t')∧runN C.prog M (solo (G (Frame.enter C.prog f args .normal) []) W)=.next last∧
    step C.prog last=.ended o w'∧Conc.Good C.prog (fun v W'=>(s.at F).post enc C.prog fn apart fresh handsOn again W args v W') last o w' t'):
  ReturnsInLeavingWide a C os f .any (s.preRow enc C.prog fn conds apart laid) ((s.at F).post enc C.prog fn apart fresh handsOn again):=by
 refine returnsInLeavingWide_of_good own started witness ?_
 intro w tape i _ hsh _ hok hpre hholds
 obtain⟨_,_,_,fn',hfn',_,_,_,_,hval⟩:=hok
 have e:fn'=fn:=Z39 (hfn'.symm.trans hfn)
 subst e
 obtain⟨⟨hp,hl⟩,hz⟩:=hpre
 obtain⟨ds,gs,before,hw,hc,hk⟩:=OpenSpec.pre_parts hp
 have hw':=DataW.Whole.of_heap (w':=w.forCall tape i) (by rfl) hw
 obtain⟨M,last,o,w',t',h1,h2,h3,h4⟩:=contract (w.forCall tape i) w.heap.size i.args ds gs before hval hw' (hl.of_heap (by rfl)) hsh hk
 exact⟨M,last,o,w',t',h1,h2,h3,h4.mono fun v hp=>ChangeSpec.post_blind hp⟩
theorem Zf1{p:Pinned}{s:OpenSpec}{c:OpenClaim}(f:FuncId)(fn:Func)
  (hn:c.program=p.name)(hs:c.sum=p.sum)(hsp:c.spec=s.name)
  (hstart:c.start=.entering)(hout:c.outside=[])(hin:c.inits=[])(hun:c.under=none)(hi4:c.initsInPlace=[]∧c.initsUnfollowed=false∧c.initsRecurse=false∧c.initsNamed=[]∧c.initsPassed=[])(hnb:c.noBlocks=false)(hlv:c.leaving=true)(hfo:c.followed=none)(hnar:c.narrowed=s.cond.isSome)(hstill:c.still=false)
  (hfn:p.checked.prog.funcNamed c.func=some f)(hf:p.checked.prog.funcs[f]?=some fn)
  (closed:joinedFacts p.checked.prog f fn s.bare c=true)
  (hinst:fn.isInstance p.checked.prog c.origin c.targs)(hwrap:fn.isWrapper p.checked.prog c.wrapper c.mainSum)
  (h:∀os:Os,os.Started→∀(H:Type) (enc:TypeId × Value→H),(∀a b,enc a=enc b→a=b)→∀F:Stop.Interp,
   ReturnsInLeavingWide c.assume p.checked os f .any (c.pre enc p.checked.prog fn s) ((s.at F).post enc p.checked.prog fn c.apart c.fresh c.handsOn c.again)):c.holds p s:=by
 simp only[joinedFacts,Z27,beq_iff_eq,Array.all_eq_true_iff_forall_mem,Z2u,Z3r]at closed
 obtain⟨⟨⟨⟨⟨⟨⟨⟨⟨⟨⟨⟨⟨⟨⟨⟨⟨⟨⟨⟨⟨⟨⟨⟨⟨⟨⟨⟨⟨⟨⟨k1,k2⟩,k3⟩,k4⟩,k5⟩,k6⟩,k7⟩,k8⟩,k9⟩,k10⟩,k11⟩,k12⟩,k13⟩,k14⟩,k15⟩,k16⟩,k17⟩,k17b⟩,k18⟩,k19⟩,k20⟩,k21⟩,k22⟩,k23⟩,k23b⟩,k24⟩,k24b⟩,k24c⟩,k25⟩,k26⟩,k27⟩,k28⟩:=closed
 have hq:∀os:Os,Stop.quiet p.checked.prog os:=fun os k hk=>by rw[k9]at hk;cases hk
 refine⟨k1,hn,hs,hsp,k2,k3,by unfold OpenClaim.startFits;rw[hstart];exact k24,by unfold OpenClaim.startTold;rw[hstart];exact⟨hin,hun,hi4⟩,f,fn,hfn,hf,⟨k4,k19⟩,(fun hb=>by rw[hnb]at hb;cases hb),by unfold OpenClaim.namedList;rw[hfo];exact k5,hinst,hwrap,
  k6.trans k7.symm,⟨k8.trans k9.symm,by unfold Program.envWorded;rw[k9];rfl,k23b⟩,k10,k11,k12,k13,k14,⟨k15,k27,k28⟩,⟨k16,k20⟩,⟨k17,k21,k25,k26⟩,⟨k22,k24b,k24c,k17b⟩,(by rw[hout,hnar];cases hsh:c.shortTexts with|none=>simp|some _=>rw[hsh]at k23;cases k23),fun n hn'=>varReadable_some (k18 n hn'),
  ⟨_,by unfold OpenClaim.world;rw[hout,hstart];exact WideRow.started_initial,hq _⟩,[],by unfold OpenClaim.lists;rw[hfo],fun os st _ H enc inj=>?_⟩
 have st':os.Started:=by unfold OpenClaim.world at st;rw[hout,hstart]at st;exact st
 rw[OpenClaim.post_not_still hstill]
 unfold OpenClaim.form
 rw[hstart,k6]
 intro F
 have e1:c.okInput=Input.okWide:=by unfold OpenClaim.okInput;rw[hnb]
 have e2:c.atReturn p.checked.prog=leavingAtReturn p.checked.prog:=by unfold OpenClaim.atReturn;rw[hlv]
 have e3:c.always p.checked.prog []=nothingAlways:=by unfold OpenClaim.always;rw[hfo]
 have e4:s.post enc p.checked.prog fn F c.outside c.apart c.fresh c.handsOn c.again=(s.at F).post enc p.checked.prog fn c.apart c.fresh c.handsOn c.again:=by rw[hout];rfl
 rw[e1,e2,e3]
 show ReturnsInOpen _ _ _ _ _ _ _ _ (s.post enc p.checked.prog fn F c.outside c.apart c.fresh c.handsOn c.again) _ _
 rw[e4]
 exact h os st' H enc inj F k24
end Go.HL
namespace Go.HL
open Go Go.Proofs Go.Proofs.Tryz
def noView:Obj→Bool
 | .view _ _=>false
 | _=>true
def Halts{α:Type}(P:Program)(s:Sem α):Prop:=∀w,∃h w',s.run P w=.halt h w'
def PMark(m:Mark):Prop:=m=.noRoom∨∃f,m=.extern f
def Plo{α:Type}(P:Program)(B W:Nat→Prop)(N:Nat):Sem α→Prop
 | .pure _=>True
 | .halt _=>True
 | .load m a k=>(∀v,Plo P B W N (k v))∨Halts P (.load m a k)
 | .store m a v k=>((W a.block∨N≤a.block)∧Plo P B W N k)∨Halts P (.store m a v k)
 | .new o k=>(noView o=true∧∀r,N≤r→Plo P B W N (k r))∨Halts P (.new o k)
 | .shape r k=>((B r∨N≤r)∧∀s,Plo P B W N (k s))∨Halts P (.shape r k)
 | .freeze a n k=>((W a.block∨N≤a.block)∧Plo P B W N k)∨Halts P (.freeze a n k)
 | .frozen a k=>((B a.block∨N≤a.block)∧∀b,Plo P B W N (k b))∨Halts P (.frozen a k)
 | .getObj r k=>(∀o,Plo P B W N (k o))∨Halts P (.getObj r k)
 | .setObj r o k=>((W r∨N≤r)∧noView o=true∧Plo P B W N k)∨Halts P (.setObj r o k)
 | .choose q k=>(∀n,Plo P B W N (k n))∨Halts P (.choose q k)
 | .sys c k=>Halts P (.sys c k)
 | .program k=>Plo P B W N (k P)∨Halts P (.program k)
 | .mark m k=>(PMark m∧Plo P B W N k)∨Halts P (.mark m k)
theorem Ztn{α:Type}{P:Program}{B W:Nat→Prop}{N:Nat}{s:Sem α}(h:Halts P s):Plo P B W N s:=by
 cases s<;>first|exact trivial|exact .inr h|exact h
theorem Halts.bind{α β:Type}{P:Program}{s:Sem α}(h:Halts P s)(f:α→Sem β):Halts P (s.bind f):=fun w=>by
 obtain⟨x,w',hx⟩:=h w
 have key:∀(s:Sem α) (w:World),s.run P w=.halt x w'→(s.bind f).run P w=.halt x w':=by
  intro s
  induction s with
  | pure a=>intro w h;cases h
  | halt y=>intro w h;simpa[Sem.bind,Sem.run] using h
  | load m a k ih=>
   intro w h
   simp only[Sem.bind,Sem.run]at h ⊢
   cases hc:w.cell? a with
   | some v=>rw[hc]at h;exact ih v w h
   | none=>
    rw[hc]at h
    cases hf:w.farLoad P a (m == .atomic) with
    | ok r=>rw[hf]at h;exact ih r.1 w h
    | error e=>rw[hf]at h;simpa using h
  | store m a v k ih=>
   intro w h
   have hrun:∀{γ:Type} (q:Sem γ),(∀cs,v≠.agg cs)→(∀cs,v≠.tuple cs)→(Sem.store m a v q).run P w=match w.cell? a with
     | some _=>if w.frozen? a then .halt (.unsupported (.unsafePointer "a write to bytes that a string shares")) w else q.run P (w.setCell a v)
     | none=>match w.farStore P a v (m == .atomic) with
      | .ok (w,_)=>q.run P w
      | .error h=>.halt h w:=fun q h1 h2=>by
    cases v<;>first|exact absurd rfl (h1 _)|exact absurd rfl (h2 _)|rfl
   by_cases h1:∃cs,v=.agg cs
   ·obtain⟨cs,rfl⟩:=h1;simpa[Sem.bind,Sem.run] using h
   by_cases h2:∃cs,v=.tuple cs
   ·obtain⟨cs,rfl⟩:=h2;simpa[Sem.bind,Sem.run] using h
   have h1':∀cs,v≠.agg cs:=fun cs e=>h1 ⟨cs,e⟩
   have h2':∀cs,v≠.tuple cs:=fun cs e=>h2 ⟨cs,e⟩
   simp only[Sem.bind]
   rw[hrun _ h1' h2']at h ⊢
   cases hc:w.cell? a with
   | some y=>
    rw[hc]at h
    cases hz:w.frozen? a with
    | true=>rw[hz]at h;simpa using h
    | false=>rw[hz]at h;simp only[Z2r,Z3h]at h ⊢;exact ih _ h
   | none=>
    rw[hc]at h
    cases hf:w.farStore P a v (m == .atomic) with
    | ok r=>rw[hf]at h;exact ih _ h
    | error e=>rw[hf]at h;simpa using h
  | new o k ih=>intro w h;exact ih _ _ h
  | shape r k ih=>intro w h;exact ih _ _ h
  | freeze a n k ih=>intro w h;exact ih _ h
  | frozen a k ih=>intro w h;exact ih _ _ h
  | getObj r k ih=>
   intro w h
   simp only[Sem.bind,Sem.run]at h ⊢
   cases hr:w.heap[r]? with
   | none=>rw[hr]at h;simpa using h
   | some o=>rw[hr]at h;cases o<;>first|exact ih _ _ h|simpa using h
  | setObj r o k ih=>
   intro w h
   simp only[Sem.bind,Sem.run]at h ⊢
   cases hr:w.heap[r]? with
   | none=>rw[hr]at h;simpa using h
   | some o=>rw[hr]at h;cases o<;>first|exact ih _ h|simpa using h
  | choose q k ih=>
   intro w h
   simp only[Sem.bind,Sem.run]at h ⊢
   split at h
   ·rename_i e;rw[Z2d e];exact ih _ _ h
   ·rename_i e;rw[Z16 e];exact ih _ _ h
  | sys c k ih=>intro w h;exact ih _ _ h
  | program k ih=>intro w h;exact ih _ _ h
  | mark m k ih=>intro w h;exact ih _ h
 exact⟨x,w',key s w hx⟩
section
variable{P:Program}{B W:Nat→Prop}{N:Nat}
theorem Plo.bind'{α β:Type}{x:Sem α}{f:α→Sem β}(hx:Plo P B W N x)(hf:∀a,Plo P B W N (f a)):Plo P B W N (x.bind f):=by
 induction x with
 | pure a=>exact hf a
 | halt h=>exact trivial
 | load m a k ih=>exact hx.imp (fun hx v=>ih v (hx v)) fun h=>h.bind f
 | store m a v k ih=>exact hx.imp (fun hx=>⟨hx.1,ih hx.2⟩) fun h=>h.bind f
 | new o k ih=>exact hx.imp (fun hx=>⟨hx.1,fun r hr=>ih r (hx.2 r hr)⟩) fun h=>h.bind f
 | shape r k ih=>exact hx.imp (fun hx=>⟨hx.1,fun s=>ih s (hx.2 s)⟩) fun h=>h.bind f
 | freeze a n k ih=>exact hx.imp (fun hx=>⟨hx.1,ih hx.2⟩) fun h=>h.bind f
 | frozen a k ih=>exact hx.imp (fun hx=>⟨hx.1,fun b=>ih b (hx.2 b)⟩) fun h=>h.bind f
 | getObj r k ih=>exact hx.imp (fun hx o=>ih o (hx o)) fun h=>h.bind f
 | setObj r o k ih=>exact hx.imp (fun hx=>⟨hx.1,hx.2.1,ih hx.2.2⟩) fun h=>h.bind f
 | choose q k ih=>exact hx.imp (fun hx n=>ih n (hx n)) fun h=>h.bind f
 | sys c k ih=>exact Halts.bind hx f
 | program k ih=>exact hx.imp (fun hx=>ih P hx) fun h=>h.bind f
 | mark m k ih=>exact hx.imp (fun hx=>⟨hx.1,ih hx.2⟩) fun h=>h.bind f
theorem Plo.bind{α β:Type}{x:Sem α}{f:α→Sem β}(hx:Plo P B W N x)(hf:∀a,Plo P B W N (f a)):Plo P B W N (x >>= f):=hx.bind' hf
structure Ag(B:Nat→Prop)(N:Nat)(w w2:World):Prop where
 size:w2.heap.size=w.heap.size
 tape:w2.tape=w.tape
 drawn:w2.drawn=w.drawn
 os:w2.os=w.os
 out:w2.output=w.output
 same:∀b,B b∨N≤b→w2.heap[b]?=w.heap[b]?
theorem Ag.refl(w:World):Ag B N w w:=⟨rfl,rfl,rfl,rfl,rfl,fun _ _=>rfl⟩
def EvIn(B W:Nat→Prop)(N:Nat)(e:Event):Prop:=(∃b,(e.loc=.obj b∨∃a,e.loc=.cell a∧a.block=b)∧(if e.write then W b∨N≤b else B b∨N≤b))∨∃m,e=⟨.mark m,false,true⟩∧PMark m
def EvLt(M:Nat)(e:Event):Prop:=∀b,(e.loc=.obj b∨∃a,e.loc=.cell a∧a.block=b)→b<M
theorem EvLt.cell{M:Nat}{a:Addr}{x y:Bool}(h:a.block<M):EvLt M ⟨.cell a,x,y⟩:=fun b hb=>by
 rcases hb with h1|⟨a',h1,h2⟩
 ·cases h1
 ·cases h1;exact h2▸h
theorem EvLt.obj{M r:Nat}{x y:Bool}(h:r<M):EvLt M ⟨.obj r,x,y⟩:=fun b hb=>by
 rcases hb with h1|⟨a',h1,h2⟩
 ·cases h1;exact h
 ·cases h1
theorem EvLt.mark{M:Nat}{m:Mark}{x y:Bool}:EvLt M ⟨.mark m,x,y⟩:=fun b hb=>by
 rcases hb with h1|⟨a',h1,h2⟩<;>cases h1
def NV(B:Nat→Prop)(N:Nat)(w:World):Prop:=∀b o,B b∨N≤b→w.heap[b]?=some o→noView o=true
theorem Zgj(w:World)(h:Array Obj)(e:h=w.heap):({ w with heap:=h }:World)=w:=by subst e;rfl
def Zok(w:World)(b:Nat):World:={ w with heap:=w.heap.setIfInBounds b (.cells #[] 0 (0,0)) }
theorem Zyh{w:World}{b:Nat}(hb:¬ (B b∨N≤b)):Ag B N w (Zok w b):=⟨by simp[Zok],rfl,rfl,rfl,rfl,fun c hc=>by
 have:b≠c:=fun e=>hb (e▸hc)
 simp[Zok,Z2e this]⟩
theorem Zyi{w:World}{b:Nat}(h:b<w.heap.size):(Zok w b).heap[b]?=some (.cells #[] 0 (0,0)):=by
 simp[Zok,h]
theorem getElem?_lt{w:World}{b:Nat}{o:Obj}(h:w.heap[b]?=some o):b<w.heap.size:=(Z2g.1 h).1
def Zbz{α:Type}(P:Program)(B W:Nat→Prop)(N:Nat)(s:Sem α):Prop:=∀(w:World) (es:Array Event),N≤w.heap.size→NV B N w→(∀w2,Ag B N w w2→∃v w',s.run P w2=.ok v w')→
  ∃v w' es',s.runT P w es=(.ok v w',es++es')∧(∀e∈es',EvIn B W N e∧EvLt w'.heap.size e)∧w.heap.size≤w'.heap.size∧∀b,b<N→¬ W b→w'.heap[b]?=w.heap[b]?
theorem Zdu{es es':Array Event}{e:Event}:(es.push e)++es'=es++(#[e]++es'):=by
 apply Z53;simp
theorem Zdy{B W:Nat→Prop}{N M:Nat}{e:Event}{es':Array Event}(he:EvIn B W N e)(hm:EvLt M e)(h:∀x∈es',EvIn B W N x∧EvLt M x):∀x∈#[e]++es',EvIn B W N x∧EvLt M x:=fun x hx=>by
 rcases Array.mem_append.1 hx with hx|hx
 ·have:x=e:=by simpa using hx
  rw[this];exact⟨he,hm⟩
 ·exact h x hx
theorem ev_cell{a:Addr}{sy:Bool}(h:B a.block∨N≤a.block):EvIn B W N ⟨.cell a,false,sy⟩:=.inl ⟨a.block,.inr ⟨a,rfl,rfl⟩,by simpa using h⟩
theorem ev_cellw{a:Addr}{sy:Bool}(h:W a.block∨N≤a.block):EvIn B W N ⟨.cell a,true,sy⟩:=.inl ⟨a.block,.inr ⟨a,rfl,rfl⟩,by simpa using h⟩
theorem ev_obj{r:Nat}{sy:Bool}(h:B r∨N≤r):EvIn B W N ⟨.obj r,false,sy⟩:=.inl ⟨r,.inl rfl,by simpa using h⟩
theorem ev_objw{r:Nat}{sy:Bool}(h:W r∨N≤r):EvIn B W N ⟨.obj r,true,sy⟩:=.inl ⟨r,.inl rfl,by simpa using h⟩
theorem Ag.swap{w w' w2:World}{b:Nat}{o:Obj}(hb:w.heap[b]?=some o)(h:Ag B N w' w2)(h1:w'.heap.size=w.heap.size)(h2:w'.tape=w.tape)(h3:w'.drawn=w.drawn)(h4:w'.os=w.os)(h5:w'.output=w.output)
  (h6:∀j,j≠b→w'.heap[j]?=w.heap[j]?):Ag B N w { w2 with heap:=w2.heap.setIfInBounds b o }:=by
 have hlt:=getElem?_lt hb
 refine⟨by simp[h.size,h1],h.tape.trans h2,h.drawn.trans h3,h.os.trans h4,h.out.trans h5,fun c hc=>?_⟩
 by_cases e:b=c
 ·subst e
  rw[Z2o (by rw[h.size,h1];exact hlt),hb]
 ·simp only[Z2e e]
  rw[h.same c hc,h6 c (fun q=>e q.symm)]
theorem Zuh{h:Array Obj}{b:Nat}{o x:Obj}(hx:h[b]?=some x):(h.setIfInBounds b o).setIfInBounds b x=h:=by
 apply Z6a
 intro j
 have hlt:=(Z2g.1 hx).1
 by_cases e:b=j
 ·subst e;rw[Z2o (by simpa using hlt),hx]
 ·simp[Z2e e]
theorem loc_load{P:Program}{α:Type}{m:Mode}{a:Addr}{k:Value→Sem α}(ih:∀v,Zbz P B W N (k v)):Zbz P B W N (.load m a k):=by
 intro w es hN hv hok
 by_cases hb:B a.block∨N≤a.block
 ·have hcell:∀w2,Ag B N w w2→w2.cell? a=w.cell? a:=fun w2 h2=>by unfold World.cell?;rw[h2.same _ hb]
  cases hc:w.cell? a with
  | some v=>
   obtain⟨x,w',es',h1,h2,h3,h4⟩:=ih v w (es.push ⟨.cell a,false,m == .atomic⟩) hN hv fun w2 h2=>by
    have:=hok w2 h2
    simpa only[Sem.run,hcell w2 h2,hc] using this
   refine⟨x,w',#[⟨.cell a,false,m == .atomic⟩]++es',?_,Zdy (ev_cell hb) (.cell (by
    unfold World.cell? at hc
    split at hc
    ·exact Z3k (getElem?_lt (by assumption)) h3
    ·cases hc)) h2,h3,h4⟩
   simp only[Sem.runT,hc]
   rw[h1,Zdu]
  | none=>
   obtain⟨x,w',h⟩:=hok w (.refl w)
   simp only[Sem.run,hc]at h
   exfalso
   unfold World.farLoad at h
   cases hw:w.heap[a.block]? with
   | none=>rw[hw]at h;simp at h
   | some o=>
    have:=hv _ _ hb hw
    rw[hw]at h
    cases o<;>simp[noView]at this h
 ·exfalso
  have hlt:a.block<w.heap.size:=by omega
  obtain⟨x,w',h⟩:=hok _ (Zyh hb)
  have hj:=Zyi hlt
  have hc:(Zok w a.block).cell? a=none:=by
   unfold World.cell?
   rw[hj]
   simp
  simp only[Sem.run,hc]at h
  unfold World.farLoad at h
  rw[hj]at h
  simp at h
theorem Z0n{P:Program}{α:Type}{m:Mode}{a:Addr}{v:Value}{k:Sem α}(hW:W a.block∨N≤a.block)(hWB:∀b,W b→B b)(ih:Zbz P B W N k):Zbz P B W N (.store m a v k):=by
 intro w es hN hv hok
 have hb:B a.block∨N≤a.block:=hW.imp (hWB _) id
 obtain⟨x0,w0,h0⟩:=hok w (.refl w)
 have hone:(∀cs,v≠.agg cs)∧∀cs,v≠.tuple cs:=⟨fun cs e=>by subst e;simp[Sem.run]at h0,fun cs e=>by subst e;simp[Sem.run]at h0⟩
 have hrun:∀w2:World,(Sem.store m a v k).run P w2=match w2.cell? a with
  | some _=>if w2.frozen? a then .halt (.unsupported (.unsafePointer "a write to bytes that a string shares")) w2 else k.run P (w2.setCell a v)
  | none=>match w2.farStore P a v (m == .atomic) with
   | .ok (w,_)=>k.run P w
   | .error h=>.halt h w2:=fun w2=>by
  cases v<;>first|exact absurd rfl (hone.1 _)|exact absurd rfl (hone.2 _)|rfl
 have hrunT:(Sem.store m a v k).runT P w es=match w.cell? a with
  | some _=>if w.frozen? a then (.halt (.unsupported (.unsafePointer "a write to bytes that a string shares")) w,es) else k.runT P (w.setCell a v) (es.push ⟨.cell a,true,m == .atomic⟩)
  | none=>match w.farStore P a v (m == .atomic) with
   | .ok (w,touched)=>k.runT P w (es++touched.toArray.map (⟨.cell ·,true,m == .atomic⟩))
   | .error h=>(.halt h w,es):=by
  cases v<;>first|exact absurd rfl (hone.1 _)|exact absurd rfl (hone.2 _)|rfl
 rw[hrun]at h0
 cases hc:w.cell? a with
 | none=>
  exfalso
  rw[hc]at h0
  unfold World.farStore at h0
  cases hw:w.heap[a.block]? with
  | none=>rw[hw]at h0;simp at h0
  | some o=>
   have:=hv _ _ hb hw
   rw[hw]at h0
   cases o<;>simp[noView]at this h0
 | some y=>
  rw[hc]at h0 hrunT
  cases hf:w.frozen? a with
  | true=>rw[hf]at h0;simp at h0
  | false=>
   rw[hf]at hrunT
   simp only[Z2r,Z3h]at hrunT
   obtain⟨c,E,fr,hw⟩:∃c E fr,w.heap[a.block]?=some (.cells c E fr):=by
    unfold World.cell? at hc
    split at hc
    ·exact⟨_,_,_,by assumption⟩
    ·cases hc
   have hlt:=getElem?_lt hw
   have hset:∀w2:World,w2.heap[a.block]?=some (.cells c E fr)→(w2.setCell a v).heap=w2.heap.setIfInBounds a.block (.cells (if a.spot.isSome then c else c.setIfInBounds a.off v) E fr):=fun w2 h2=>by
    apply Z6a
    intro j
    have hl2:=getElem?_lt h2
    by_cases e:a.block=j
    ·subst e
     rw[Z2o hl2]
     simp only[World.setCell,Z33,h2,Z42,Z4d]
    ·simp[World.setCell,Z33,e,Z2e e]
   obtain⟨x,w',es',h1,h2,h3,h4⟩:=ih (w.setCell a v) (es.push ⟨.cell a,true,m == .atomic⟩) (by simpa[World.setCell] using hN) (fun b o hb2 ho=>by
    rw[hset w hw]at ho
    by_cases e:a.block=b
    ·subst e
     simp[hlt]at ho
     rw[← ho];rfl
    ·rw[Z2e e]at ho
     exact hv b o hb2 ho) (fun w2 ha2=>by
    have hs2:w2.heap[a.block]?=some (.cells (if a.spot.isSome then c else c.setIfInBounds a.off v) E fr):=by
     rw[ha2.same _ hb,hset w hw]
     simp[hlt]
    have hag:Ag B N w { w2 with heap:=w2.heap.setIfInBounds a.block (.cells c E fr) }:=ha2.swap hw (by simp[World.setCell]) rfl rfl rfl rfl (fun j hj=>by rw[hset w hw,Z2e (fun e=>hj e.symm)])
    have h5:=hok _ hag
    have hl2:=getElem?_lt hs2
    have hb3:({ w2 with heap:=w2.heap.setIfInBounds a.block (.cells c E fr) }:World).heap[a.block]?=some (.cells c E fr):=by simp[hl2]
    have hc2:({ w2 with heap:=w2.heap.setIfInBounds a.block (.cells c E fr) }:World).cell? a=some y:=by
     rw[← hc]
     unfold World.cell?
     rw[hb3,hw]
    have hf2:({ w2 with heap:=w2.heap.setIfInBounds a.block (.cells c E fr) }:World).frozen? a=false:=by
     rw[← hf]
     unfold World.frozen?
     rw[hb3,hw]
    rw[hrun,hc2,hf2]at h5
    simp only[Z2r,Z3h]at h5
    have e:({ w2 with heap:=w2.heap.setIfInBounds a.block (.cells c E fr) }:World).setCell a v=w2:=by
     have:=hset _ hb3
     show (World.mk _ _ _ _ _)=_
     refine Zgj w2 _ ?_
     exact this.trans (Zuh hs2)
    rw[e]at h5
    exact h5)
   refine⟨x,w',#[⟨.cell a,true,m == .atomic⟩]++es',by rw[hrunT,h1,Zdu],Zdy (ev_cellw hW) (.cell (Z3k hlt (by simpa[World.setCell] using h3))) h2,by simpa[World.setCell] using h3,fun b hbN hWb=>?_⟩
   rw[h4 b hbN hWb,hset w hw]
   have:a.block≠b:=fun e=>by
    rcases hW with h|h
    ·exact hWb (e▸h)
    ·omega
   rw[Z2e this]
theorem loc_new{P:Program}{α:Type}{o:Obj}{k:Nat→Sem α}(ho:noView o=true)(ih:∀r,N≤r→Zbz P B W N (k r)):Zbz P B W N (.new o k):=by
 intro w es hN hv hok
 obtain⟨x,w',es',h1,h2,h3,h4⟩:=ih w.heap.size hN { w with heap:=w.heap.push o } es (by simp;omega) (fun b p hb hp=>by
  simp only[Z5j]at hp
  split at hp
  ·cases hp;exact ho
  ·exact hv b p hb hp) (fun w2 h2=>by
  have hs:w2.heap.size=w.heap.size+1:=by have:=h2.size;simpa using this
  have hl:w2.heap[w.heap.size]?=some o:=by rw[h2.same _ (.inr hN)];simp
  have hag:Ag B N w { w2 with heap:=w2.heap.pop }:=⟨by simp[hs],h2.tape,h2.drawn,h2.os,h2.out,fun b hb=>by
   by_cases e:b<w.heap.size
   ·simp only[Array.getElem?_pop,hs,Nat.add_sub_cancel,Z2d e]
    rw[h2.same b hb]
    simp[Z5j,Nat.ne_of_lt e]
   ·have h8:w.heap.size≤b:=by omega
    rw[Z3u (by simp[hs];omega),Z3u h8]⟩
  have h5:=hok _ hag
  have e:({ w2 with heap:=w2.heap.pop.push o }:World)=w2:=by
   refine Zgj w2 _ ?_
   apply Z6a
   intro j
   simp only[Z5j,Array.size_pop,hs,Nat.add_sub_cancel,Array.getElem?_pop]
   split
   ·rename_i hj;rw[hj,hl]
   ·split
    ·rfl
    ·rw[Z3u (by omega)]
  simp only[Sem.run,Array.size_pop,hs,Nat.add_sub_cancel]at h5
  rw[e]at h5
  exact h5)
 refine⟨x,w',es',h1,h2,by simp at h3;omega,fun b hb hWb=>?_⟩
 rw[h4 b hb hWb]
 simp[Z5j,show ¬ b=w.heap.size by omega]
theorem Z0m{P:Program}{α:Type}{r:Nat}{k:Option (TypeId × Nat)→Sem α}(hb:B r∨N≤r)(ih:∀s,Zbz P B W N (k s)):Zbz P B W N (.shape r k):=by
 intro w es hN hv hok
 exact ih (w.shape? r) w es hN hv fun w2 h2=>by
  have:=hok w2 h2
  have e:w2.shape? r=w.shape? r:=by unfold World.shape?;rw[h2.same r hb]
  simpa only[Sem.run,e] using this
theorem Zv8{P:Program}{α:Type}{a:Addr}{k:Bool→Sem α}(hb:B a.block∨N≤a.block)(ih:∀s,Zbz P B W N (k s)):Zbz P B W N (.frozen a k):=by
 intro w es hN hv hok
 exact ih (w.frozen? a) w es hN hv fun w2 h2=>by
  have:=hok w2 h2
  have e:w2.frozen? a=w.frozen? a:=by unfold World.frozen?;rw[h2.same _ hb]
  simpa only[Sem.run,e] using this
theorem Zv7{P:Program}{α:Type}{a:Addr}{n:Nat}{k:Sem α}(hW:W a.block∨N≤a.block)(hWB:∀b,W b→B b)(ih:Zbz P B W N k):Zbz P B W N (.freeze a n k):=by
 intro w es hN hv hok
 have hb:B a.block∨N≤a.block:=hW.imp (hWB _) id
 have hsame:∀(w2:World) (j:Nat),j≠a.block→(w2.freeze a n).heap[j]?=w2.heap[j]?:=fun w2 j hj=>by
  unfold World.freeze
  split
  ·rfl
  ·simp only[Z33]
   rw[Z16 (fun e=>hj e.symm)]
 have hsize:∀w2:World,(w2.freeze a n).heap.size=w2.heap.size:=fun w2=>by unfold World.freeze;split<;>simp
 have hrest:∀w2:World,(w2.freeze a n).tape=w2.tape∧(w2.freeze a n).drawn=w2.drawn∧(w2.freeze a n).os=w2.os∧(w2.freeze a n).output=w2.output:=fun w2=>by unfold World.freeze;split<;>exact⟨rfl,rfl,rfl,rfl⟩
 have hat:∀w2 w3:World,w2.heap[a.block]?=w3.heap[a.block]?→(w2.freeze a n).heap[a.block]?=(w3.freeze a n).heap[a.block]?:=fun w2 w3 e=>by
  unfold World.freeze
  split
  ·exact e
  ·simp only[Z33,Z4d,e]
 obtain⟨x,w',es',h1,h2,h3,h4⟩:=ih (w.freeze a n) es (by rw[hsize];exact hN) (fun b o hb2 ho=>by
  by_cases e:b=a.block
  ·subst e
   cases hw:w.heap[a.block]? with
   | none=>
    have:=getElem?_lt ho
    rw[hsize]at this
    rw[Z3x this]at hw
    cases hw
   | some o'=>
    have hv':=hv _ _ hb2 hw
    unfold World.freeze at ho
    split at ho
    ·rw[hw]at ho;cases ho;exact hv'
    ·simp only[Z33,Z4d,hw,Z42,Z5u]at ho
     subst ho
     cases o'<;>first|rfl|exact hv'
  ·rw[hsame w b e]at ho
   exact hv b o hb2 ho) fun w2 ha2=>by
  obtain⟨hp,tp,dr,o2,ou⟩:=w2
  have hz:hp.size=w.heap.size:=by have:=ha2.size;rw[hsize]at this;exact this
  let w3:World:=⟨(match w.heap[a.block]? with|some o=>hp.setIfInBounds a.block o|none=>hp),tp,dr,o2,ou⟩
  have e3:w3.heap[a.block]?=w.heap[a.block]?:=by
   show (match w.heap[a.block]? with|some o=>hp.setIfInBounds a.block o|none=>hp)[a.block]?=_
   cases hw:w.heap[a.block]? with
   | none=>
    have:w.heap.size≤a.block:=by
     rcases Z5x a.block w.heap.size with h|h
     ·rw[Z3x h]at hw;cases hw
     ·exact h
    show hp[a.block]?=none
    exact Z3u (by omega)
   | some o=>
    have:=getElem?_lt hw
    exact Z2o (by omega)
  have e4:∀j,j≠a.block→w3.heap[j]?=hp[j]?:=fun j hj=>by
   show (match w.heap[a.block]? with|some o=>hp.setIfInBounds a.block o|none=>hp)[j]?=_
   split
   ·exact Z2e (fun e=>hj e.symm)
   ·rfl
  have e5:w3.heap.size=hp.size:=by
   show (match w.heap[a.block]? with|some o=>hp.setIfInBounds a.block o|none=>hp).size=_
   split<;>simp
  have hr:=hrest w
  have hag:Ag B N w w3:=⟨by rw[e5,hz],ha2.tape.trans hr.1,ha2.drawn.trans hr.2.1,ha2.os.trans hr.2.2.1,ha2.out.trans hr.2.2.2,fun c hc=>by
   by_cases e:c=a.block
   ·subst e;exact e3
   ·rw[e4 c e]
    have:=ha2.same c hc
    rw[hsame w c e]at this
    exact this⟩
  have h5:=hok w3 hag
  have e6:w3.freeze a n=(⟨hp,tp,dr,o2,ou⟩:World):=by
   have hr3:=hrest w3
   have:(w3.freeze a n).heap=hp:=by
    apply Z6a
    intro j
    by_cases e:j=a.block
    ·subst e
     rw[hat w3 w e3]
     exact(ha2.same _ hb).symm
    ·rw[hsame w3 j e,e4 j e]
   generalize hq:w3.freeze a n=q at this hr3
   obtain⟨q1,q2,q3,q4,q5⟩:=q
   simp only at this hr3
   obtain⟨r1,r2,r3,r4⟩:=hr3
   subst this r1 r2 r3 r4
   rfl
  simp only[Sem.run,e6]at h5
  exact h5
 refine⟨x,w',es',by simp only[Sem.runT];exact h1,h2,by rw[hsize]at h3;exact h3,fun b hb2 hWb=>?_⟩
 rw[h4 b hb2 hWb]
 refine hsame w b fun e=>?_
 subst e
 rcases hW with h|h
 ·exact hWb h
 ·omega
theorem Zv9{P:Program}{α:Type}{r:Nat}{k:Obj→Sem α}(ih:∀o,Zbz P B W N (k o)):Zbz P B W N (.getObj r k):=by
 intro w es hN hv hok
 by_cases hb:B r∨N≤r
 ·have hrun:∀w2,Ag B N w w2→w2.heap[r]?=w.heap[r]?:=fun w2 h2=>h2.same r hb
  obtain⟨x0,w0,h0⟩:=hok w (.refl w)
  cases hr:w.heap[r]? with
  | none=>simp[Sem.run,hr]at h0
  | some o=>
   have hnc:∀c E fr,o≠.cells c E fr:=fun c E fr e=>by subst e;simp[Sem.run,hr]at h0
   have hstep:∀w2:World,w2.heap[r]?=some o→(Sem.getObj r k).run P w2=(k o).run P w2:=fun w2 h2=>by
    simp only[Sem.run,h2]
   have hstepT:(Sem.getObj r k).runT P w es=(k o).runT P w (es.push ⟨.obj r,false,o.isChan⟩):=by
    simp only[Sem.runT,hr]
   obtain⟨x,w',es',h1,h2,h3,h4⟩:=ih o w (es.push ⟨.obj r,false,o.isChan⟩) hN hv fun w2 h2=>by
    have:=hok w2 h2
    rwa [hstep w2 (by rw[hrun w2 h2,hr])]at this
   exact⟨x,w',#[⟨.obj r,false,o.isChan⟩]++es',by rw[hstepT,h1,Zdu],Zdy (ev_obj hb) (.obj (Z3k (getElem?_lt hr) h3)) h2,h3,h4⟩
 ·exfalso
  obtain⟨x,w',h⟩:=hok _ (Zyh hb)
  simp only[Sem.run,Zyi (show r<w.heap.size by omega)]at h
  simp at h
theorem Zwa{P:Program}{α:Type}{r:Nat}{o:Obj}{k:Sem α}(hW:W r∨N≤r)(ho:noView o=true)(hWB:∀b,W b→B b)(ih:Zbz P B W N k):Zbz P B W N (.setObj r o k):=by
 intro w es hN hv hok
 have hb:B r∨N≤r:=hW.imp (hWB _) id
 obtain⟨x0,w0,h0⟩:=hok w (.refl w)
 cases hr:w.heap[r]? with
 | none=>simp[Sem.run,hr]at h0
 | some y=>
  have hlt:=getElem?_lt hr
  have hnc:∀c E fr,y≠.cells c E fr:=fun c E fr e=>by subst e;simp[Sem.run,hr]at h0
  have hstep:∀w2:World,w2.heap[r]?=some y→(Sem.setObj r o k).run P w2=k.run P { w2 with heap:=w2.heap.setIfInBounds r o }:=fun w2 h2=>by
   simp only[Sem.run,h2]
  have hstepT:(Sem.setObj r o k).runT P w es=k.runT P { w with heap:=w.heap.setIfInBounds r o } (es.push ⟨.obj r,true,o.isChan⟩):=by
   simp only[Sem.runT,hr]
  obtain⟨x,w',es',h1,h2,h3,h4⟩:=ih { w with heap:=w.heap.setIfInBounds r o } (es.push ⟨.obj r,true,o.isChan⟩) (by simpa using hN) (fun b p hb2 hp=>by
   by_cases e:r=b
   ·subst e
    simp[hlt]at hp
    rw[← hp];exact ho
   ·simp only[Z2e e]at hp
    exact hv b p hb2 hp) (fun w2 ha2=>by
   have hs2:w2.heap[r]?=some o:=by rw[ha2.same _ hb];simp[hlt]
   have hag:Ag B N w { w2 with heap:=w2.heap.setIfInBounds r y }:=ha2.swap hr (by simp) rfl rfl rfl rfl (fun j hj=>by simp only[Z2e (fun e=>hj e.symm)])
   have h5:=hok _ hag
   have hl2:=getElem?_lt hs2
   rw[hstep _ (by simp[hl2])]at h5
   have e:({ w2 with heap:=(w2.heap.setIfInBounds r y).setIfInBounds r o }:World)=w2:=Zgj w2 _ (Zuh hs2)
   rw[e]at h5
   exact h5)
  refine⟨x,w',#[⟨.obj r,true,o.isChan⟩]++es',by rw[hstepT,h1,Zdu],Zdy (ev_objw hW) (.obj (Z3k hlt (by simpa using h3))) h2,by simpa using h3,fun b hbN hWb=>?_⟩
  rw[h4 b hbN hWb]
  have:r≠b:=fun e=>by
   rcases hW with h|h
   ·exact hWb (e▸h)
   ·omega
  simp only[Z2e this]
theorem Zv6{P:Program}{α:Type}{q:Question}{k:Nat→Sem α}(ih:∀n,Zbz P B W N (k n)):Zbz P B W N (.choose q k):=by
 intro w es hN hv hok
 cases hq:q.forced with
 | true=>
  obtain⟨x,w',es',h⟩:=ih 0 w es hN hv fun w2 h2=>by
   have:=hok w2 h2
   simpa only[Sem.run,hq,Z4d] using this
  exact⟨x,w',es',by simp only[Sem.runT,hq,Z4d];exact h.1,h.2⟩
 | false=>
  obtain⟨x,w',es',h⟩:=ih (q.cut (w.tape w.drawn q)) { w with drawn:=w.drawn+1 } es hN hv fun w2 h2=>by
   obtain⟨hp,tp,dr,o2,ou⟩:=w2
   have h5:=hok ⟨hp,tp,w.drawn,o2,ou⟩ ⟨h2.size,h2.tape,rfl,h2.os,h2.out,h2.same⟩
   have hd:dr=w.drawn+1:=h2.drawn
   have ht:tp=w.tape:=h2.tape
   subst hd ht
   simp only[Sem.run,hq,Z2r,Z3h]at h5
   exact h5
  exact⟨x,w',es',by simp only[Sem.runT,hq,Z2r,Z3h];exact h.1,h.2⟩
theorem Wv{P:Program}{α:Type}{s:Sem α}(h:Halts P s):Zbz P B W N s:=fun w es hN hv hok=>by
 obtain⟨v,w',h1⟩:=hok w (.refl w)
 obtain⟨x,w2,h2⟩:=h w
 rw[h2]at h1;cases h1
theorem pl_loc{P:Program}{α:Type}(hWB:∀b,W b→B b)(s:Sem α)(h:Plo P B W N s):Zbz P B W N s:=by
 induction s with
 | pure a=>exact fun w es hN hv hok=>⟨a,w,#[],by simp[Sem.runT],by simp,Z21 _,fun _ _ _=>rfl⟩
 | halt x=>exact fun w es hN hv hok=>by obtain⟨v,w',h1⟩:=hok w (.refl w);simp[Sem.run]at h1
 | load m a k ih=>rcases h with h|h;exact loc_load fun v=>ih v (h v);exact Wv h
 | store m a v k ih=>rcases h with h|h;exact Z0n h.1 hWB (ih h.2);exact Wv h
 | new o k ih=>rcases h with h|h;exact loc_new h.1 fun r hr=>ih r (h.2 r hr);exact Wv h
 | shape r k ih=>rcases h with h|h;exact Z0m h.1 fun s=>ih s (h.2 s);exact Wv h
 | freeze a n k ih=>rcases h with h|h;exact Zv7 h.1 hWB (ih h.2);exact Wv h
 | frozen a k ih=>rcases h with h|h;exact Zv8 h.1 fun s=>ih s (h.2 s);exact Wv h
 | getObj r k ih=>rcases h with h|h;exact Zv9 fun o=>ih o (h o);exact Wv h
 | setObj r o k ih=>rcases h with h|h;exact Zwa h.1 h.2.1 hWB (ih h.2.2);exact Wv h
 | choose q k ih=>rcases h with h|h;exact Zv6 fun n=>ih n (h n);exact Wv h
 | sys c k ih=>exact Wv h
 | program k ih=>rcases h with h|h;exact fun w es hN hv hok=>ih P h w es hN hv fun w2 h2=>hok w2 h2;exact Wv h
 | mark m k ih=>
  rcases h with h|h
  ·intro w es hN hv hok
   obtain⟨v,w',es',h1,h2,h3⟩:=ih h.2 w (es.push ⟨.mark m,false,true⟩) hN hv fun w2 h2=>hok w2 h2
   exact⟨v,w',#[⟨.mark m,false,true⟩]++es',by simp only[Sem.runT];rw[h1,Zdu],Zdy (.inr ⟨m,rfl,h.1⟩) .mark h2,h3⟩
  ·exact Wv h
end
section
abbrev Z9:=List (Nat × Value)
abbrev Zp:=Nat × Obj
abbrev Za:=List (List Zp)
abbrev Zaz:=Os × Array (Nat × ByteArray) × (Nat→Question→Nat)
def lk:Z9→Nat→Option Value
 | [],_=>none
 | (t,v)::r,x=>bif Nat.beq t x then some v else lk r x
def ev(ρ:Z9):Operand→Option Value
 | .tmp t=>lk ρ t
 | .const v=>some v
 | .global g=>some (.pointer (some ⟨g,0,none⟩))
 | .func f=>some (.func (.func f) #[] #[])
def evs(ρ:Z9):List Operand→Option (List Value)
 | []=>some []
 | x::r=>match ev ρ x,evs ρ r with
  | some v,some vs=>some (v::vs)
  | _,_=>none
class Tasks where
 R:Nat→Nat→Value→List Zp→Prop
 m:Nat
 O:Nat→Prop
 W0:World
 T:TypeId
variable[Tasks]
/-! ### a heap: blocks of one's own; blocks that all read and nobody writes; tokens -/
def gho:Obj→Bool
 | .chan _ _ _ _ _ true=>true
 | _=>false
def Zq1:Obj→Bool
 | .cells _ _ fr=>Nat.blt Tasks.m fr.1
 | _=>false
def act:Obj→Obj
 | .cells c E fr=>.cells c E (bif Nat.blt Tasks.m fr.1 then (fr.1-(Tasks.m+1),fr.2) else fr)
 | o=>o
def Zr:Obj→Obj
 | .cells c E fr=>.cells c E (fr.1+(Tasks.m+1),fr.2)
 | o=>o
def Zet(o:Obj):Bool := !gho o && !Zq1 o
theorem Zgm{o:Obj}(h:Zet o=true):act o=o:=by
 cases o<;>try rfl
 rename_i c E fr
 simp only[Zet,gho,Zq1,Bool.not_false,Bool.true_and,Z6m]at h
 simp only[act,h,Z7c]
theorem Zzl(c:Array Value)(E:Nat)(fr:Nat × Nat):∃fr',act (.cells c E fr)=.cells c E fr':=⟨_,rfl⟩
theorem Zwd{o:Obj}(h:noView o=true):noView (act o)=true:=by cases o<;>first|rfl|exact h
theorem Wj(c:Array Value)(E:Nat)(fr:Nat × Nat):Zq1 (Zr (.cells c E fr))=true:=by
 simp only[Zr,Zq1]
 exact Z5w (by omega)
theorem Zgl(c:Array Value)(E:Nat)(fr:Nat × Nat):act (Zr (.cells c E fr))=.cells c E fr:=by
 have:Nat.blt Tasks.m (fr.1+(Tasks.m+1))=true:=Z5w (by omega)
 simp only[Zr,act,this,cond_true]
 simp
theorem Zas{o:Obj}(h:Zet o=true):gho o=false:=by simp[Zet]at h;exact h.1
theorem Zqp{o:Obj}(h:Zet o=true):Zq1 o=false:=by simp[Zet]at h;exact h.2
structure Sat(k:Zaz)(w:World)(L:Za):Prop where
 os:w.os=k.1
 out:w.output=k.2.1
 tape:w.tape=k.2.2
 has:∀p∈L.flatten,gho p.2=false→w.heap[p.1]?=some (act p.2)
 nodup:(L.flatten.map (·.1)).Nodup
 nv:∀p∈L.flatten,noView p.2=true
 lt:∀p∈L.flatten,p.1<w.heap.size
def InW(L:Za)(b:Nat):Prop:=∃o,(b,o)∈L.flatten∧Zet o=true
def InB(L:Za)(b:Nat):Prop:=∃o,(b,o)∈L.flatten∧gho o=false
theorem InW.b{L:Za}{b:Nat}(h:InW L b):InB L b:=let ⟨o,h1,h2⟩:=h;⟨o,h1,Zas h2⟩
structure Gr(N:Nat)(L L':Za):Prop where
 w:∀b,InW L' b→InW L b∨N≤b
 b:∀b,InB L' b→InB L b∨N≤b
 tok:∀p∈L'.flatten,gho p.2=true→p∈L.flatten
structure Gr0(N:Nat)(L L':Za):Prop where
 w:∀b,InW L' b→InW L b∨N≤b
 b:∀b,InB L' b→InB L b∨N≤b
theorem Gr.zero{N:Nat}{L L':Za}(h:Gr N L L'):Gr0 N L L':=⟨h.w,h.b⟩
structure Tr(w w':World)(L L':Za)(es:Array Event):Prop where
 size:w.heap.size≤w'.heap.size
 keep:∀b,b<w.heap.size→¬ InW L b→w'.heap[b]?=w.heap[b]?
 gr:Gr w.heap.size L L'
 evs:∀e∈es,EvIn (InB L) (InW L) w.heap.size e∧EvLt w'.heap.size e
def NoX(es:Array Event):Prop:=∀e∈es,∀f,e.loc≠.mark (.extern f)
structure Wk(L L':Za):Prop where
 sat:∀k w,Sat k w L→Sat k w L'
 w:∀b,InW L' b→InW L b
 b:∀b,InB L' b→InB L b
 tok:∀p∈L'.flatten,gho p.2=true→p∈L.flatten
/-! ### tokens -/
structure Tk where
 tag:Nat
 todo:Nat
 back:Nat
 wg:Nat
 many:Nat
 n:Nat
 st:Nat
 a:Nat
 b:Nat
 l:List Nat
def nval(n:Nat):Value:=.int .i64 (n:Int)
def Tk.nums(t:Tk):List Nat:=t.tag::t.back::t.wg::t.many::t.n::t.a::t.b::t.l
def Tk.obj(t:Tk):Obj:=.chan t.st ⟨t.nums.map nval⟩ false 0 0 true
def Tk.at_(t:Tk):Zp:=(t.todo,t.obj)
theorem Tk.gho(t:Tk):gho t.obj=true:=rfl
theorem Tk.inj{t s:Tk}(h:t.at_=s.at_):t=s:=by
 obtain⟨a1,a2,a3,a4,a5,a6,a7,a8,a9,a10⟩:=t
 obtain⟨b1,b2,b3,b4,b5,b6,b7,b8,b9,b10⟩:=s
 simp only[Tk.at_,Tk.obj,Tk.nums,Z3m,Obj.chan.injEq,Array.mk.injEq]at h
 obtain⟨h1,h2,h3,_⟩:=h
 have hm:∀(x y:List Nat),x.map nval=y.map nval→x=y:=by
  intro x
  induction x with
  | nil=>intro y h;cases y with
   | nil=>rfl
   | cons _ _=>simp at h
  | cons a x ih=>intro y h;cases y with
   | nil=>simp at h
   | cons b y=>
    simp only[Z2s,Z56,nval,Value.int.injEq,true_and,Int.ofNat_inj]at h
    rw[h.1,ih y h.2]
 have:=hm _ _ h3
 simp only[Z56]at this
 obtain⟨rfl,rfl,rfl,rfl,rfl,rfl,rfl,rfl⟩:=this
 subst h1 h2
 rfl
/-! ### what is shared -/
structure Gm where
 todo:Nat
 back:Nat
 wg:Nat
 ty:Nat
 cnt:Nat
 wt:Nat
 sem:Nat
 closed:Bool
abbrev stA(b:Nat):Addr:=⟨b,0,none⟩
abbrev smA(b:Nat):Addr:=⟨b,1,none⟩
def Un(ty cnt wt sem:Nat):Obj:=.cells ⟨[.int .u64 ((cnt*4294967296+wt:Nat):Int),.int .u32 (sem:Nat)]⟩ ty
structure Shr(γ:Gm)(w:World):Prop where
 todo:∃s,w.heap[γ.todo]?=some (.chan 0 #[] γ.closed s s false)
 back:∃s,w.heap[γ.back]?=some (.chan 0 #[] false s s false)
 wg:w.heap[γ.wg]?=some (Un Tasks.T γ.cnt γ.wt γ.sem)
 apart:γ.todo≠γ.back∧γ.todo≠γ.wg∧γ.back≠γ.wg
def Cm(t:Tk)(γ:Gm):Prop:=match t.st with
 | 0|1=>γ.cnt=t.n∧γ.wt=0∧γ.sem=0∧γ.closed=false
 | 2|3=>γ.cnt=t.n+1∧γ.wt=0∧γ.sem=0∧γ.closed=false
 | 5|6=>γ.cnt≤t.b∧γ.wt=0∧γ.sem=0∧γ.closed=true
 | 7=>γ.cnt≤t.a∧1≤t.a∧γ.wt=0∧γ.sem=0∧γ.closed=true
 | 9=>((γ.wt=1∧γ.sem=0)∨(γ.wt=0∧γ.cnt=0∧γ.sem≤1))∧γ.closed=true
 | 8|10|11|12=>γ.cnt=0∧γ.wt=0∧γ.sem=0∧γ.closed=true
 | 22|23|24=>1≤γ.cnt∧γ.wt≤1∧γ.sem=0∧γ.closed=true
 | 27=>γ.cnt=0∧γ.wt=1∧γ.sem=0∧γ.closed=true
 | 28=>γ.cnt=0∧γ.wt=0∧γ.sem=0∧γ.closed=true
 | _=>True
def Ziq(t:Tk)(γ:Gm):Prop:=t.todo=γ.todo∧t.back=γ.back∧t.wg=γ.wg∧γ.cnt≤1000∧Cm t γ
def Zel(a:Addr):Event:=⟨.cell a,false,true⟩
def Zob(a:Addr):Event:=⟨.cell a,true,true⟩
def Wt(m:Mark):Event:=⟨.mark m,false,true⟩
inductive Mv:Tk→Gm→Tk→Gm→Array Event→Prop
 | idle {t:Tk} {γ:Gm}:Mv t γ t γ #[]
 | dis0 {t:Tk} {γ:Gm}:t.st=0→Mv t γ { t with st:=1 } γ #[Wt .disable]
 | add {t:Tk} {γ:Gm}:t.st=1→t.n<1000→Mv t γ { t with st:=2 } { γ with cnt:=γ.cnt+1 } #[Zel (stA γ.wg),Zob (stA γ.wg)]
 | read {t:Tk} {γ:Gm}:t.st=2→Mv t γ t γ #[Wt (.read (smA γ.wg))]
 | en2 {t:Tk} {γ:Gm}:t.st=2→Mv t γ { t with st:=3 } γ #[Wt .enable]
 | close {t:Tk} {γ:Gm}:t.st=0→t.l=[]→Mv t γ { t with st:=5,b:=t.n } { γ with closed:=true } #[⟨.obj γ.todo,false,true⟩,⟨.obj γ.todo,true,true⟩]
 | dis5 {t:Tk} {γ:Gm}:t.st=5→Mv t γ { t with st:=6 } γ #[Wt .disable]
 | zero {t:Tk} {γ:Gm}:t.st=6→γ.cnt=0→Mv t γ { t with st:=8 } γ #[Zel (stA γ.wg)]
 | load {t:Tk} {γ:Gm}:t.st=6→1≤γ.cnt→Mv t γ { t with st:=7,a:=γ.cnt } γ #[Zel (stA γ.wg)]
 | reg {t:Tk} {γ:Gm}:t.st=7→γ.cnt=t.a→Mv t γ { t with st:=9 } { γ with wt:=1 } #[Zel (stA γ.wg),Zob (stA γ.wg)]
 | fail {t:Tk} {γ:Gm}:t.st=7→γ.cnt<t.a→Mv t γ { t with st:=6,b:=t.a-1 } γ #[Zel (stA γ.wg)]
 | write {t:Tk} {γ:Gm}:t.st=9→Mv t γ t γ #[Wt (.write (smA γ.wg))]
 | acq {t:Tk} {γ:Gm}:t.st=9→γ.sem=1→Mv t γ { t with st:=10 } { γ with sem:=0 } #[Wt .disable,Zel (smA γ.wg),Zob (smA γ.wg),Wt .enable]
 | look {t:Tk} {γ:Gm}:t.st=10→Mv t γ t γ #[Zel (stA γ.wg)]
 | en8 {t:Tk} {γ:Gm}:t.st=8∨t.st=10→Mv t γ { t with st:=11 } γ #[Wt .enable]
 | join {t:Tk} {γ:Gm}:t.st=11→Mv t γ { t with st:=12 } γ #[Wt (.acquire (stA γ.wg))]
 | dis23 {t:Tk} {γ:Gm}:t.st=23→Mv t γ { t with st:=24 } γ #[Wt .disable]
 | down {t:Tk} {γ:Gm}:t.st=24→2≤γ.cnt∨γ.wt=0→Mv t γ { t with st:=25 } { γ with cnt:=γ.cnt-1 } #[Zel (stA γ.wg),Zob (stA γ.wg)]
 | last {t:Tk} {γ:Gm}:t.st=24→γ.cnt=1→γ.wt=1→Mv t γ { t with st:=27 } { γ with cnt:=0 } #[Zel (stA γ.wg),Zob (stA γ.wg)]
 | look27 {t:Tk} {γ:Gm}:t.st=27→Mv t γ t γ #[Zel (stA γ.wg)]
 | reset {t:Tk} {γ:Gm}:t.st=27→Mv t γ { t with st:=28 } { γ with wt:=0 } #[Zob (stA γ.wg)]
 | wake {t:Tk} {γ:Gm}:t.st=28→Mv t γ { t with st:=25 } { γ with sem:=1 } #[Wt .disable,Zel (smA γ.wg),Zob (smA γ.wg),Wt .enable]
structure Only(γ:Gm)(w w':World):Prop where
 size:w'.heap.size=w.heap.size
 os:w'.os=w.os
 out:w'.output=w.output
 tape:w'.tape=w.tape
 keep:∀b,b≠γ.todo→b≠γ.wg→w'.heap[b]?=w.heap[b]?
def Wak(P:Program)(g:Goroutine)(γ γ':Gm):Prop:=(γ.sem=0→γ'.sem=1→mayWake P g=true)∧(γ.closed=false→γ'.closed=true→mayWake P g=true)
theorem Wak.refl{P:Program}{g:Goroutine}{γ:Gm}:Wak P g γ γ:=⟨fun a b=>by omega,fun a b=>by rw[a]at b;cases b⟩
end
section
variable{P:Program}{B W:Nat→Prop}{N:Nat}{α β:Type}
theorem Vf(a:α):Plo P B W N (pure a:Sem α):=trivial
theorem Vz(h:Halt):Plo P B W N (.halt h:Sem α):=trivial
theorem Wy(s:String):Plo P B W N (stuck s:Sem α):=trivial
theorem Xe(u:Unsupported):Plo P B W N (unsupported u:Sem α):=trivial
theorem Xi(v:Value):Plo P B W N (goPanic v:Sem α):=trivial
theorem Ve(a:Addr)(m:Mode):Plo P B W N (load a m):=.inl fun _=>trivial
theorem Yq:Plo P B W N program:=.inl trivial
theorem Yx(q:Question):Plo P B W N (choose q):=.inl fun _=>trivial
theorem Xb{o:Obj}(h:noView o=true):Plo P B W N (newObj o):=.inl ⟨h,fun _ _=>trivial⟩
theorem Xl(r:Nat):Plo P B W N (getObj r):=.inl fun _=>trivial
theorem Z04{r:Nat}{o:Obj}(h:W r∨N≤r)(ho:noView o=true):Plo P B W N (setObj r o):=.inl ⟨h,ho,trivial⟩
theorem pl_store{a:Addr}{v:Value}{m:Mode}(h:W a.block∨N≤a.block):Plo P B W N (store a v m):=.inl ⟨h,trivial⟩
theorem pl_mark{m:Mark}(h:PMark m):Plo P B W N (mark m):=.inl ⟨h,trivial⟩
theorem Y8(n:Nat):Plo P B W N (askRoom n):=by unfold askRoom;split;exact pl_mark (.inl rfl);exact trivial
theorem Plo.ite{c:Prop}[Decidable c]{x y:Sem α}(hx:Plo P B W N x)(hy:Plo P B W N y):Plo P B W N (if c then x else y):=by split<;>assumption
theorem Yf(t:TypeId):Plo P B W N (typeInfo t):=by unfold typeInfo;refine Plo.bind Yq fun p=>?_;split<;>exact trivial
theorem Zg(t:TypeId):Plo P B W N (underlying t):=by unfold underlying;refine Plo.bind Yq fun p=>?_;split<;>exact trivial
theorem Z4(t:TypeId):Plo P B W N (zeroValue t):=by unfold zeroValue;refine Plo.bind (Yf t) fun p=>?_;split<;>exact trivial
theorem Yd(t:TypeId):Plo P B W N (sizeOf t):=by unfold sizeOf;exact Plo.bind (Yf t) fun p=>trivial
theorem X5(t:TypeId):Plo P B W N (isAgg t):=by unfold isAgg;refine Plo.bind (Zg t) fun p=>?_;split<;>exact trivial
theorem Zca(a:Addr):∀(n i:Nat) (acc:Array Value),Plo P B W N (loadCellsFrom a i n acc)
 | 0,i,acc=>trivial
 | n+1,i,acc=>by unfold loadCellsFrom;exact Plo.bind (Ve _ _) fun v=>Zca a n (i+1) _
theorem Ye(a:Addr)(n:Nat):Plo P B W N (loadCells a n):=Zca a n 0 _
theorem Y0(t:TypeId)(a:Addr):Plo P B W N (loadVar t a):=by
 unfold loadVar
 refine Plo.bind (X5 t) fun b=>?_
 split
 ·exact Plo.bind (Yd t) fun _=>Plo.bind (Ye _ _) fun _=>trivial
 ·exact Ve _ _
theorem W9{a:Addr}(h:W a.block∨N≤a.block):∀(vs:List Value) (i:Nat),Plo P B W N (storeCells a vs i)
 | [],i=>trivial
 | v::r,i=>by
  unfold storeCells
  refine Plo.bind (pl_store ?_) fun _=>W9 h r (i+1)
  unfold Addr.add
  split<;>exact h
theorem Ztq{t:TypeId}{a:Addr}{v:Value}(h:W a.block∨N≤a.block):Plo P B W N (storeVar t a v):=by
 unfold storeVar
 refine Plo.bind (Yd t) fun n=>?_
 split
 ·exact Plo.bind trivial fun _=>W9 h _ _
 ·exact W9 h _ _
theorem Xc(e:TypeId)(c:Array Value):Plo P B W N (newRow e c):=Plo.bind (Xb rfl) fun _=>trivial
theorem Xd(t:TypeId)(v:Value):Plo P B W N (newVar t v):=Xc _ _
theorem Xr(t:TypeId):Plo P B W N (elemOf t):=by unfold elemOf;refine Plo.bind (Zg t) fun p=>?_;split<;>exact trivial
theorem Wn(t:TypeId)(cs:Array Value)(off:Nat):Plo P B W N (part t cs off):=by
 unfold part
 refine Plo.bind (X5 t) fun b=>?_
 split
 ·exact Plo.bind (Yd t) fun _=>trivial
 ·split<;>exact trivial
theorem Zs(e:RuntimeError):Plo P B W N (runtimePanic e:Sem α):=by
 unfold runtimePanic
 refine Plo.bind Yq fun p=>?_
 cases e<;>first|exact trivial|exact Plo.bind (Xr _) fun _=>Plo.bind (Xd _ _) fun _=>trivial
theorem Z2(k:IntKind)(x y:Int)(c:BoundsCode):Plo P B W N (boundsPanic k x y c:Sem α):=by
 unfold boundsPanic
 simp only[]
 split
 ·exact Plo.bind (Plo.bind (Yx _) fun _=>trivial) fun _=>Zs _
 ·exact Plo.bind trivial fun _=>Zs _
theorem Yp(v:Value):Plo P B W N (asIntOf v):=by unfold asIntOf;split<;>exact trivial
theorem Xv(v:Value):Plo P B W N (asInt v):=Plo.bind (Yp v) fun _=>trivial
theorem Xa(v:Value):Plo P B W N (asBool v):=by unfold asBool;split<;>exact trivial
theorem Y2(v:Value):Plo P B W N (asString v):=by unfold asString;split<;>exact trivial
theorem Wi(v:Value):Plo P B W N (asAgg v):=by unfold asAgg;split<;>exact trivial
theorem Xk(v:Value):Plo P B W N (asAddr v):=by unfold asAddr;split<;>first|exact trivial|exact Zs _
theorem Zjb{f:α→Sem β}:∀(l:List α),(∀a∈l,Plo P B W N (f a))→Plo P B W N (l.mapM f)
 | [],_=>trivial
 | a::l,h=>by
  rw[List.mapM_cons]
  exact Plo.bind (h a (by simp)) fun _=>Plo.bind (Zjb l fun b hb=>h b (by simp[hb])) fun _=>trivial
theorem Zyz{f:α→Sem β}(xs:Array α)(h:∀a∈xs,Plo P B W N (f a)):Plo P B W N (xs.mapM f):=by
 rw[Z5f]
 exact Plo.bind (Zjb _ fun a ha=>h a (Z25.1 ha)) fun _=>trivial
theorem Zmc(fn:Func)(tmps:Array Value):Plo P B W N (results fn tmps):=by
 unfold results
 refine Plo.bind (Zyz _ fun r _=>?_) fun _=>trivial
 split
 ·exact trivial
 ·exact Plo.bind (Xk _) fun _=>Y0 _ _
theorem Zib{f:α→β→Sem (ForInStep β)}:∀(l:List α) (b:β),(∀a∈l,∀b,Plo P B W N (f a b))→Plo P B W N (forIn l b f)
 | [],b,h=>by rw[List.forIn_nil];exact Vf _
 | a::l,b,h=>by
  rw[List.forIn_cons]
  refine Plo.bind (h a (by simp) b) fun r=>?_
  cases r with
  | done b=>exact Vf _
  | yield b=>exact Zib l b fun x hx=>h x (by simp[hx])
theorem Zox{f:α→β→Sem (ForInStep β)}(xs:Array α)(b:β)(h:∀a∈xs,∀b,Plo P B W N (f a b)):Plo P B W N (forIn xs b f):=by
 rw[← Array.forIn_toList]
 exact Zib _ _ fun a ha=>h a (Z25.1 ha)
def PureP(P:Program):Sem α→Prop
 | .pure _=>True
 | .halt _=>True
 | .program k=>PureP P (k P)
 | _=>False
theorem PureP.bind{x:Sem α}{f:α→Sem β}(hx:PureP P x)(hf:∀a,PureP P (f a)):PureP P (x >>= f):=by
 show PureP P (x.bind f)
 induction x with
 | pure a=>exact hf a
 | halt h=>exact trivial
 | program k ih=>exact ih P hx
 | _=>exact hx.elim
theorem PureP.at{x:Sem α}{f:α→Sem β}{a:α}{w w':World}(hx:PureP P x)(hr:x.run P w=.ok a w')(hf:Plo P B W N (f a)):Plo P B W N (x >>= f):=by
 show Plo P B W N (x.bind f)
 induction x with
 | pure b=>simp only[Sem.run]at hr;cases hr;exact hf
 | halt h=>exact trivial
 | program k ih=>exact .inl (ih P hx hr)
 | _=>exact hx.elim
theorem Ztt(t:TypeId):PureP P (typeInfo t):=by
 show PureP P (match P.info? t with|some i=>(pure i:Sem TypeInfo)|none=>stuck "no such type")
 split<;>exact trivial
theorem Znu(t:TypeId):PureP P (underlying t):=by
 show PureP P (match P.underlying t with|some i=>(pure i:Sem TypeDesc)|none=>stuck "no such type")
 split<;>exact trivial
theorem Zoy(t:TypeId):PureP P (sizeOf t):=PureP.bind (Ztt t) fun _=>trivial
theorem pp_isAgg(t:TypeId):PureP P (isAgg t):=PureP.bind (Znu t) fun _=>by split<;>exact trivial
theorem Zqq(t:TypeId)(cs:Array Value)(off:Nat):PureP P (part t cs off):=PureP.bind (pp_isAgg t) fun b=>by
 split
 ·exact PureP.bind (Zoy t) fun _=>trivial
 ·split<;>exact trivial
/-! ### operations -/
theorem Zbl(v:Value):Plo P B W N (Instr.sureAddr v):=by unfold Instr.sureAddr;split<;>exact trivial
theorem Z03(t:TypeId)(v:Value):Plo P B W N (Instr.loadAt t v):=Plo.bind (Zbl v) fun _=>Y0 _ _
theorem Zf{t:TypeId}{d:TypeDesc}(h:P.underlying t=some d){f:TypeDesc→Sem α}(hf:Plo P B W N (f d)):Plo P B W N (underlying t >>= f):=by
 have:Plo P B W N ((match P.underlying t with|some d=>(pure d:Sem TypeDesc)|none=>stuck "no such type") >>= f):=by rw[h];exact hf
 exact .inl this
theorem Zd2{t:TypeId}{i:TypeInfo}(h:P.info? t=some i){f:TypeInfo→Sem α}(hf:Plo P B W N (f i)):Plo P B W N (typeInfo t >>= f):=by
 have:Plo P B W N ((match P.info? t with|some i=>(pure i:Sem TypeInfo)|none=>stuck "no such type") >>= f):=by rw[h];exact hf
 exact .inl this
theorem Sem.bind_assoc'{γ:Type}(x:Sem α)(f:α→Sem β)(g:β→Sem γ):(x >>= f) >>= g=x >>= fun a=>f a >>= g:=by
 show (x.bind f).bind g=x.bind fun a=>(f a).bind g
 induction x<;>simp only[Sem.bind, *]
theorem Zha{t:TypeId}{i:TypeInfo}(h:P.info? t=some i){f:Nat→Sem α}(hf:Plo P B W N (f i.size)):Plo P B W N (sizeOf t >>= f):=by
 unfold sizeOf
 rw[Sem.bind_assoc']
 exact Zd2 h hf
theorem Zwl{s f:Nat}{v:Value}{fs:Array Field}{fd:Field}{i:TypeInfo}(h1:P.underlying s=some (.struct fs))(h2:fs[f]?=some fd)(h3:P.info? fd.type=some i)(h4:i.size≠0):Plo P B W N (Instr.fieldAt s v f):=by
 unfold Instr.fieldAt
 refine Zf h1 ?_
 simp only[h2]
 refine Plo.bind (Zbl v) fun a=>Plo.bind ?_ fun _=>trivial
 unfold fieldPlace
 refine Zha h3 ?_
 rw[Z16 h4]
 exact trivial
theorem Zwm(t:TypeId)(x i:Value):Plo P B W N (Instr.indexAt t x i):=by
 unfold Instr.indexAt
 repeat' first|exact trivial|exact Zg _|exact Zbl _|exact Yd _|exact Yp _|exact Z2 _ _ _ _|refine Plo.bind ?_ (fun _=>?_)|split|dsimp only
theorem Zns(x:Value)(y:Nat)(c:BoundsCode):Plo P B W N (Instr.sliceBound x y c):=by
 unfold Instr.sliceBound
 repeat' first|exact trivial|exact Yp _|exact Z2 _ _ _ _|refine Plo.bind ?_ (fun _=>?_)|split|dsimp only
theorem Zd1(b:Bool)(l c:Nat)(x y z:Option Value):Plo P B W N (Instr.sliceBounds b l c x y z):=by
 unfold Instr.sliceBounds
 repeat' first|exact trivial|exact Zns _ _ _|refine Plo.bind ?_ (fun _=>?_)|split
theorem pl_slice(t:TypeId)(v:Value)(x y z:Option Value):Plo P B W N (Instr.slice t v x y z):=by
 unfold Instr.slice
 repeat' first|exact trivial|exact Zg _|exact Yd _|exact Xk _|exact Zd1 _ _ _ _ _ _|refine Plo.bind ?_ (fun _=>?_)|split
theorem Zwo(t:TypeId)(v:Value)(x y z:Option Value):Plo P B W N (Instr.sliceAt t v x y z):=by
 unfold Instr.sliceAt
 repeat' first|exact trivial|exact Zg _|exact Yd _|exact Zbl _|exact Zd1 _ _ _ _ _ _|exact pl_slice _ _ _ _ _|refine Plo.bind ?_ (fun _=>?_)|split
theorem pl_field(t:TypeId)(v:Value)(f:Nat):Plo P B W N (Instr.field t v f):=by
 unfold Instr.field
 repeat' first|exact trivial|exact Zg _|exact Wi _|exact Wn _ _ _|refine Plo.bind ?_ (fun _=>?_)|split
theorem pl_index(t:TypeId)(v i:Value):Plo P B W N (Instr.index t v i):=by
 unfold Instr.index
 repeat' first|exact trivial|exact Zg _|exact Yp _|exact Wn _ _ _|exact Yd _|exact Z2 _ _ _ _|refine Plo.bind ?_ (fun _=>?_)|split|dsimp only
theorem pl_build(t:TypeId)(ps:Array (Nat × Value)):Plo P B W N (Instr.build t ps):=by
 unfold Instr.build
 repeat' first|exact trivial|exact Zg _|exact Z4 _|exact Yd _|refine Zyz _ (fun _ _=>?_)|refine Plo.bind ?_ (fun _=>?_)|split
theorem Znr(t:TypeId)(n:Nat)(ps:Array (Nat × Value)):Plo P B W N (Instr.buildSlice t n ps):=by
 unfold Instr.buildSlice
 repeat' first|exact trivial|exact Zg _|exact Z4 _|exact Yd _|exact Xc _ _|refine Plo.bind ?_ (fun _=>?_)|split|dsimp only
theorem pl_alloc(t:TypeId)(v:Value):Plo P B W N (Instr.alloc t true v):=by
 unfold Instr.alloc
 exact Plo.bind (Z4 t) fun _=>Plo.bind (Xd _ _) fun _=>trivial
theorem Ztm(t:TypeId)(v:Value):Plo P B W N (Instr.makeChan t v):=by
 unfold Instr.makeChan
 repeat' first|exact trivial|exact Zg _|exact Xv _|exact Yf _|exact Zs _|exact Xb rfl|refine Plo.bind ?_ (fun _=>?_)|split|dsimp only
theorem Zwn(t:TypeId)(r:Option Value):Plo P B W N (Instr.makeMap t r):=by
 unfold Instr.makeMap
 repeat' first|exact trivial|exact Zg _|exact Xv _|exact Xb rfl|refine Plo.bind ?_ (fun _=>?_)|split|dsimp only
theorem Zqo(t:TypeId)(l c:Value):Plo P B W N (Instr.makeSlice t l c):=by
 unfold Instr.makeSlice
 repeat' first|exact trivial|exact Zg _|exact Xv _|exact Yf _|exact Yd _|exact Z4 _|exact Y8 _|exact Yx _|exact Zs _|exact Xc _ _|refine Plo.bind ?_ (fun _=>?_)|split|dsimp only
theorem Zid(t:TypeId)(v:Value):Plo P B W N (Instr.makeInterface t v):=by
 unfold Instr.makeInterface
 refine Plo.bind (Zg t) fun _=>?_
 split<;>exact trivial
theorem Znt(v:Value)(x a:TypeId)(ok:Bool):Plo P B W N (Instr.typeAssert v x a ok):=by
 unfold Instr.typeAssert
 repeat' first|exact trivial|exact Zg _|exact Yf _|exact Z4 _|exact Zs _|refine Plo.bind ?_ (fun _=>?_)|split|dsimp only
theorem Zwk(v:Value)(i:Nat):Plo P B W N (Instr.extract v i):=by unfold Instr.extract;repeat' first|exact trivial|split
theorem Zja(op:BinOp)(k:IntKind)(x y:Int):Plo P B W N (Op.intArith op k x y):=by unfold Op.intArith;split<;>exact trivial
theorem Z02(op:BinOp)(k:IntKind)(x y:Int):Plo P B W N (Op.intDiv op k x y):=by unfold Op.intDiv;repeat' first|exact trivial|exact Zs _|split
theorem Zma(op:BinOp)(k:IntKind)(x y:Int):Plo P B W N (Op.intBits op k x y):=by unfold Op.intBits;cases op<;>exact trivial
theorem pl_shift(op:BinOp)(k:IntKind)(x:Int)(yk:IntKind)(y:Int):Plo P B W N (Op.shift op k x yk y):=by unfold Op.shift;repeat' first|exact trivial|exact Zs _|split
theorem Z01(op:BinOp)(x y:Int):Plo P B W N (Op.intCmp op x y):=by unfold Op.intCmp;split<;>exact trivial
theorem Zaa(op:BinOp)(x y:ByteArray):Plo P B W N (Op.stringOp op x y):=by unfold Op.stringOp;cases op<;>first|exact trivial|(simp only[];split<;>exact trivial)
theorem pl_unary(op:UnOp)(v:Value):Plo P B W N (Op.unary op v):=by unfold Op.unary;split<;>first|exact trivial|exact Zja _ _ _ _|exact Zma _ _ _ _
theorem pl_len(ts:Array TypeId)(t:TypeId)(xs:Array Value):Plo P B W N (Builtin.len_ ts t xs):=by
 unfold Builtin.len_
 repeat' first|exact trivial|exact Zg _|exact Xl _|refine Plo.bind ?_ (fun _=>?_)|split
theorem pl_cap(ts:Array TypeId)(t:TypeId)(xs:Array Value):Plo P B W N (Builtin.cap_ ts t xs):=by
 unfold Builtin.cap_
 repeat' first|exact trivial|exact Zg _|exact Xl _|refine Plo.bind ?_ (fun _=>?_)|split
theorem Zia{f:β→α→Sem β}:∀(l:List α) (b:β),(∀b a,Plo P B W N (f b a))→Plo P B W N (l.foldlM f b)
 | [],b,h=>trivial
 | a::l,b,h=>by rw[List.foldlM_cons];exact Plo.bind (h b a) fun b=>Zia l b h
theorem pl_min(ts:Array TypeId)(t:TypeId)(xs:Array Value):Plo P B W N (Builtin.min_ ts t xs):=by
 unfold Builtin.min_
 split
 ·exact trivial
 ·refine Zia _ _ fun b a=>?_
  unfold Builtin.min2
  repeat' first|exact trivial|exact Yx _|exact Zaa _ _ _|exact Xa _|refine Plo.bind ?_ (fun _=>?_)|split
theorem pl_max(ts:Array TypeId)(t:TypeId)(xs:Array Value):Plo P B W N (Builtin.max_ ts t xs):=by
 unfold Builtin.max_
 split
 ·exact trivial
 ·refine Zia _ _ fun b a=>?_
  unfold Builtin.max2
  repeat' first|exact trivial|exact Yx _|exact Zaa _ _ _|exact Xa _|refine Plo.bind ?_ (fun _=>?_)|split
def Z06:Op→Bool
 | .move _|.assign _|.pick _ _ _|.alloc _|.box _ _|.build _ _|.buildSlice _ _ _|.load _ _|.unOp _ _ _|.makeInterface _ _|.makeFunc _ _ _|.makeMap _ _|.makeChan _ _|.makeSlice _ _ _|.slice _ _ _ _ _|.field _ _ _
 | .indexAddr _ _ _|.index _ _ _|.typeAssert _ _ _ _|.extract _ _=>true
 | .call { callee:=.builtin .len,.. }|.call { callee:=.builtin .cap,.. }|.call { callee:=.builtin .min,.. }|.call { callee:=.builtin .max,.. }=>true
 | _=>false
theorem pl_op(e:Operand→Value)(o:Oper)(h:Z06 o.op=true):Plo P B W N (execOp e o):=by
 obtain⟨d,op,ty,pos,af,g⟩:=o
 cases op<;>first|(simp[Z06]at h;done)|skip
 case call c=>
  obtain⟨cl,as9,ts⟩:=c
  cases cl with
  | value f=>simp[Z06]at h
  | invoke r m=>simp[Z06]at h
  | builtin b=>
   cases b<;>first|(simp[Z06]at h;done)|skip
   all_goals simp only[execOp,resolve]
   ·exact(Plo.bind (pl_cap _ _ _) fun _=>trivial:Plo P B W N (Builtin.cap_ _ _ _ >>= fun v=>pure (Next.value v)))
   ·exact(Plo.bind (pl_len _ _ _) fun _=>trivial:Plo P B W N (Builtin.len_ _ _ _ >>= fun v=>pure (Next.value v)))
   ·exact(Plo.bind (pl_max _ _ _) fun _=>trivial:Plo P B W N (Builtin.max_ _ _ _ >>= fun v=>pure (Next.value v)))
   ·exact(Plo.bind (pl_min _ _ _) fun _=>trivial:Plo P B W N (Builtin.min_ _ _ _ >>= fun v=>pure (Next.value v)))
 all_goals simp only[execOp]
 all_goals first
  | exact trivial
  | exact Plo.bind (Xa _) fun _=>trivial
  | exact Plo.bind (pl_alloc _ _) fun _=>trivial
  | exact Plo.bind (Plo.bind (Xd _ _) fun _=>trivial) fun _=>trivial
  | exact Plo.bind (pl_build _ _) fun _=>trivial
  | exact Plo.bind (Znr _ _ _) fun _=>trivial
  | exact Plo.bind (Z03 _ _) fun _=>trivial
  | exact Plo.bind (pl_unary _ _) fun _=>trivial
  | exact Plo.bind (Zid _ _) fun _=>trivial
  | exact Plo.bind (Zwn _ _) fun _=>trivial
  | exact Plo.bind (Ztm _ _) fun _=>trivial
  | exact Plo.bind (Zqo _ _ _) fun _=>trivial
  | exact Plo.bind (Zwo _ _ _ _ _) fun _=>trivial
  | exact Plo.bind (pl_field _ _ _) fun _=>trivial
  | exact Plo.bind (Zwm _ _ _) fun _=>trivial
  | exact Plo.bind (pl_index _ _ _) fun _=>trivial
  | exact Plo.bind (Znt _ _ _ _) fun _=>trivial
  | exact Plo.bind (Zwk _ _) fun _=>trivial
end
end Go.HL
namespace Go.HL
open Go Go.Proofs Go.Proofs.Tryz
variable[Tasks]
def LS(a b:List Zp):Prop:=∃l,List.Perm l a∧List.Sublist l b
def Upd(L:Za)(b:Nat)(o o':Obj)(L':Za):Prop:=∃l r,L.flatten=l++(b,o)::r∧L'.flatten=l++(b,o')::r
structure Give(L L' Lc:Za)(t:Tk):Prop where
 own:∃own ro,List.Perm Lc.flatten (t.at_::(own++ro))∧LS (own++L'.flatten) L.flatten∧(∀p∈own,Zet p.2=true)∧∀p∈ro,Zq1 p.2=true∧p∈L'.flatten
 nodup:(Lc.flatten.map (·.1)).Nodup
def Zpl(w:World):Prop:=∀b,Tasks.O b→w.heap[b]?=Tasks.W0.heap[b]?
inductive Tl(P:Program):Goroutine→Tk→Prop
 | ctl {g g':Goroutine} {t:Tk}:g.status=.running→g'.status=.running→t.st≠25→(∀w γ,Shr γ w→Ziq t γ→Zpl w→stepG P false g w=.go g' w #[])→Tl P g' t→Tl P g t
 | shared {g:Goroutine} {t:Tk} (K:Goroutine→Tk→Prop):g.status=.running→t.st≠25→
   (∀w γ,Shr γ w→Ziq t γ→Zpl w→∃g' w' es t' γ',stepG P false g w=.go g' w' es∧g'.status=.running∧Mv t γ t' γ' es∧Wak P g γ γ'∧Shr γ' w'∧Only γ w w'∧K g' t')→(∀g' t',K g' t'→Tl P g' t')→Tl P g t
 | quit {g:Goroutine} {t:Tk} (n:Nat):t.st=25→Conc.QuitsD P n 1 g→Tl P g t
inductive Lo(P:Program):Bool→(Goroutine→Za→Prop)→Goroutine→Za→Prop
 | stop {main:Bool} {Φ:Goroutine→Za→Prop} {g:Goroutine} {L:Za}:Φ g L→Lo P main Φ g L
 | own {main:Bool} {Φ:Goroutine→Za→Prop} {g:Goroutine} {L:Za} (K:Goroutine→Za→Prop):g.status=.running→
   (∀k w,Sat k w L→∃g' w' es L',stepG P main g w=.go g' w' es∧g'.status=.running∧Tr w w' L L' es∧NoX es∧Sat k w' L'∧K g' L')→(∀g' L',K g' L'→Lo P main Φ g' L')→Lo P main Φ g L
 | weak {main:Bool} {Φ:Goroutine→Za→Prop} {g:Goroutine} {L L':Za}:Wk L L'→Lo P main Φ g L'→Lo P main Φ g L
 | shared {main:Bool} {Φ:Goroutine→Za→Prop} {g:Goroutine} {L:Za} (t:Tk) (K:Goroutine→Za→Prop):g.status=.running→t.at_∈L.flatten→t.st≠12→
   (∀k w γ,Sat k w L→Shr γ w→Ziq t γ→
    (∃g' w' es t' γ' L',stepG P main g w=.go g' w' es∧g'.status=.running∧Mv t γ t' γ' es∧Wak P g γ γ'∧Shr γ' w'∧Only γ w w'∧Upd L t.todo t.obj t'.obj L'∧K g' L')∨
    (t.st=9∧γ.sem=0∧g.offers=none∧stepG P main g w=.go { g with status:=.blocked } w #[]))→
   (∀g' L',K g' L'→Lo P main Φ g' L')→Lo P main Φ g L
 | lib {main:Bool} {Φ:Goroutine→Za→Prop} {g:Goroutine} {L:Za} (t:Tk) (K:Goroutine→Za→Prop):g.status=.running→t.at_∈L.flatten→t.st≠12→
   (∀k w γ,Sat k w L→Shr γ w→Ziq t γ→∃g' w' es L',stepG P main g w=.go g' w' es∧g'.status=.running∧Tr w w' L L' es∧NoX es∧Sat k w' L'∧K g' L')→(∀g' L',K g' L'→Lo P main Φ g' L')→Lo P main Φ g L
 | rel {Φ:Goroutine→Za→Prop} {g:Goroutine} {L:Za} (t:Tk) (K:Goroutine→Prop):g.status=.running→t.st=22→t.at_∈L.flatten→
   (∀k w γ,Sat k w L→Shr γ w→Ziq t γ→Zpl w→∃g',stepG P false g w=.go g' w #[Wt (.releaseMerge (stA t.wg))]∧g'.status=.running∧K g')→(∀g',K g'→Tl P g' { t with st:=23 })→Lo P false Φ g L
 | begin {main:Bool} {Φ:Goroutine→Za→Prop} {g:Goroutine} {L:Za} {r:List Zp} (t t':Tk) (c d u E:Nat):t.st=12→t'.st=0→t'.todo=c→t'.back=d→t'.wg=u→t'.n=0→t'.a=0→t'.b=0→t'.l=[]→
   LS (t.at_::(c,.chan 0 #[] false 0 0 false)::(d,.chan 0 #[] false 0 0 false)::(u,Un Tasks.T 0 0 0)::r) L.flatten→Lo P main Φ g [t'.at_::r]→Lo P main Φ g L
 | go {main:Bool} {Φ:Goroutine→Za→Prop} {g g':Goroutine} {L L1 L' Lc:Za} (t:Tk) (d:Deferred):g.status=.running→g'.status=.running→t.st=3→(∀k w,Sat k w L→stepG P main g w=.spawn g' (Conc.born P d) w #[])→
   Upd L t.todo t.obj ({ t with st:=0,n:=t.n+1 }:Tk).obj L1→Give L1 L' Lc { t with st:=20 }→Lo P false (fun _ _=>False) (Conc.born P d) Lc→Lo P main Φ g' L'→Lo P main Φ g L
 | recv {main:Bool} {Φ:Goroutine→Za→Prop} {g:Goroutine} {L:Za} (t:Tk) (z:Value):g.status=.running→t.st=20→t.at_∈L.flatten→(∀k w,Sat k w L→stepG P main g w=.comm g #[Conc.rcase t.todo z] true (.recv true) w #[])→
   (∀i L',t.b≤i→i<t.many→Upd L t.todo t.obj ({ t with st:=21,a:=i,b:=i+1 }:Tk).obj L'→Lo P main Φ (Conc.served g (.tuple #[.int .i64 (i:Nat),.bool true])) L')→
   (∀L',Upd L t.todo t.obj ({ t with st:=22 }:Tk).obj L'→Lo P main Φ (Conc.served g (.tuple #[z,.bool false])) L')→Lo P main Φ g L
 | send {main:Bool} {Φ:Goroutine→Za→Prop} {g:Goroutine} {L L1 L':Za} (t:Tk) (v z:Value) (bl:List Zp):g.status=.running→t.st=21→(∀k w,Sat k w L→stepG P main g w=.comm g #[Conc.scase t.back v z] true .send w #[])→
   Upd L t.todo t.obj ({ t with st:=20 }:Tk).obj L1→LS (bl++L'.flatten) L1.flatten→(∀p∈bl,Zet p.2=true)→Tasks.R t.tag t.a v bl→Lo P main Φ (Conc.served g undef) L'→Lo P main Φ g L
 | select {main:Bool} {Φ:Goroutine→Za→Prop} {g:Goroutine} {L:Za} (t:Tk) (c0:CommCase) (z:Value):g.status=.running→t.st=0→t.at_∈L.flatten→t.b<t.many→1≤t.n→
   (c0=(if t.a=t.many then { chan:=.chan none,send:=some (.int .i64 (t.a:Nat)),zero:=.int .i64 0 } else Conc.scase t.todo (.int .i64 (t.a:Nat)) (.int .i64 0)))→(∀k w,Sat k w L→stepG P main g w=.comm g #[c0,Conc.rcase t.back z] true .select w #[])→
   (t.a<t.many→∀L',Upd L t.todo t.obj ({ t with a:=t.a+1,l:=t.a::t.l }:Tk).obj L'→Lo P main Φ (Conc.served g (.tuple #[goInt 0,.bool false,z])) L')→
   (∀i v bl L',i∈t.l→Tasks.R t.tag i v bl→Upd L t.todo t.obj ({ t with b:=t.b+1,l:=t.l.erase i }:Tk).obj L'→Lo P main Φ (Conc.served g (.tuple #[goInt 1,.bool true,v])) (bl::L'))→Lo P main Φ g L
structure Agr(n:Nat)(a:Act)(ρ:Z9):Prop where
 size:a.tmps.size=n
 get:∀t v,lk ρ t=some v→a.tmps[t]?=some v
def AfterL(P:Program)(main:Bool)(Φ:Goroutine→Za→Prop)(n:Nat)(ds:List Deferred)(b:Frame)(k:List Item)(cs:List Frame):Exit→Z9→Za→Prop
 | .normal,ρ,L=>∀a:Act,a.defers=ds→Agr n a ρ→Lo P main Φ (Conc.G (b.at a k) cs) L
 | .exit id,ρ,L=>∃k',exitTo id k=some k'∧∀a:Act,a.defers=ds→Agr n a ρ→Lo P main Φ (Conc.G (b.at a k') cs) L
 | .ret,ρ,L=>∀(a:Act) (todo:List Item),a.defers=ds→Agr n a ρ→Lo P main Φ (Conc.G { b.at a todo with mode:=.returning } cs) L
 | _,_,_=>False
def HW(P:Program)(n:Nat)(c:Code)(Q:Exit→Z9→Za→Prop)(ρ:Z9)(L:Za):Prop:=
 ∀(main:Bool) (Φ:Goroutine→Za→Prop) (b:Frame) (k:List Item) (cs:List Frame) (a:Act),b.kind≠.early→(∀e ρ' L',Q e ρ' L'→AfterL P main Φ n a.defers b k cs e ρ' L')→Agr n a ρ→Lo P main Φ (Conc.G (b.at a (.code c::k)) cs) L
structure Enters(P:Program)(f:Nat):Prop where
 run:∀args w,(callFunc f args).run P w=.ok (.enter f args) w
 pl:∀args B W N,Plo P B W N (callFunc f args)
theorem Zek{P:Program}{f:Nat}{fn:Func}{c:Code}(hf:P.funcs[f]?=some fn)(hb:fn.body=some c)(hn:(fn.name == "runtime.NumGoroutine")=false):Enters P f:=by
 have key:∀args,(match P.funcs[f]? with
   | none=>stuck "call: no such function"
   | some fn=>
    if fn.name == "runtime.NumGoroutine" then pure .numGoroutine
    else if fn.body.isNone then do
     mark (.extern f)
     if let some e:=Extern.findNext fn then return ← e args
     match Extern.find fn with
     | some e=>pure (.value (← e args))
     | none=>
      if fn.name.endsWith ".init" && !fn.name.startsWith "(" && !fn.name.startsWith "gosem." then pure (.value (.tuple #[]))
      else unsupported (.extern fn.name)
    else pure (.enter f args):Sem Next)=pure (.enter f args):=fun args=>by
  rw[hf]
  simp only[hn,hb]
  rfl
 refine⟨fun args w=>?_,fun args B W N=>?_⟩
 ·have:=congrArg (fun s=>s.run P w) (key args)
  exact this
 ·have:Plo P B W N (pure (Next.enter f args)):=trivial
  rw[← key args]at this
  exact .inl this
def HC(P:Program)(f:Nat)(args:List Value)(L:Za)(Q:Value→Za→Prop):Prop:=
 Enters P f∧∀(main:Bool) (Φ:Goroutine→Za→Prop) (fr:Frame) (cs:List Frame),(∀v L',Q v L'→Lo P main Φ (Conc.G (fr.finish v) cs) L')→Lo P main Φ (Conc.G (Frame.enter P f ⟨args⟩ .normal) (fr::cs)) L
inductive OpW(P:Program)(o:Oper)(e:Operand→Value)(L:Za)(R:Value→Za→Prop):Prop
 | plain:(∀k w,Sat k w L→∃nx v w' L',(execOp e o).run P w=.ok nx w'∧(nx=.value v∨nx=.skip∧v=undef)∧Tr w w' L L' ((execOp e o).events P w #[])∧Sat k w' L'∧R v L')→OpW P o e L R
 | call (f:Nat) (args:List Value):(∀k w,Sat k w L→(execOp e o).run P w=.ok (.enter f ⟨args⟩) w∧Tr w w L L ((execOp e o).events P w #[]))→HC P f args L R→OpW P o e L R
 | raw:(∀(main:Bool) (Φ:Goroutine→Za→Prop) (b:Frame) (k:List Item) (cs:List Frame) (a:Act) (ops:Array Oper) (i:Nat) (is:List Nat) (o':Oper),execOp a.eval o'=execOp e o→o'.op=o.op→ops[i]?=some o'→Region.wanted o' (yielded ops a.tmps)=true→b.kind≠.early→
   (∀v L',R v L'→Lo P main Φ (Conc.G (b.at (a.put o'.dst v) (.inRegion ops is::k)) cs) L')→Lo P main Φ (Conc.G (b.at a (.inRegion ops (i::is)::k)) cs) L)→OpW P o e L R
def HO(P:Program)(n:Nat)(ops:List Oper)(Q:Exit→Z9→Za→Prop):List Oper→Z9→Za→Prop
 | [],ρ,L=>∃L',LS L'.flatten L.flatten∧Q .normal ρ L'
 | o::rest,ρ,L=>∀a:Act,Agr n a ρ→if Region.wanted o (yielded ops.toArray a.tmps)=true then OpW P o a.eval L (fun v L'=>∃ρ',Agr n (a.put o.dst v) ρ'∧HO P n ops Q rest ρ' L')
   else ∃ρ',Agr n (a.put o.dst undef) ρ'∧HO P n ops Q rest ρ' L
/-! ### the environment -/
theorem Uv(t:Nat)(v:Value)(ρ:Z9):lk ((t,v)::ρ) t=some v:=by simp[lk]
theorem Uw{t x:Nat}(v:Value)(ρ:Z9)(h:t≠x):lk ((t,v)::ρ) x=lk ρ x:=by
 simp only[lk]
 have:Nat.beq t x=false:=by
  cases hb:Nat.beq t x with
  | false=>rfl
  | true=>exact absurd (Z2a hb) h
 rw[this];rfl
theorem Agr.put{n:Nat}{a:Act}{ρ:Z9}(h:Agr n a ρ){d:Nat}(hd:d<n)(v:Value):Agr n (a.put (some d) v) ((d,v)::ρ):=by
 refine⟨by simp[Act.put,h.size],fun t x hx=>?_⟩
 by_cases e:d=t
 ·subst e
  rw[Uv]at hx
  cases hx
  simp[Act.put,Z48,h.size,hd]
 ·rw[Uw _ _ e]at hx
  simp[Act.put,Z48,e,h.get t x hx]
theorem Agr.none{n:Nat}{a:Act}{ρ:Z9}(h:Agr n a ρ)(v:Value):Agr n (a.put none v) ρ:=h
theorem Agr.ev{n:Nat}{a:Act}{ρ:Z9}(h:Agr n a ρ){x:Operand}{v:Value}(hv:ev ρ x=some v):a.eval x=v:=by
 cases x with
 | tmp t=>simp[Act.eval,h.get t v hv]
 | const c=>simpa[HL.ev,Act.eval] using hv
 | global g=>simpa[HL.ev,Act.eval] using hv
 | func f=>simpa[HL.ev,Act.eval] using hv
def Sub:Z9→Z9→Prop
 | [],_=>True
 | (t,v)::r,ρ=>lk ρ t=some v∧Sub r ρ
theorem Agr.sub{n:Nat}{a:Act}{ρ:Z9}(h:Agr n a ρ):∀{ρ':Z9},Sub ρ' ρ→Agr n a ρ'
 | [],_=>⟨h.size,fun t v hv=>by simp[lk]at hv⟩
 | (t,v)::r,hs=>by
  have ih:=Agr.sub h hs.2
  refine⟨h.size,fun x u hx=>?_⟩
  by_cases e:t=x
  ·subst e
   rw[Uv]at hx
   cases hx
   exact h.get _ _ hs.1
  ·rw[Uw _ _ e]at hx
   exact ih.get x u hx
/-! ### what the trace keeps -/
theorem seen_sub{P:Program}{fn:FuncId}{es:Array Event}{e:Event}(h:e∈seen P fn es):e∈es:=Conc.mem_seen h
theorem Zw9{P:Program}{fn:FuncId}{es:Array Event}{e:Event}(h:e∈seen P fn es):∀f,e.loc≠.mark (.extern f):=by
 rw[Conc.seen_def]at h
 have key:∀(quiet:FuncId→Bool) (l:List Event) (q:Bool) (kept:Array Event),(∀x∈kept,∀f,x.loc≠.mark (.extern f))→∀x∈(l.foldl (Conc.seenStep quiet) (q,kept)).2,∀f,x.loc≠.mark (.extern f):=by
  intro quiet l
  induction l with
  | nil=>exact fun q kept hk=>hk
  | cons a l ih=>
   intro q kept hk
   simp only[Z3y,Conc.seenStep]
   split
   ·exact ih _ _ hk
   ·rename_i hne
    refine ih _ _ ?_
    split
    ·exact hk
    ·intro x hx f
     rcases Array.mem_push.1 hx with hx|rfl
     ·exact hk x hx f
     ·intro he;exact hne f he
 exact key _ _ _ _ (fun x hx=>by simp at hx) e h
section core
theorem Gr.refl(N:Nat)(L:Za):Gr N L L:=⟨fun _ h=>.inl h,fun _ h=>.inl h,fun _ h _=>h⟩
theorem Tr.refl(w:World)(L:Za):Tr w w L L #[]:=⟨Z21 _,fun _ _ _=>rfl,.refl _ _,fun e he=>by simp at he⟩
theorem Zkf:NoX #[]:=fun e he=>by simp at he
theorem Za5{P:Program}{fn:FuncId}{es:Array Event}:NoX (seen P fn es):=fun e he=>Zw9 he
theorem Tr.seen{P:Program}{w w':World}{L L':Za}{es:Array Event}{fn:FuncId}(h:Tr w w' L L' es):Tr w w' L L' (seen P fn es):=⟨h.size,h.keep,h.gr,fun e he=>h.evs e (seen_sub he)⟩
theorem Wk.refl(L:Za):Wk L L:=⟨fun _ _ h=>h,fun _ h=>h,fun _ h=>h,fun _ h _=>h⟩
theorem Wk.trans{L L' L'':Za}(h:Wk L L')(h':Wk L' L''):Wk L L'':=⟨fun k w s=>h'.sat k w (h.sat k w s),fun b x=>h.w b (h'.w b x),fun b x=>h.b b (h'.b b x),fun p hp hg=>h.tok p (h'.tok p hp hg) hg⟩
theorem Lo.ctl{P:Program}{main:Bool}{Φ:Goroutine→Za→Prop}{g g':Goroutine}{L:Za}(hr:g.status=.running)(hr':g'.status=.running)(h:∀w,stepG P main g w=.go g' w #[])(hn:Lo P main Φ g' L):Lo P main Φ g L:=
 .own (fun g1 L1=>g1=g'∧L1=L) hr (fun k w hs=>⟨g',w,#[],L,h w,hr',.refl w L,Zkf,hs,rfl,rfl⟩) (by rintro _ _ ⟨rfl,rfl⟩;exact hn)
theorem AfterL.push{P:Program}{n:Nat}{ds:List Deferred}{ρ:Z9}{L:Za}{main:Bool}{Φ:Goroutine→Za→Prop}{b:Frame}{x:Item}{k:List Item}{cs:List Frame}{e:Exit}(hx:x.plain=true)(he:e≠.normal)(h:AfterL P main Φ n ds b k cs e ρ L):AfterL P main Φ n ds b (x::k) cs e ρ L:=by
 cases e with
 | normal=>exact absurd rfl he
 | exit id=>obtain⟨k',hk,hg⟩:=h;exact⟨k',by cases x<;>simp_all [exitTo,Item.plain],hg⟩
 | ret=>exact h
 | goto l=>exact h
 | panic ch=>exact h
 | outgrown=>exact h
theorem HW.mono{P:Program}{n:Nat}{Q:Exit→Z9→Za→Prop}{ρ:Z9}{L:Za}{c:Code}{Q':Exit→Z9→Za→Prop}(h:HW P n c Q ρ L)(hq:∀e ρ L,Q e ρ L→Q' e ρ L):HW P n c Q' ρ L:=
 fun main Φ b k cs a hb hc ha=>h main Φ b k cs a hb (fun e ρ' L' q=>hc e ρ' L' (hq e ρ' L' q)) ha
theorem HC.mono{P:Program}{f:Nat}{args:List Value}{L:Za}{Q Q':Value→Za→Prop}(h:HC P f args L Q)(hq:∀v L',Q v L'→Q' v L'):HC P f args L Q':=
 ⟨h.1,fun main Φ fr cs hc=>h.2 main Φ fr cs fun v L' q=>hc v L' (hq v L' q)⟩
theorem HC.wk{P:Program}{f:Nat}{args:List Value}{L L':Za}{Q:Value→Za→Prop}(h:HC P f args L' Q)(hw:Wk L L'):HC P f args L Q:=
 ⟨h.1,fun main Φ fr cs hc=>.weak hw (h.2 main Φ fr cs hc)⟩
theorem HC.wkQ{P:Program}{f:Nat}{args:List Value}{L:Za}{Q Q':Value→Za→Prop}(h:HC P f args L Q)(hw:∀v L',Q v L'→∃L2,Wk L' L2∧Q' v L2):HC P f args L Q':=
 ⟨h.1,fun main Φ fr cs hc=>h.2 main Φ fr cs fun v L' q=>let ⟨L2,h1,h2⟩:=hw v L' q;.weak h1 (hc v L2 h2)⟩
theorem Gr.wk{N:Nat}{L L' L2:Za}(h:Gr N L' L2)(hw:Wk L L'):Gr N L L2:=⟨fun b x=>(h.w b x).imp (hw.w b) id,fun b x=>(h.b b x).imp (hw.b b) id,fun p hp hg=>hw.tok p (h.tok p hp hg) hg⟩
theorem EvIn.mono{B W B' W':Nat→Prop}{N:Nat}{e:Event}(h:EvIn B W N e)(hb:∀b,B b→B' b)(hw:∀b,W b→W' b):EvIn B' W' N e:=by
 rcases h with⟨b,h1,h2⟩|h
 ·refine .inl ⟨b,h1,?_⟩
  split at h2
  ·rename_i hq;rw[Z2d hq];exact h2.imp (hw b) id
  ·rename_i hq;rw[Z16 hq];exact h2.imp (hb b) id
 ·exact .inr h
theorem Tr.wk{w w':World}{L L' L2:Za}{es:Array Event}(h:Tr w w' L' L2 es)(hw:Wk L L'):Tr w w' L L2 es:=
 ⟨h.size,fun b hb hn=>h.keep b hb fun x=>hn (hw.w b x),h.gr.wk hw,fun e he=>⟨(h.evs e he).1.mono hw.b hw.w,(h.evs e he).2⟩⟩
theorem OpW.mono{P:Program}{o:Oper}{e:Operand→Value}{L:Za}{R R':Value→Za→Prop}(h:OpW P o e L R)(hr:∀v L',R v L'→R' v L'):OpW P o e L R':=by
 cases h with
 | plain h=>exact .plain fun k w hs=>let ⟨nx,v,w',L',h1,h2,h3,h4,h5⟩:=h k w hs;⟨nx,v,w',L',h1,h2,h3,h4,hr _ _ h5⟩
 | call f args h1 h2=>exact .call f args h1 (h2.mono hr)
 | raw h=>exact .raw fun main Φ b k cs a ops i is o' h1 h2 h3 h4 h5 h6=>h main Φ b k cs a ops i is o' h1 h2 h3 h4 h5 fun v L' q=>h6 v L' (hr v L' q)
theorem OpW.wk{P:Program}{o:Oper}{e:Operand→Value}{L L':Za}{R:Value→Za→Prop}(h:OpW P o e L' R)(hw:Wk L L'):OpW P o e L R:=by
 cases h with
 | plain h=>exact .plain fun k w hs=>let ⟨nx,v,w',L',h1,h2,h3,h4,h5⟩:=h k w (hw.sat k w hs);⟨nx,v,w',L',h1,h2,h3.wk hw,h4,h5⟩
 | call f args h1 h2=>exact .call f args (fun k w hs=>⟨(h1 k w (hw.sat k w hs)).1,⟨Z21 _,fun _ _ _=>rfl,.refl _ _,((h1 k w (hw.sat k w hs)).2.wk hw).evs⟩⟩) (h2.wk hw)
 | raw h=>exact .raw fun main Φ b k cs a ops i is o' h1 h2 h3 h4 h5 h6=>.weak hw (h main Φ b k cs a ops i is o' h1 h2 h3 h4 h5 h6)
end core
theorem Yw:∀{l₁ l₂:Za},List.Sublist l₁ l₂→List.Sublist l₁.flatten l₂.flatten
 | _,_,.slnil=>Z15 _
 | _,_,.cons a h=>by
  simp only[Z17]
  exact(Yw h).trans (Z4f _ _)
 | _,_,.cons_cons a h=>by
  simp only[Z17]
  exact(List.append_sublist_append_left a).2 (Yw h)
/-! ### other cuts of the same blocks -/
theorem LS.refl(a:List Zp):LS a a:=⟨a,.refl _,.refl _⟩
theorem LS.of_eq{a b:List Zp}(h:a=b):LS a b:=h▸LS.refl a
theorem LS.of_perm{a b:List Zp}(h:List.Perm a b):LS a b:=⟨b,h.symm,.refl _⟩
theorem LS.of_sub{a b:List Zp}(h:List.Sublist a b):LS a b:=⟨a,.refl _,h⟩
theorem LS.skip{a b:List Zp}(x:Zp)(h:LS a b):LS a (x::b):=let ⟨l,h1,h2⟩:=h;⟨l,h1,.cons _ h2⟩
theorem LS.both{a b:List Zp}(x:Zp)(h:LS a b):LS (x::a) (x::b):=let ⟨l,h1,h2⟩:=h;⟨x::l,h1.cons x,h2.cons_cons x⟩
theorem LS.skips{a b:List Zp}(c:List Zp)(h:LS a b):LS a (c++b):=let ⟨l,h1,h2⟩:=h;⟨l,h1,h2.trans (Z4f _ _)⟩
theorem LS.boths{a b:List Zp}(c:List Zp)(h:LS a b):LS (c++a) (c++b):=let ⟨l,h1,h2⟩:=h;⟨c++l,h1.append_left c,(List.append_sublist_append_left c).2 h2⟩
theorem LS.c{a x:List Zp}{L:Za}(h:LS a L.flatten):LS a (x::L).flatten:=by rw[Z17];exact h.skips x
theorem LS.k{x:List Zp}{A L:Za}(h:LS A.flatten L.flatten):LS (x::A).flatten (x::L).flatten:=by rw[Z17,Z17];exact h.boths x
theorem LS.trans{a b c:List Zp}(h:LS a b)(h':LS b c):LS a c:=by
 obtain⟨l,h1,h2⟩:=h
 obtain⟨m,h3,h4⟩:=h'
 obtain⟨l',h5,h6⟩:=List.exists_perm_sublist h2 h3.symm
 exact⟨l',h5.trans h1,h6.trans h4⟩
theorem LS.mem{a b:List Zp}(h:LS a b){p:Zp}(hp:p∈a):p∈b:=by
 obtain⟨l,h1,h2⟩:=h
 exact h2.subset (h1.mem_iff.2 hp)
theorem Sat.sp{k:Zaz}{w:World}{L L':Za}(h:Sat k w L)(hf:LS L'.flatten L.flatten):Sat k w L':=by
 obtain⟨l,hp,hs⟩:=hf
 have hm:∀p∈L'.flatten,p∈L.flatten:=fun p hp'=>hs.subset (hp.mem_iff.2 hp')
 exact⟨h.os,h.out,h.tape,fun p hp'=>h.has p (hm p hp'),(hp.map _).nodup_iff.1 (h.nodup.sublist (hs.map _)),fun p hp'=>h.nv p (hm p hp'),fun p hp'=>h.lt p (hm p hp')⟩
theorem Wk.ls{L L':Za}(hf:LS L'.flatten L.flatten):Wk L L':=⟨fun k w h=>h.sp hf,fun b ⟨o,h1,h2⟩=>⟨o,hf.mem h1,h2⟩,fun b ⟨o,h1,h2⟩=>⟨o,hf.mem h1,h2⟩,fun p hp _=>hf.mem hp⟩
theorem Sat.sub{k:Zaz}{w:World}{L L':Za}(h:Sat k w L)(hs:List.Sublist L' L):Sat k w L':=h.sp (.of_sub (Yw hs))
section control
variable{P:Program}{n:Nat}{Q:Exit→Z9→Za→Prop}{ρ:Z9}{L:Za}
def Vv(P:Program)(n:Nat)(y:Code)(Q:Exit→Z9→Za→Prop):Exit→Z9→Za→Prop
 | .normal,ρ,L=>HW P n y Q ρ L
 | e,ρ,L=>Q e ρ L
def W6(id:Nat)(Q:Exit→Z9→Za→Prop):Exit→Z9→Za→Prop
 | .exit i,ρ,L=>if i=id then Q .normal ρ L else Q (.exit i) ρ L
 | e,ρ,L=>Q e ρ L
theorem Za3{x y:Code}(h:HW P n x (Vv P n y Q) ρ L):HW P n (.seq x y) Q ρ L:=fun main Φ b k cs a hb hc ha=>
 .ctl rfl rfl (fun w=>Conc.stepG_seq) (h main Φ b (.code y::k) cs a hb (fun e ρ' L' q=>by
  cases e with
  | normal=>exact fun a' hd ha'=>q main Φ b k cs a' hb (by rw[hd];exact hc) ha'
  | exit id=>exact(hc _ _ _ q).push rfl (by simp)
  | ret=>exact(hc _ _ _ q).push (x:=.code y) rfl (by simp)
  | goto l=>exact hc _ _ _ q
  | panic ch=>exact hc _ _ _ q
  | outgrown=>exact hc _ _ _ q) ha)
theorem hw_block{id:Nat}{c:Code}(h:HW P n c (W6 id Q) ρ L):HW P n (.block id c) Q ρ L:=fun main Φ b k cs a hb hc ha=>
 .ctl rfl rfl (fun w=>Conc.stepG_block) (h main Φ b (.inBlock id::k) cs a hb (fun e ρ' L' q=>by
  cases e with
  | normal=>exact fun a' hd ha'=>.ctl rfl rfl (fun w=>Conc.stepG_inBlock) (hc _ _ _ q a' hd ha')
  | exit id'=>
   by_cases hid:id'=id
   ·simp only[W6,hid,Z4d]at q
    exact⟨k,by simp[exitTo,hid],hc _ _ _ q⟩
   ·simp only[W6,hid,Z3h]at q
    obtain⟨k',hk',hg⟩:=hc _ _ _ q
    have:(id == id')=false:=by simp;exact fun h=>hid h.symm
    exact⟨k',by simp[exitTo,this,hk'],hg⟩
  | ret=>exact hc _ _ _ q
  | goto l=>exact hc _ _ _ q
  | panic ch=>exact hc _ _ _ q
  | outgrown=>exact hc _ _ _ q) ha)
theorem hw_skip(h:Q .normal ρ L):HW P n .skip Q ρ L:=fun main Φ b k cs a hb hc ha=>.ctl rfl rfl (fun w=>Conc.stepG_skip) (hc _ _ _ h a rfl ha)
theorem hw_exit{id:Nat}(h:Q (.exit id) ρ L):HW P n (.exit id) Q ρ L:=fun main Φ b k cs a hb hc ha=>by
 obtain⟨k',hk',hg⟩:=hc _ _ _ h
 exact .ctl rfl rfl (fun w=>Conc.stepG_exit hk') (hg a rfl ha)
theorem hw_ret(h:Q .ret ρ L):HW P n .ret Q ρ L:=fun main Φ b k cs a hb hc ha=>.ctl rfl rfl (fun w=>Conc.stepG_ret') (hc _ _ _ h a _ rfl ha)
theorem Zyf{c:Operand}{x y:Code}{b:Bool}(hc:ev ρ c=some (.bool b))(hb:b=true)(h:HW P n x Q ρ L):HW P n (.cond c x y) Q ρ L:=fun main Φ b2 k cs a hb2 hq ha=>
 .ctl rfl rfl (fun w=>Conc.stepG_cond (ha.ev hc)) (by subst hb;exact h main Φ b2 k cs a hb2 hq ha)
theorem Zsq{c:Operand}{x y:Code}{b:Bool}(hc:ev ρ c=some (.bool b))(hb:b=false)(h:HW P n y Q ρ L):HW P n (.cond c x y) Q ρ L:=fun main Φ b2 k cs a hb2 hq ha=>
 .ctl rfl rfl (fun w=>Conc.stepG_cond (ha.ev hc)) (by subst hb;exact h main Φ b2 k cs a hb2 hq ha)
theorem hw_bool{c:Operand}{x y:Code}{b:Bool}(hc:ev ρ c=some (.bool b))(ht:b=true→HW P n x Q ρ L)(hf:b=false→HW P n y Q ρ L):HW P n (.cond c x y) Q ρ L:=by
 cases hb:b with
 | true=>exact Zyf hc hb (ht hb)
 | false=>exact Zsq hc hb (hf hb)
theorem Z1d(l:List Oper):(List.range l.toArray.size).map (fun i=>l[i]?)=l.map some:=by
 apply Z3i
 intro i
 by_cases h:i<l.length
 ·simp[h]
 ·simp[h]
theorem Zso:∀{l:List Oper} {ρ:Z9} {L:Za} {ops:List Oper} (is:List Nat),is.map (fun i=>ops[i]?)=l.map some→HO P n ops Q l ρ L→∀(main:Bool) (Φ:Goroutine→Za→Prop) (b:Frame) (k:List Item) (cs:List Frame) (a:Act),b.kind≠.early→
  (∀e ρ' L',Q e ρ' L'→AfterL P main Φ n a.defers b k cs e ρ' L')→Agr n a ρ→Lo P main Φ (Conc.G (b.at a (.inRegion ops.toArray is::k)) cs) L
 | [],ρ,L,ops,is,his,h,main,Φ,b,k,cs,a,hb,hc,ha=>by
  have:is=[]:=by cases is with
   | nil=>rfl
   | cons i r=>simp at his
  subst this
  obtain⟨L',h1,h2⟩:=h
  exact .ctl rfl rfl (fun w=>Z51) (.weak (.ls h1) (hc _ _ _ h2 a rfl ha))
 | o :: l,ρ,L,ops,is,his,h,main,Φ,b,k,cs,a,hb,hc,ha=>by
  cases is with
  | nil=>simp at his
  | cons i is=>
   simp only[Z2s,Z56]at his
   obtain⟨ho,his⟩:=his
   have ho':ops.toArray[i]?=some o:=by simpa using ho
   have h1:=h a ha
   split at h1
   ·rename_i hw
    cases h1 with
    | plain h2=>
     refine .own (fun g' L'=>∃v ρ',g'=Conc.G (b.at (a.put o.dst v) (.inRegion ops.toArray is::k)) cs∧Agr n (a.put o.dst v) ρ'∧HO P n ops Q l ρ' L') rfl (fun kk w hs=>?_) ?_
     ·obtain⟨nx,v,w',L',e1,e2,e3,e4,ρ',e5,e6⟩:=h2 kk w hs
      refine⟨_,w',_,L',?_,rfl,e3.seen (P:=P) (fn:=b.fn),Za5,e4,v,ρ',rfl,e5,e6⟩
      rcases e2 with rfl|⟨rfl,rfl⟩
      ·exact Z54 ho' hw hb e1
      ·exact Conc.stepG_none ho' hw hb e1
     ·rintro g' L' ⟨v,ρ',rfl,h3,h4⟩
      exact Zso is his h4 main Φ b k cs _ hb (by
       have:(a.put o.dst v).defers=a.defers:=by cases o.dst<;>rfl
       rw[this];exact hc) h3
    | call f args h2 h3=>
     refine .own (fun g' L'=>g'=Conc.G (Frame.enter P f ⟨args⟩ .normal) (b.at a (.inRegion ops.toArray (i::is)::k)::cs)∧L'=L) rfl (fun kk w hs=>?_) ?_
     ·obtain⟨e1,e2⟩:=h2 kk w hs
      exact⟨_,w,_,L,Conc.stepG_enter ho' hw hb e1,rfl,e2.seen (P:=P) (fn:=b.fn),Za5,hs,rfl,rfl⟩
     ·rintro _ _ ⟨rfl,rfl⟩
      refine h3.2 main Φ _ cs fun v L' ⟨ρ',e5,e6⟩=>?_
      rw[Z4p,ho']
      exact Zso is his e6 main Φ b k cs _ hb (by
       have:(a.put o.dst v).defers=a.defers:=by cases o.dst<;>rfl
       show ∀e ρ' L',Q e ρ' L'→AfterL P main Φ n (a.put o.dst v).defers b k cs e ρ' L'
       rw[this];exact hc) e5
    | raw h2=>
     refine h2 main Φ b k cs a ops.toArray i is o rfl rfl ho' hw hb fun v L' ⟨ρ',e5,e6⟩=>?_
     exact Zso is his e6 main Φ b k cs _ hb (by
      have:(a.put o.dst v).defers=a.defers:=by cases o.dst<;>rfl
      show ∀e ρ' L',Q e ρ' L'→AfterL P main Φ n (a.put o.dst v).defers b k cs e ρ' L'
      rw[this];exact hc) e5
   ·rename_i hw
    obtain⟨ρ',e5,e6⟩:=h1
    refine .ctl rfl rfl (fun w=>Conc.stepG_unwanted ho' (by simpa using hw)) ?_
    exact Zso is his e6 main Φ b k cs _ hb (by
     have:(a.put o.dst undef).defers=a.defers:=by cases o.dst<;>rfl
     rw[this];exact hc) e5
theorem Vs{id:Nat}{l:List Oper}(h:HO P n l Q l ρ L):HW P n (.region id l.toArray false) Q ρ L:=fun main Φ b k cs a hb hc ha=>
 .ctl rfl rfl (fun w=>Conc.stepG_region) (Zso _ (Z1d l) h main Φ b k cs a hb hc ha)
theorem Vl{y:Code}(h:HW P n y Q ρ L):Vv P n y Q .normal ρ L:=h
theorem seqQ_ret{y:Code}(h:Q .ret ρ L):Vv P n y Q .ret ρ L:=h
theorem Z1n{y:Code}{i:Nat}(h:Q (.exit i) ρ L):Vv P n y Q (.exit i) ρ L:=h
theorem Zr1{id:Nat}(h:Q .normal ρ L):W6 id Q .normal ρ L:=h
theorem blkQ_ret{id:Nat}(h:Q .ret ρ L):W6 id Q .ret ρ L:=h
theorem Zzq{id:Nat}(h:Q .normal ρ L):W6 id Q (.exit id) ρ L:=by simpa[W6] using h
theorem Zzp{id i:Nat}(hn:Nat.beq i id=false)(h:Q (.exit i) ρ L):W6 id Q (.exit i) ρ L:=by
 have:i≠id:=fun e=>by subst e;simp at hn
 simpa[W6,this] using h
theorem Zbp{c:Code}{ρ':Z9}(h:HW P n c Q ρ' L)(hs:Sub ρ' ρ):HW P n c Q ρ L:=fun main Φ b k cs a hb hc ha=>h main Φ b k cs a hb hc (ha.sub hs)
theorem Zvw{c:Code}{L':Za}(h:HW P n c Q ρ L')(hs:LS L'.flatten L.flatten):HW P n c Q ρ L:=fun main Φ b k cs a hb hc ha=>.weak (.ls hs) (h main Φ b k cs a hb hc ha)
theorem hw_perm{c:Code}{L':Za}(h:HW P n c Q ρ L')(hs:List.Perm L L'):HW P n c Q ρ L:=Zvw h (.of_perm hs.symm.flatten)
def Xn{σ:Type}(env:σ→Z9)(heap:σ→Za)(inv:σ→Prop)(μ:σ→Nat)(m:Nat)(Q:Exit→Z9→Za→Prop):Exit→Z9→Za→Prop
 | .normal,ρ,L=>∃s',Sub (env s') ρ∧LS (heap s').flatten L.flatten∧inv s'∧μ s'<m
 | e,ρ,L=>Q e ρ L
theorem Zm{σ:Type}{c:Code}(env:σ→Z9)(heap:σ→Za)(inv:σ→Prop)(μ:σ→Nat)(s:σ)
  (hρ:Sub (env s) ρ)(hL:List.Sublist (heap s) L)(hi:inv s)
  (round:∀s,inv s→HW P n c (Xn env heap inv μ (μ s) Q) (env s) (heap s)):HW P n (.loop c) Q ρ L:=by
 intro main Φ b kk cs a hb hc ha
 have key:∀m s,μ s=m→inv s→∀a':Act,a'.defers=a.defers→Agr n a' (env s)→Lo P main Φ (Conc.G (b.at a' (.code c::.inLoop c::kk)) cs) (heap s):=by
  intro m
  induction m using Nat.strongRecOn with
  | _ m ih=>
   intro s hm hi a2 hda ha
   refine round s hi main Φ b (.inLoop c::kk) cs a2 hb (fun e ρ' L' q=>?_) ha
   have hc:=hda▸hc
   cases e with
   | normal=>
    obtain⟨s',hsub,hL',hi',hlt⟩:=q
    exact fun a' hd ha'=>.ctl rfl rfl (fun w=>Conc.stepG_inLoop) (.weak (.ls hL') (ih (μ s') (hm▸hlt) s' rfl hi' a' (hd.trans hda) (ha'.sub hsub)))
   | exit id=>exact(hc _ _ _ q).push rfl (by simp)
   | ret=>exact(hc _ _ _ q).push (x:=.inLoop c) rfl (by simp)
   | goto l=>exact hc _ _ _ q
   | panic ch=>exact hc _ _ _ q
   | outgrown=>exact hc _ _ _ q
 exact .ctl rfl rfl (fun w=>Conc.stepG_loop) (.weak (.ls (.of_sub (Yw hL))) (key _ s rfl hi a rfl (ha.sub hρ)))
theorem Z0p{σ:Type}{env:σ→Z9}{heap:σ→Za}{inv:σ→Prop}{μ:σ→Nat}{m:Nat}(h:Q .ret ρ L):Xn env heap inv μ m Q .ret ρ L:=h
theorem Zwb{σ:Type}{env:σ→Z9}{heap:σ→Za}{inv:σ→Prop}{μ:σ→Nat}{m i:Nat}(h:Q (.exit i) ρ L):Xn env heap inv μ m Q (.exit i) ρ L:=h
theorem Zn{σ:Type}{env:σ→Z9}{heap:σ→Za}{inv:σ→Prop}{μ:σ→Nat}{m:Nat}(s':σ)(h:Sub (env s') ρ)(hL:List.Sublist (heap s') L)(hi:inv s')(hm:μ s'<m):Xn env heap inv μ m Q .normal ρ L:=⟨s',h,LS.of_sub (Yw hL),hi,hm⟩
theorem Ze{σ:Type}{env:σ→Z9}{heap:σ→Za}{inv:σ→Prop}{μ:σ→Nat}{m:Nat}(s':σ)(h:Sub (env s') ρ)(hL:LS (heap s').flatten L.flatten)(hi:inv s')(hm:μ s'<m):Xn env heap inv μ m Q .normal ρ L:=⟨s',h,hL,hi,hm⟩
end control
/-! ### a function -/
section fn
def Zaf(P:Program)(fn:Func)(Q:Value→Za→Prop):Exit→Z9→Za→Prop
 | .normal,ρ,L|.ret,ρ,L=>∀(k:Zaz) (w:World) (a:Act),Sat k w L→Agr fn.ntmps a ρ→∃v L',(results fn a.tmps).run P w=.ok v w∧Wk L L'∧Q v L'
 | _,_,_=>False
end fn
def Q6:Nat→List Value→Z9
 | _,[]=>[]
 | i,v::r=>(i,v)::Q6 (i+1) r
theorem Zg3(vs:List Value):∀(i t:Nat) (v:Value),lk (Q6 i vs) t=some v→i≤t∧vs[t-i]?=some v:=by
 induction vs with
 | nil=>intro i t v h;simp[Q6,lk]at h
 | cons x r ih=>
  intro i t v h
  simp only[Q6]at h
  by_cases e:i=t
  ·subst e
   rw[Uv]at h
   cases h
   simp
  ·rw[Uw _ _ e]at h
   obtain⟨h1,h2⟩:=ih (i+1) t v h
   refine⟨by omega,?_⟩
   rw[show t-i=(t-(i+1))+1 by omega]
   simpa using h2
theorem Ag.sat{k:Zaz}{w w2:World}{L:Za}(hs:Sat k w L)(h:Ag (InB L) w.heap.size w w2):Sat k w2 L:=
 ⟨h.os.trans hs.os,h.out.trans hs.out,h.tape.trans hs.tape,fun p hp hg=>by rw[h.same p.1 (.inl ⟨p.2,hp,hg⟩)];exact hs.has p hp hg,hs.nodup,hs.nv,fun p hp=>by rw[h.size];exact hs.lt p hp⟩
theorem Sat.noV{k:Zaz}{w:World}{L:Za}(hs:Sat k w L):NV (InB L) w.heap.size w:=fun b o hb ho=>by
 rcases hb with⟨o',h1,h2⟩|hb
 ·have:=hs.has _ h1 h2
  rw[ho]at this
  cases this
  exact Zwd (hs.nv _ h1)
 ·rw[Z3u hb]at ho;cases ho
theorem Zm0{α:Type}{P:Program}{s:Sem α}{L L':Za}{k:Zaz}{w w':World}{v:α}(hs:Sat k w L)(hpl:Plo P (InB L) (InW L) w.heap.size s)(hok:∀w2,Sat k w2 L→∃v w',s.run P w2=.ok v w')(hr:s.run P w=.ok v w')(hg:Gr w.heap.size L L'):
  Tr w w' L L' (s.events P w #[]):=by
 obtain⟨v1,w1,es,h1,h2,h3,h4⟩:=pl_loc (fun b h=>h.b) s hpl w #[] (Z21 _) hs.noV fun w2 h2=>hok w2 (h2.sat hs)
 rw[Sem.runT_eq,hr]at h1
 simp only[Z3m,Result.ok.injEq]at h1
 obtain⟨⟨rfl,rfl⟩,h5⟩:=h1
 rw[h5]
 exact⟨h3,h4,hg,fun e he=>h2 e (by simpa using he)⟩
theorem Zrf{P:Program}{main:Bool}{b:Frame}{a:Act}{todo:List Item}{cs:List Frame}{w:World}{fn:Func}{c:Frame}{v:Value}(hn:b.kind=.normal)(hd:a.defers=[])(hf:P.funcs[b.fn]?=some fn)
  (hr:(results fn a.tmps).run P w=.ok v w):
  stepG P main (Conc.G { b.at a todo with mode:=.returning } (c::cs)) w=.go (Conc.G (c.finish v) cs) w (seen P b.fn ((results fn a.tmps).events P w #[])):=by
 simp[Conc.G,stepG,unwind,doReturn,Frame.at,hn,hd,hf,hr,GStep.after]
theorem hc_enter{P:Program}{f:Nat}{fn:Func}{c:Code}{args:List Value}{L:Za}{Q:Value→Za→Prop}
  (hm:(fn.name == "runtime.NumGoroutine")=false)(hf:P.funcs[f]?=some fn)(hb:fn.body=some c){n:Nat}(hn:fn.ntmps=n)(hlen:args.length≤n)
  (h:HW P n c (Zaf P fn Q) (Q6 0 args) L):HC P f args L Q:=by
 subst hn
 refine⟨Zek hf hb hm,fun main Φ fr cs hc=>?_⟩
 rw[Z62 _ hf hb]
 have key:∀(a:Act) (todo:List Item) (ρ:Z9) (L':Za),a.defers=[]→Agr fn.ntmps a ρ→Zaf P fn Q .ret ρ L'→Lo P main Φ (Conc.G { (Conc.base f).at a todo with mode:=.returning } (fr::cs)) L':=fun a todo ρ L' hd ha hq=>by
  refine .own (fun g L2=>∃v L3,g=Conc.G (fr.finish v) cs∧Wk L2 L3∧Q v L3) rfl (fun k w hs=>?_) ?_
  ·obtain⟨v,L3,h1,h2,h3⟩:=hq k w a hs ha
   refine⟨_,w,_,L',Zrf rfl hd hf h1,rfl,Tr.seen (Zm0 hs (Zmc _ _) (fun w2 hs2=>?_) h1 (.refl _ _)),Za5,hs,v,L3,rfl,h2,h3⟩
   obtain⟨v2,_,h4,_⟩:=hq k w2 a hs2 ha
   exact⟨v2,w2,h4⟩
  ·rintro g L2 ⟨v,L3,rfl,h2,h3⟩
   exact .weak h2 (hc v L3 h3)
 refine h main Φ (Conc.base f) [] (fr::cs) _ (by simp[Conc.base]) (fun e ρ' L' q=>?_) ⟨?_,?_⟩
 ·cases e with
  | normal=>exact fun a hd ha=>.ctl rfl rfl (fun w=>Z6r) (key a [] ρ' L' hd ha q)
  | ret=>exact fun a todo hd ha=>key a todo ρ' L' hd ha q
  | exit i=>exact q.elim
  | goto i=>exact q.elim
  | panic ch=>exact q.elim
  | outgrown=>exact q.elim
 ·simp;omega
 ·intro t v hv
  obtain⟨_,h2⟩:=Zg3 args 0 t v hv
  have hlt:t<args.length:=(Z2j.1 h2).1
  simp only[]
  rw[Z5c (by simpa using hlt)]
  simpa using h2
section results
variable{P:Program}{fn:Func}{Q:Value→Za→Prop}{ρ:Z9}{L:Za}
def ResV(P:Program)(ρ:Z9)(L:Za):ResultVar→Value→Prop
 | .tmp t,v=>lk ρ t=some v
 | .cell t T,v=>∃p,lk ρ t=some (.pointer (some p))∧∀k w,Sat k w L→(loadVar T p).run P w=.ok v w
def rv(tmps:Array Value):ResultVar→Sem Value
 | .tmp t=>pure (tmps.getD t undef)
 | .cell a t=>do loadVar t (← asAddr (tmps.getD a undef))
theorem Ux(fn:Func)(tmps:Array Value):results fn tmps=(do
 let vs ← fn.results.mapM (rv tmps)
 pure (if h:vs.size=1 then vs[0] else .tuple vs)):=rfl
theorem ResV.run{n:Nat}{r:ResultVar}{v:Value}(h:ResV P ρ L r v){k:Zaz}{w:World}{a:Act}(hs:Sat k w L)(ha:Agr n a ρ):(rv a.tmps r).run P w=.ok v w:=by
 cases r with
 | tmp t=>simp[rv,ha.get _ _ h]
 | cell t T=>
  obtain⟨p,hp,hr⟩:=h
  simp[rv,ha.get _ _ hp,asAddr,hr k w hs]
theorem fn_end0(hr:fn.results=#[]){L':Za}(hL:List.Sublist L' L)(h:Q (.tuple #[]) L'):Zaf P fn Q .normal ρ L:=
 fun k w a hs ha=>⟨_,L',by simp[results,hr],Wk.ls (.of_sub (Yw hL)),h⟩
theorem Y1{r:ResultVar}{v:Value}(hr:fn.results=#[r])(hv:ResV P ρ L r v){L':Za}(hL:List.Sublist L' L)(h:Q v L'):Zaf P fn Q .ret ρ L:=
 fun k w a hs ha=>⟨v,L',by simp[Ux,hr,hv.run hs ha],Wk.ls (.of_sub (Yw hL)),h⟩
theorem Wl{r s:ResultVar}{x y:Value}(hr:fn.results=#[r,s])(hx:ResV P ρ L r x)(hy:ResV P ρ L s y){L':Za}(hL:List.Sublist L' L)
  (h:Q (.tuple ⟨[x,y]⟩) L'):Zaf P fn Q .ret ρ L:=
 fun k w a hs ha=>⟨.tuple ⟨[x,y]⟩,L',by simp[Ux,hr,hx.run hs ha,hy.run hs ha],Wk.ls (.of_sub (Yw hL)),h⟩
end results
/-! ### the types that a program has, as9 numbers -/
structure TyI where
 kind:Nat
 x:Nat
 y:Nat
 size:Nat
 bytes:Nat
 deriving DecidableEq
def Zqf:IntKind→Nat
 | .i8=>0|.i16=>1|.i32=>2|.i64=>3|.u8=>4|.u16=>5|.u32=>6|.u64=>7
def Zbr:Nat→IntKind
 | 0=>.i8|1=>.i16|2=>.i32|3=>.i64|4=>.u8|5=>.u16|6=>.u32|_=>.u64
theorem Zh3(k:IntKind):Zbr (Zqf k)=k:=by cases k<;>rfl
def Za1:TypeDesc→Nat × Nat × Nat
 | .bool=>(1,0,0)
 | .int k=>(2,Zqf k,0)
 | .string=>(3,0,0)
 | .pointer e=>(4,e,0)
 | .slice e=>(5,e,0)
 | .array n e=>(6,n,e)
 | .struct fs=>(7,fs.size,0)
 | .map k e=>(8,k,e)
 | .interface ms=>(9,ms.size,0)
 | .func ps rs _=>(10,ps.size,rs.size)
 | _=>(0,0,0)
def tyI(P:Program)(t:Nat):Option TyI:=
 match P.underlying t,P.info? t with
 | some d,some i=>some ⟨(Za1 d).1,(Za1 d).2.1,(Za1 d).2.2,i.size,i.bytes⟩
 | _,_=>none
def fldI(P:Program)(s f:Nat):Option Nat:=
 match P.underlying s with
 | some (.struct fs)=>match fs[f]? with
  | some fd=>match P.info? fd.type with
   | some i=>if i.size=0 then none else some fd.offset
   | none=>none
  | none=>none
 | _=>none
def fldT(P:Program)(s f:Nat):Option (Nat × Nat):=
 match P.underlying s with
 | some (.struct fs)=>match fs[f]? with
  | some fd=>some (fd.offset,fd.type)
  | none=>none
 | _=>none
def stI(P:Program)(t:Nat):Option (List (Nat × Nat × Nat)):=
 match P.underlying t with
 | some (.struct fs)=>fs.toList.mapM fun f=>(P.info? f.type).map fun i=>(f.offset,i.size,f.type)
 | _=>none
def zeroI(P:Program)(t:Nat):Option Value:=(P.info? t).bind (·.zero)
def Yj{α:Type}:List (Nat × α)→Nat→Option α
 | [],_=>none
 | (t,v)::r,x=>bif Nat.beq t x then some v else Yj r x
theorem Zcy{α:Type}{l:List (Nat × α)}{x:Nat}{v:α}(h:Yj l x=some v):(x,v)∈l:=by
 induction l with
 | nil=>simp[Yj]at h
 | cons p r ih=>
  obtain⟨t,u⟩:=p
  simp only[Yj]at h
  cases hb:Nat.beq t x with
  | true=>
   rw[hb]at h
   cases h
   have:=Z2a hb
   subst this
   exact .head _
  | false=>rw[hb]at h;exact .tail _ (ih h)
def Zfy(g:Nat→Option (List Nat)):List Field→Nat→Option (List Nat)
 | [],_=>some []
 | f::r,off=>match g f.type with
  | some l=>if f.name≠ "_" ∧ f.offset=off∧0<l.length then (match Zfy g r (off+l.length) with
   | some m=>some (l++m)
   | none=>none) else none
  | none=>none
def Qk(P:Program):Nat→Nat→Option (List Nat)
 | 0,_=>none
 | d+1,t=>match P.underlying t,P.info? t with
  | some .bool,some i=>if i.size=1 then some [1] else none
  | some (.int _),some i=>if i.size=1 then some [2] else none
  | some .string,some i=>if i.size=1 then some [3] else none
  | some (.struct fs),some i=>if P.stoodInHeld t=true then none else (match Zfy (Qk P d) fs.toList 0 with
   | some l=>if i.size=l.length then some l else none
   | none=>none)
  | some (.array n e),some i=>(match Qk P d e with
   | some l=>if i.size=n*l.length∧(P.info? e).map (·.size)=some l.length∧0<l.length then some (List.replicate n l).flatten else none
   | none=>none)
  | _,_=>none
def Zh2(P:Program)(t:Nat):Bool:=match P.underlying t with
 | some (.struct _)=>true
 | some (.array _ _)=>true
 | _=>false
structure Tab(P:Program) where
 ty:List (Nat × TyI)
 fl:List (Nat × Nat × Nat)
 zr:List (Nat × Value)
 st:List (Nat × List (Nat × Nat × Nat))
 eq:List (Nat × List Nat)
 ty_ok:(ty.all fun p=>decide (tyI P p.1=some p.2))=true
 fl_ok:(fl.all fun p=>decide (fldI P (p.1 / 64) (p.1 % 64)=some p.2.1) && decide (fldT P (p.1 / 64) (p.1 % 64)=some p.2))=true
 zr_ok:∀p∈zr,zeroI P p.1=some p.2
 st_ok:(st.all fun p=>decide (stI P p.1=some p.2))=true
 eq_ok:(eq.all fun p=>decide (Qk P 8 p.1=some p.2) && Zh2 P p.1 && !(P.eqGuardType P.depth p.1))=true
 mixed:P.follows .mixedOrders=true
section tab
variable{P:Program}(S:Tab P)
theorem Tab.tyI{t:Nat}{i:TyI}(h:Yj S.ty t=some i):HL.tyI P t=some i:=by
 have:=Z2u.1 S.ty_ok _ (Zcy h)
 exact Z5v this
theorem Tab.fldI{s f o ft:Nat}(h:Yj S.fl (s*64+f)=some (o,ft))(hf:Nat.blt f 64=true):HL.fldI P s f=some o∧HL.fldT P s f=some (o,ft):=by
 have hf':f<64:=Z2m hf
 have:=Z2u.1 S.fl_ok _ (Zcy h)
 simp only[Z27,Z3r]at this
 have e1:(s*64+f) / 64=s:=by omega
 have e2:(s*64+f) % 64=f:=by omega
 rw[e1,e2]at this
 exact this
theorem Tab.stI{t:Nat}{i:List (Nat × Nat × Nat)}(h:Yj S.st t=some i):HL.stI P t=some i:=by
 have:=Z2u.1 S.st_ok _ (Zcy h)
 exact Z5v this
theorem Tab.zeroI{t:Nat}{v:Value}(h:Yj S.zr t=some v):HL.zeroI P t=some v:=S.zr_ok _ (Zcy h)
end tab
section tyfacts
variable{P:Program}{t:Nat}{i:TyI}
theorem X8(h:tyI P t=some i):∃d j,P.underlying t=some d∧P.info? t=some j∧Za1 d=(i.kind,i.x,i.y)∧j.size=i.size∧j.bytes=i.bytes:=by
 unfold tyI at h
 split at h
 ·rename_i d j hd hj
  cases h
  exact⟨d,j,hd,hj,rfl,rfl,rfl⟩
 ·cases h
theorem X9(h:tyI P t=some i)(w:World):(sizeOf t).run P w=.ok i.size w:=by
 obtain⟨d,j,hd,hj,_,hs,_⟩:=X8 h
 simp[sizeOf,typeInfo,hj,hs]
theorem Z1v(h:tyI P t=some i)(hk:Nat.beq i.kind 6=false)(hk':Nat.beq i.kind 7=false)(w:World):(isAgg t).run P w=.ok false w:=by
 obtain⟨d,j,hd,hj,he,hs,_⟩:=X8 h
 have k6:i.kind≠6:=fun e=>by rw[e]at hk;cases hk
 have k7:i.kind≠7:=fun e=>by rw[e]at hk';cases hk'
 cases d<;>simp[isAgg,Z2k hd]<;>simp[Za1]at he<;>omega
theorem ty_agg(h:tyI P t=some i)(hk:(Nat.beq i.kind 6 || Nat.beq i.kind 7)=true)(w:World):(isAgg t).run P w=.ok true w:=by
 obtain⟨d,j,hd,hj,he,hs,_⟩:=X8 h
 have k:i.kind=6∨i.kind=7:=by
  simp only[Bool.or_eq_true]at hk
  exact hk.imp Z2a Z2a
 cases d<;>simp[isAgg,Z2k hd]<;>simp[Za1]at he<;>omega
theorem Zdc(h:tyI P t=some i)(hk:i.kind=2):P.underlying t=some (.int (Zbr i.x)):=by
 obtain⟨d,j,hd,hj,he,hs,_⟩:=X8 h
 rw[hd]
 cases d<;>simp[Za1,hk]at he
 rw[← he.1,Zh3]
theorem Zks(h:tyI P t=some i)(hk:i.kind=1):P.underlying t=some .bool:=by
 obtain⟨d,j,hd,hj,he,hs,_⟩:=X8 h
 rw[hd]
 cases d<;>simp[Za1,hk]at he
 rfl
theorem Qz(h:tyI P t=some i)(hk:i.kind=3):P.underlying t=some .string:=by
 obtain⟨d,j,hd,hj,he,hs,_⟩:=X8 h
 rw[hd]
 cases d<;>simp[Za1,hk]at he
 rfl
theorem Ub(h:tyI P t=some i)(hk:i.kind=4):P.underlying t=some (.pointer i.x):=by
 obtain⟨d,j,hd,hj,he,hs,_⟩:=X8 h
 rw[hd]
 cases d<;>simp[Za1,hk]at he
 rw[he.1]
theorem Z7(h:tyI P t=some i)(hk:i.kind=5):P.underlying t=some (.slice i.x):=by
 obtain⟨d,j,hd,hj,he,hs,_⟩:=X8 h
 rw[hd]
 cases d<;>simp[Za1,hk]at he
 rw[he.1]
theorem Zm2(h:tyI P t=some i)(hk:i.kind=6):P.underlying t=some (.array i.x i.y):=by
 obtain⟨d,j,hd,hj,he,hs,_⟩:=X8 h
 rw[hd]
 cases d<;>simp[Za1,hk]at he
 rw[he.1,he.2]
theorem Zri(h:tyI P t=some i)(hk:i.kind=8):P.underlying t=some (.map i.x i.y):=by
 obtain⟨d,j,hd,hj,he,hs,_⟩:=X8 h
 rw[hd]
 cases d<;>simp[Za1,hk]at he
 rw[he.1,he.2]
theorem Zil(h:tyI P t=some i):(P.underlying t).isSome=true:=by
 obtain⟨d,j,hd,hj,he,hs,_⟩:=X8 h
 simp[hd]
theorem Zbe{v:Value}(h:zeroI P t=some v)(w:World):(zeroValue t).run P w=.ok v w:=by
 unfold zeroI at h
 cases hj:P.info? t with
 | none=>simp[hj]at h
 | some j=>
  simp[hj]at h
  simp[zeroValue,typeInfo,hj,h]
end tyfacts
/-! ### blocks -/
def Has(L:Za)(b:Nat)(o:Obj):Prop:=(b,o)∈L.flatten
theorem Zk{b:Nat}{o:Obj}{c:List Zp}{L:Za}:Has (((b,o)::c)::L) b o:=by simp[Has]
theorem Qp{b:Nat}{o:Obj}{e:Zp}{c:List Zp}{L:Za}(h:Has (c::L) b o):Has ((e::c)::L) b o:=by
 simp only[Has,Z17,Z19,Z2h] at*
 exact .inr h
theorem Zb{b:Nat}{o:Obj}{c:List Zp}{L:Za}(h:Has L b o):Has (c::L) b o:=by
 simp only[Has,Z17,Z2f] at*
 exact .inr h
theorem Yr{b:Nat}{o:Obj}{c:List Zp}{L:Za}(h:(b,o)∈c):Has (c::L) b o:=by
 simp only[Has,Z17,Z2f]
 exact .inl h
theorem Sat.heap{k:Zaz}{w:World}{L:Za}(h:Sat k w L){b:Nat}{o:Obj}(hb:Has L b o)(ho:Zet o=true:=by rfl):w.heap[b]?=some o:=by
 have:=h.has _ hb (Zas ho)
 rwa [Zgm ho]at this
theorem Sat.row{k:Zaz}{w:World}{L:Za}(h:Sat k w L){b:Nat}{l:Array Value}{E:Nat}{fr:Nat × Nat}(hb:Has L b (.cells l E fr)):∃fr',w.heap[b]?=some (.cells l E fr'):=by
 obtain⟨fr',e⟩:=Zzl l E fr
 exact⟨fr',e▸h.has _ hb rfl⟩
theorem Sat.cell{k:Zaz}{w:World}{L:Za}(h:Sat k w L){b:Nat}{l:List Value}{E:Nat}{fr:Nat × Nat}(hb:Has L b (.cells ⟨l⟩ E fr))(j:Nat):w.cell? ⟨b,j,none⟩=l[j]?:=by
 obtain⟨fr',e⟩:=h.row hb
 rw[cell_of_row w b j ⟨l⟩ E fr' e]
 simp
def Gets(l:List Value)(i:Nat)(vs:List Value):Prop:=∀j v,vs[j]?=some v→l[i+j]?=some v
theorem Zc{l:List Value}{i:Nat}{a:Value}{vs:List Value}(h:l[i]?=some a)(h2:Gets l (i+1) vs):Gets l i (a::vs):=by
 intro j v hj
 match j with
 | 0=>simp at hj;subst hj;simpa using h
 | j+1=>
  have:=h2 j v (by simpa using hj)
  rw[show i+(j+1)=i+1+j by omega]
  exact this
theorem Z6{l:List Value}{i:Nat}:Gets l i []:=by intro j v hj;simp at hj
theorem Vp(b i n:Nat):(Addr.mk b i none).add n=⟨b,i+n,none⟩:=by
 unfold Addr.add
 split
 ·rename_i h;subst h;rfl
 ·rfl
theorem Zf4{P:Program}{k:Zaz}{w:World}{L:Za}(hs:Sat k w L){b i E:Nat}{l vs:List Value}{fr:Nat × Nat}(hb:Has L b (.cells ⟨l⟩ E fr))(hg:Gets l i vs):
  (loadCells ⟨b,i,none⟩ vs.length).run P w=.ok ⟨vs⟩ w:=by
 have:=run_loadCells_list (P:=P) w ⟨b,i,none⟩ vs (fun j v hj=>by rw[Vp,hs.cell hb];exact hg j v hj)
 simpa using this
/-! ### an operation that yields one value and leaves the blocks as9 they are -/
section
def QOp(P:Program)(o:Oper)(ρ:Z9)(L:Za)(v:Value):Prop:=
 ∀e:Operand→Value,(∀x∈o.op.operands,∀u,ev ρ x=some u→e x=u)→OpW P o e L (fun u L'=>u=v∧L'=L)
end
section rules
variable{P:Program}{n:Nat}{ops:List Oper}{Q:Exit→Z9→Za→Prop}{rest:List Oper}{o:Oper}{ρ:Z9}{L:Za}
theorem Yv(o:Oper)(h:o.guard=none)(y:Nat→Option Bool):Region.wanted o y=true:=by simp[Region.wanted,h]
theorem Zcw(h:Q .normal ρ L):HO P n ops Q [] ρ L:=⟨L,.refl _,h⟩
theorem Zep(h:∀a:Act,Agr n a ρ→if Region.wanted o (yielded ops.toArray a.tmps)=true then OpW P o a.eval L (fun v L'=>∃ρ',Agr n (a.put o.dst v) ρ'∧HO P n ops Q rest ρ' L')
  else ∃ρ',Agr n (a.put o.dst undef) ρ'∧HO P n ops Q rest ρ' L):HO P n ops Q (o::rest) ρ L:=h
theorem Zav(h:HO P n ops Q (o::rest) ρ L):∀a:Act,Agr n a ρ→if Region.wanted o (yielded ops.toArray a.tmps)=true then OpW P o a.eval L (fun v L'=>∃ρ',Agr n (a.put o.dst v) ρ'∧HO P n ops Q rest ρ' L')
  else ∃ρ',Agr n (a.put o.dst undef) ρ'∧HO P n ops Q rest ρ' L:=h
theorem Zb4(hw:∀a:Act,Agr n a ρ→Region.wanted o (yielded ops.toArray a.tmps)=true)(h:∀a:Act,Agr n a ρ→OpW P o a.eval L (fun v L'=>∃ρ',Agr n (a.put o.dst v) ρ'∧HO P n ops Q rest ρ' L')):HO P n ops Q (o::rest) ρ L:=
 Zep fun a ha=>by rw[Z2d (hw a ha)];exact h a ha
theorem Zx9(hw:∀a:Act,Agr n a ρ→Region.wanted o (yielded ops.toArray a.tmps)=false)(h:∀a:Act,Agr n a ρ→∃ρ',Agr n (a.put o.dst undef) ρ'∧HO P n ops Q rest ρ' L):HO P n ops Q (o::rest) ρ L:=
 Zep fun a ha=>by rw[Z16 (by rw[hw a ha];simp)];exact h a ha
theorem QOp.put{d:Nat}{v:Value}(hd:o.dst=some d)(hn:Nat.blt d n=true)(h:QOp P o ρ L v)(hr:HO P n ops Q rest ((d,v)::ρ) L)(a:Act)(ha:Agr n a ρ):OpW P o a.eval L (fun v L'=>∃ρ',Agr n (a.put o.dst v) ρ'∧HO P n ops Q rest ρ' L'):=
 (h a.eval fun x _ u hu=>ha.ev hu).mono fun u L' ⟨e1,e2⟩=>by
  subst e1;subst e2
  exact⟨_,by rw[hd];exact ha.put (Z2m hn) u,hr⟩
theorem ho_q{v:Value}{d:Nat}{op:Op}{ty:TypeId}{pos:String}{af:Array Edge}(hn:Nat.blt d n=true)(h:QOp P ⟨some d,op,ty,pos,af,none⟩ ρ L v)(hr:HO P n ops Q rest ((d,v)::ρ) L):
  HO P n ops Q (⟨some d,op,ty,pos,af,none⟩::rest) ρ L:=Zb4 (fun a _=>Yv _ rfl _) (h.put rfl hn hr)
def Zb2(ops:List Oper)(j:Nat):Option Nat:=(ops[j]?).bind (·.dst)
theorem Uf{a:Act}{j t:Nat}{b wt:Bool}(ha:Agr n a ρ)(hg:o.guard=some (j,wt))(hj:Zb2 ops j=some t)(ht:lk ρ t=some (.bool b)):Region.wanted o (yielded ops.toArray a.tmps)=(b == wt):=by
 unfold Zb2 at hj
 simp[Region.wanted,hg,yielded,hj,ha.get _ _ ht]
theorem Zyb{v:Value}{d j t:Nat}{wt:Bool}{op:Op}{ty:TypeId}{pos:String}{af:Array Edge}(hn:Nat.blt d n=true)(hj:Zb2 ops j=some t)(ht:lk ρ t=some (.bool wt))(h:QOp P ⟨some d,op,ty,pos,af,some (j,wt)⟩ ρ L v)
  (hr:HO P n ops Q rest ((d,v)::ρ) L):HO P n ops Q (⟨some d,op,ty,pos,af,some (j,wt)⟩::rest) ρ L:=
 Zb4 (fun a ha=>by rw[Uf ha rfl hj ht];simp) (h.put rfl hn hr)
theorem Zya{d j t:Nat}{wt b:Bool}{op:Op}{ty:TypeId}{pos:String}{af:Array Edge}(hn:Nat.blt d n=true)(hj:Zb2 ops j=some t)(ht:lk ρ t=some (.bool b))(hb:(!wt)=b)
  (hr:HO P n ops Q rest ((d,undef)::ρ) L):HO P n ops Q (⟨some d,op,ty,pos,af,some (j,wt)⟩::rest) ρ L:=by
 subst hb
 exact Zx9 (fun a ha=>by rw[Uf ha rfl hj ht];cases wt<;>simp) fun a ha=>⟨_,ha.put (Z2m hn) undef,hr⟩
theorem Agr.name{a:Act}(ha:Agr n a ρ){t:Nat}{b c:Bool}(ht:lk ρ t=some (.bool b))(hb:b=c):Agr n a ((t,.bool c)::ρ):=by
 subst hb
 refine⟨ha.size,fun x u hx=>?_⟩
 by_cases e:t=x
 ·subst e
  rw[Uv]at hx
  cases hx
  exact ha.get _ _ ht
 ·rw[Uw _ _ e]at hx
  exact ha.get _ _ hx
theorem Z0a{l:List Oper}(t:Nat){b:Bool}(ht:lk ρ t=some (.bool b))(h1:b=true→HO P n ops Q (o::l) ((t,.bool true)::ρ) L)(h0:b=false→HO P n ops Q (o::l) ((t,.bool false)::ρ) L):HO P n ops Q (o::l) ρ L:=by
 cases hb:b with
 | true=>exact Zep fun a ha=>Zav (h1 hb) a (ha.name ht hb)
 | false=>exact Zep fun a ha=>Zav (h0 hb) a (ha.name ht hb)
theorem ho_skipu{d j t:Nat}{wt:Bool}{v:Value}{op:Op}{ty:TypeId}{pos:String}{af:Array Edge}(hj:Zb2 ops j=some t)(ht:lk ρ t=some v)(hb:v=undef)(hn:Nat.blt d n=true)
  (hr:HO P n ops Q rest ((d,undef)::ρ) L):HO P n ops Q (⟨some d,op,ty,pos,af,some (j,wt)⟩::rest) ρ L:=by
 subst hb
 refine Zx9 (fun a ha=>?_) fun a ha=>⟨_,ha.put (Z2m hn) undef,hr⟩
 unfold Zb2 at hj
 simp[Region.wanted,yielded,hj,ha.get _ _ ht,undef]
theorem Zz8{d j t:Nat}{wt:Bool}{op:Op}{ty:TypeId}{pos:String}{af:Array Edge}{b:Bool}(hj:Zb2 ops j=some t)(ht:lk ρ t=some (.bool b))
  (h1:b=true→HO P n ops Q (⟨some d,op,ty,pos,af,some (j,wt)⟩::rest) ((t,.bool true)::ρ) L)(h0:b=false→HO P n ops Q (⟨some d,op,ty,pos,af,some (j,wt)⟩::rest) ((t,.bool false)::ρ) L):
  HO P n ops Q (⟨some d,op,ty,pos,af,some (j,wt)⟩::rest) ρ L:=Z0a t ht h1 h0
end rules
/-! ### the operations that read -/
section q
variable{P:Program}{ρ:Z9}{L:Za}{d:Option Tmp}{ty:TypeId}{pos:String}{af:Array Edge}{g:Option (Nat × Bool)}
theorem Vi{o:Oper}{v:Value}(hp:∀(ρe:Operand→Value),(∀x∈o.op.operands,∀u,ev ρ x=some u→ρe x=u)→∀N,Plo P (InB L) (InW L) N (execOp ρe o))
  (h:∀(ρe:Operand→Value),(∀x∈o.op.operands,∀u,ev ρ x=some u→ρe x=u)→∀k w,Sat k w L→(execOp ρe o).run P w=.ok (.value v) w):QOp P o ρ L v:=fun e he=>
 .plain fun k w hs=>⟨_,v,w,L,h e he k w hs,.inl rfl,Zm0 hs (hp e he _) (fun w2 hs2=>⟨_,w2,h e he k w2 hs2⟩) (h e he k w hs) (.refl _ _),hs,rfl,rfl⟩
theorem Ws{o:Oper}{v:Value}(h:∀(ρe:Operand→Value),(∀x∈o.op.operands,∀u,ev ρ x=some u→ρe x=u)→∀k w,Sat k w L→(execOp ρe o).run P w=.ok (.value v) w)(hp:Z06 o.op=true:=by rfl):QOp P o ρ L v:=
 Vi (fun e _ N=>pl_op e o hp) h
theorem q_move{x:Operand}{v:Value}(hx:ev ρ x=some v):QOp P ⟨d,.move x,ty,pos,af,g⟩ ρ L v:=
 Ws fun ρe he k w hs=>by simp[execOp,he x (by simp[Op.operands]) v hx]
theorem Zty{x:Operand}{v:Value}(hx:ev ρ x=some v):QOp P ⟨d,.assign x,ty,pos,af,g⟩ ρ L v:=
 Ws fun ρe he k w hs=>by simp[execOp,he x (by simp[Op.operands]) v hx]
theorem q_pickt{c x y:Operand}{v:Value}{b:Bool}(hc:ev ρ c=some (.bool b))(hb:b=true)(hx:ev ρ x=some v):QOp P ⟨d,.pick c x y,ty,pos,af,g⟩ ρ L v:=by
 subst hb;exact Ws fun ρe he k w hs=>by simp[execOp,asBool,he c (by simp[Op.operands]) _ hc,he x (by simp[Op.operands]) v hx]
theorem q_pickf{c x y:Operand}{v:Value}{b:Bool}(hc:ev ρ c=some (.bool b))(hb:b=false)(hy:ev ρ y=some v):QOp P ⟨d,.pick c x y,ty,pos,af,g⟩ ρ L v:=by
 subst hb;exact Ws fun ρe he k w hs=>by simp[execOp,asBool,he c (by simp[Op.operands]) _ hc,he y (by simp[Op.operands]) v hy]
theorem Z09{x:Operand}{j:Nat}{vs:List Value}{v:Value}(hx:ev ρ x=some (.tuple ⟨vs⟩))(hv:vs[j]?=some v):QOp P ⟨d,.extract x j,ty,pos,af,g⟩ ρ L v:=
 Ws fun ρe he k w hs=>by simp[execOp,Instr.extract,he x (by simp[Op.operands]) _ hx,hv]
theorem Zws{x:Operand}{p:Addr}(hx:ev ρ x=some (.pointer (some p))):QOp P ⟨d,.nilCheck x,ty,pos,af,g⟩ ρ L (.pointer (some p)):=
 Vi (fun ρe he N=>by simp only[execOp,he x (by simp[Op.operands]) _ hx];exact trivial) fun ρe he k w hs=>by simp[execOp,he x (by simp[Op.operands]) _ hx]
theorem Zmh{f:Nat}{cap:Array Operand}{vs:List Value}(hv:evs ρ cap.toList=some vs):QOp P ⟨d,.makeFunc (.func f) #[] cap,ty,pos,af,g⟩ ρ L (.func (.func f) #[] ⟨vs⟩):=by
 refine Ws fun ρe he k w hs=>?_
 have hm:cap.map ρe=⟨vs⟩:=by
  have key:∀(l:List Operand) (us:List Value),(∀x∈l,∀u,ev ρ x=some u→ρe x=u)→evs ρ l=some us→l.map ρe=us:=by
   intro l
   induction l with
   | nil=>intro us _ h;simp[evs]at h;simp[← h]
   | cons x r ih=>
    intro us hl h
    simp only[evs]at h
    cases hx:ev ρ x with
    | none=>simp[hx]at h
    | some u=>
     cases hr:evs ρ r with
     | none=>simp[hx,hr]at h
     | some us'=>
      simp[hx,hr]at h
      rw[Z2s,hl x (by simp) u hx,ih us' (fun y hy=>hl y (by simp[hy])) hr]
      exact h
  have:=key cap.toList vs (fun x hx=>he x (by simp[Op.operands];exact Z25.1 hx)) hv
  apply Z4r.1
  simpa using this
 simp[execOp,Instr.makeFunc,hm]
end q
end Go.HL
namespace Go.HL
open Go Go.Proofs Go.Proofs.Tryz
def tyL:List (Nat × TyI):=[(1,⟨10,0,0,1,8⟩),(3,⟨2,3,0,1,8⟩),(4,⟨1,0,0,1,1⟩),(5,⟨2,4,0,1,1⟩),(9,⟨3,0,0,1,16⟩),(12,⟨2,7,0,1,8⟩),(20,⟨9,0,0,1,16⟩),(21,⟨2,2,0,1,4⟩),(22,⟨5,3,0,1,24⟩),(26,⟨4,110,0,1,8⟩),(28,⟨9,1,0,1,16⟩),(34,⟨5,131,0,1,24⟩),(37,⟨5,43,0,1,24⟩),(43,⟨7,3,0,3,24⟩),(45,⟨5,81,0,1,24⟩),(50,⟨4,94,0,1,8⟩),(61,⟨5,4,0,1,24⟩),(71,⟨5,162,0,1,24⟩),(76,⟨7,2,0,2,16⟩),(81,⟨7,3,0,3,24⟩),(82,⟨5,22,0,1,24⟩),(83,⟨5,90,0,1,24⟩),(90,⟨7,2,0,2,48⟩),(91,⟨5,145,0,1,24⟩),(92,⟨5,133,0,1,24⟩),(94,⟨7,5,0,5,120⟩),(97,⟨5,9,0,1,24⟩),(107,⟨8,133,4,1,8⟩),(108,⟨5,117,0,1,24⟩),(110,⟨7,5,0,5,104⟩),(111,⟨4,181,0,1,8⟩),(114,⟨4,187,0,1,8⟩),(117,⟨4,122,0,1,8⟩),(118,⟨4,193,0,1,8⟩),(119,⟨6,6,118,6,48⟩),(120,⟨6,6,4,6,6⟩),(122,⟨7,4,0,14,72⟩),(131,⟨7,7,0,9,72⟩),(133,⟨6,2,3,2,16⟩),(141,⟨4,144,0,1,8⟩),(142,⟨5,5,0,1,24⟩),(144,⟨7,4,0,4,40⟩),(145,⟨4,150,0,1,8⟩),(146,⟨4,208,0,1,8⟩),(148,⟨5,209,0,1,24⟩),(150,⟨7,4,0,4,64⟩),(158,⟨4,160,0,1,8⟩),(160,⟨7,2,0,2,24⟩),(162,⟨7,3,0,3,24⟩),(168,⟨5,28,0,1,24⟩),(171,⟨10,1,2,1,8⟩),(181,⟨7,3,0,3,40⟩),(182,⟨4,261,0,1,8⟩),(185,⟨8,3,4,1,8⟩),(187,⟨7,3,0,3,24⟩),(191,⟨6,7,43,21,168⟩),(193,⟨7,10,0,30,264⟩),(203,⟨4,158,0,1,8⟩),(205,⟨4,214,0,1,8⟩),(208,⟨7,3,0,3,40⟩),(209,⟨4,217,0,1,8⟩),(214,⟨7,4,0,4,64⟩),(217,⟨7,9,0,9,112⟩),(228,⟨10,1,2,1,8⟩),(229,⟨0,0,0,1,8⟩),(230,⟨0,0,0,1,8⟩),(232,⟨7,0,0,0,0⟩),(233,⟨7,0,0,0,0⟩),(234,⟨7,0,0,0,0⟩),(235,⟨2,7,0,1,8⟩),(237,⟨7,3,0,1,8⟩),(238,⟨2,6,0,1,4⟩),(240,⟨7,3,0,2,16⟩),(244,⟨7,3,0,4,72⟩),(258,⟨7,2,0,4,32⟩),(259,⟨6,6,258,24,192⟩),(261,⟨7,3,0,26,208⟩),(273,⟨7,3,0,3,24⟩),(276,⟨9,11,0,1,16⟩),(278,⟨2,4,0,1,1⟩),(288,⟨2,7,0,1,8⟩),(289,⟨0,0,0,1,8⟩),(291,⟨7,3,0,11,96⟩),(292,⟨4,240,0,1,8⟩),(298,⟨4,238,0,1,8⟩),(315,⟨6,3,3,3,24⟩),(316,⟨5,315,0,1,24⟩),(323,⟨9,1,0,1,16⟩),(326,⟨9,1,0,1,16⟩),(328,⟨9,1,0,1,16⟩),(330,⟨9,1,0,1,16⟩),(337,⟨2,3,0,1,8⟩),(343,⟨4,237,0,1,8⟩),(345,⟨4,235,0,1,8⟩),(353,⟨4,5,0,1,8⟩),(394,⟨4,396,0,1,8⟩),(396,⟨7,1,0,1,16⟩)]
def flL:List (Nat × Nat × Nat):=[(2752,0,3),(2753,1,3),(2754,2,3),(4864,0,3),(4865,1,3),(5184,0,3),(5185,1,3),(5186,2,3),(5760,0,22),(5761,1,45),(6016,0,22),(6017,1,91),(6018,2,92),(6019,3,34),(6020,4,71),(7040,0,22),(7041,1,108),(7042,2,107),(7043,3,34),(7044,4,45),(7808,0,114),(7809,1,111),(7810,2,119),(7811,8,120),(8384,0,3),(8385,1,3),(8386,2,3),(8387,3,3),(8388,4,3),(8389,5,4),(8390,6,43),(9216,0,9),(9217,1,4),(9218,2,3),(9219,3,4),(9600,0,146),(9601,1,141),(9602,2,148),(9603,3,61),(10240,0,3),(10241,1,28),(10368,0,3),(10369,1,3),(10370,2,3),(11584,0,142),(11585,1,4),(11586,2,3),(11968,0,182),(11969,1,3),(11970,2,185),(12352,0,3),(12353,1,3),(12354,2,3),(12355,3,22),(12356,4,9),(12357,5,3),(12358,6,3),(12359,7,191),(12360,28,3),(12361,29,3),(13312,0,3),(13313,1,205),(13314,2,61),(13696,0,141),(13697,1,22),(13698,2,37),(13699,3,4),(13888,0,3),(13889,1,3),(13890,2,3),(13891,3,22),(13892,4,9),(13893,5,3),(13894,6,34),(13895,7,3),(13896,8,3),(15170,0,235),(15361,0,237),(15362,1,238),(15616,0,3),(15617,1,90),(15618,3,28),(16512,0,3),(16513,1,43),(16704,0,111),(16705,1,259),(16706,25,4),(17472,0,17),(17473,1,270),(17474,2,271),(18624,0,3),(18625,1,131),(18626,10,28),(25344,0,9)]
def zrL:List (Nat × Value):=[(1,.nilFunc),(3,.int .i64 0),(4,.bool false),(5,.int .u8 0),(9,.string ⟨⟨[]⟩⟩),(12,.int .u64 0),(20,.nilIface),(21,.int .i32 0),(22,.slice none 0 0),(26,.pointer none),(28,.nilIface),(34,.slice none 0 0),(37,.slice none 0 0),(43,.agg ⟨[.int .i64 0,.int .i64 0,.int .i64 0]⟩),(45,.slice none 0 0),(50,.pointer none),(61,.slice none 0 0),(71,.slice none 0 0),(76,.agg ⟨[.int .i64 0,.int .i64 0]⟩),(81,.agg ⟨[.int .i64 0,.int .i64 0,.int .i64 0]⟩),(82,.slice none 0 0),(83,.slice none 0 0),(90,.agg ⟨[.slice none 0 0,.slice none 0 0]⟩),(91,.slice none 0 0),(92,.slice none 0 0),(94,.agg ⟨[.slice none 0 0,.slice none 0 0,.slice none 0 0,.slice none 0 0,.slice none 0 0]⟩),(97,.slice none 0 0),(107,.map none),(108,.slice none 0 0),(110,.agg ⟨[.slice none 0 0,.slice none 0 0,.map none,.slice none 0 0,.slice none 0 0]⟩),(111,.pointer none),(114,.pointer none),(117,.pointer none),(118,.pointer none),(119,.agg ⟨[.pointer none,.pointer none,.pointer none,.pointer none,.pointer none,.pointer none]⟩),(120,.agg ⟨[.bool false,.bool false,.bool false,.bool false,.bool false,.bool false]⟩),(122,.agg ⟨[.pointer none,.pointer none,.pointer none,.pointer none,.pointer none,.pointer none,.pointer none,.pointer none,.bool false,.bool false,.bool false,.bool false,.bool false,.bool false]⟩),(131,.agg ⟨[.int .i64 0,.int .i64 0,.int .i64 0,.int .i64 0,.int .i64 0,.bool false,.int .i64 0,.int .i64 0,.int .i64 0]⟩),(133,.agg ⟨[.int .i64 0,.int .i64 0]⟩),(141,.pointer none),(142,.slice none 0 0),(144,.agg ⟨[.string ⟨⟨[]⟩⟩,.bool false,.int .i64 0,.bool false]⟩),(145,.pointer none),(146,.pointer none),(148,.slice none 0 0),(150,.agg ⟨[.pointer none,.pointer none,.slice none 0 0,.slice none 0 0]⟩),(158,.pointer none),(160,.agg ⟨[.int .i64 0,.nilIface]⟩),(162,.agg ⟨[.int .i64 0,.int .i64 0,.int .i64 0]⟩),(168,.slice none 0 0),(171,.nilFunc),(181,.agg ⟨[.slice none 0 0,.bool false,.int .i64 0]⟩),(182,.pointer none),(185,.map none),(187,.agg ⟨[.pointer none,.int .i64 0,.map none]⟩),(191,.agg ⟨[.int .i64 0,.int .i64 0,.int .i64 0,.int .i64 0,.int .i64 0,.int .i64 0,.int .i64 0,.int .i64 0,.int .i64 0,.int .i64 0,.int .i64 0,.int .i64 0,.int .i64 0,.int .i64 0,.int .i64 0,.int .i64 0,.int .i64 0,.int .i64 0,.int .i64 0,.int .i64 0,.int .i64 0]⟩),(193,.agg ⟨[.int .i64 0,.int .i64 0,.int .i64 0,.slice none 0 0,.string ⟨⟨[]⟩⟩,.int .i64 0,.int .i64 0,.int .i64 0,.int .i64 0,.int .i64 0,.int .i64 0,.int .i64 0,.int .i64 0,.int .i64 0,.int .i64 0,.int .i64 0,.int .i64 0,.int .i64 0,.int .i64 0,.int .i64 0,.int .i64 0,.int .i64 0,.int .i64 0,.int .i64 0,.int .i64 0,.int .i64 0,.int .i64 0,.int .i64 0,.int .i64 0,.int .i64 0]⟩),(203,.pointer none),(205,.pointer none),(208,.agg ⟨[.int .i64 0,.pointer none,.slice none 0 0]⟩),(209,.pointer none),(214,.agg ⟨[.pointer none,.slice none 0 0,.slice none 0 0,.bool false]⟩),(217,.agg ⟨[.int .i64 0,.int .i64 0,.int .i64 0,.slice none 0 0,.string ⟨⟨[]⟩⟩,.int .i64 0,.slice none 0 0,.int .i64 0,.int .i64 0]⟩),(228,.nilFunc),(229,.chan none),(230,.chan none),(232,.agg ⟨[]⟩),(233,.agg ⟨[]⟩),(234,.agg ⟨[]⟩),(235,.int .u64 0),(237,.agg ⟨[.int .u64 0]⟩),(238,.int .u32 0),(240,.agg ⟨[.int .u64 0,.int .u32 0]⟩),(244,.agg ⟨[.int .i64 0,.slice none 0 0,.slice none 0 0,.nilIface]⟩),(258,.agg ⟨[.int .i64 0,.int .i64 0,.int .i64 0,.int .i64 0]⟩),(259,.agg ⟨[.int .i64 0,.int .i64 0,.int .i64 0,.int .i64 0,.int .i64 0,.int .i64 0,.int .i64 0,.int .i64 0,.int .i64 0,.int .i64 0,.int .i64 0,.int .i64 0,.int .i64 0,.int .i64 0,.int .i64 0,.int .i64 0,.int .i64 0,.int .i64 0,.int .i64 0,.int .i64 0,.int .i64 0,.int .i64 0,.int .i64 0,.int .i64 0]⟩),(261,.agg ⟨[.pointer none,.int .i64 0,.int .i64 0,.int .i64 0,.int .i64 0,.int .i64 0,.int .i64 0,.int .i64 0,.int .i64 0,.int .i64 0,.int .i64 0,.int .i64 0,.int .i64 0,.int .i64 0,.int .i64 0,.int .i64 0,.int .i64 0,.int .i64 0,.int .i64 0,.int .i64 0,.int .i64 0,.int .i64 0,.int .i64 0,.int .i64 0,.int .i64 0,.bool false]⟩),(273,.agg ⟨[.pointer none,.pointer none,.int .u64 0]⟩),(276,.nilIface),(278,.int .u8 0),(288,.int .u64 0),(289,.chan none),(291,.agg ⟨[.int .i64 0,.int .i64 0,.int .i64 0,.int .i64 0,.int .i64 0,.int .i64 0,.bool false,.int .i64 0,.int .i64 0,.int .i64 0,.nilIface]⟩),(292,.pointer none),(298,.pointer none),(315,.agg ⟨[.int .i64 0,.int .i64 0,.int .i64 0]⟩),(316,.slice none 0 0),(323,.nilIface),(326,.nilIface),(328,.nilIface),(330,.nilIface),(337,.int .i64 0),(343,.pointer none),(345,.pointer none),(353,.pointer none),(394,.pointer none),(396,.agg ⟨[.string ⟨⟨[]⟩⟩]⟩)]
def stL:List (Nat × List (Nat × Nat × Nat)):=[(43,[(0,1,3),(1,1,3),(2,1,3)]),(76,[(0,1,3),(1,1,3)]),(81,[(0,1,3),(1,1,3),(2,1,3)]),(90,[(0,1,22),(1,1,45)]),(94,[(0,1,22),(1,1,91),(2,1,92),(3,1,34),(4,1,71)]),(110,[(0,1,22),(1,1,108),(2,1,107),(3,1,34),(4,1,45)]),(122,[(0,1,114),(1,1,111),(2,6,119),(8,6,120)]),(131,[(0,1,3),(1,1,3),(2,1,3),(3,1,3),(4,1,3),(5,1,4),(6,3,43)]),(144,[(0,1,9),(1,1,4),(2,1,3),(3,1,4)]),(150,[(0,1,146),(1,1,141),(2,1,148),(3,1,61)]),(160,[(0,1,3),(1,1,28)]),(162,[(0,1,3),(1,1,3),(2,1,3)]),(181,[(0,1,142),(1,1,4),(2,1,3)]),(187,[(0,1,182),(1,1,3),(2,1,185)]),(193,[(0,1,3),(1,1,3),(2,1,3),(3,1,22),(4,1,9),(5,1,3),(6,1,3),(7,21,191),(28,1,3),(29,1,3)]),(208,[(0,1,3),(1,1,205),(2,1,61)]),(214,[(0,1,141),(1,1,22),(2,1,37),(3,1,4)]),(217,[(0,1,3),(1,1,3),(2,1,3),(3,1,22),(4,1,9),(5,1,3),(6,1,34),(7,1,3),(8,1,3)]),(232,[]),(233,[]),(234,[]),(237,[(0,0,233),(0,0,234),(0,1,235)]),(240,[(0,0,232),(0,1,237),(1,1,238)]),(244,[(0,1,3),(1,2,90),(3,1,28)]),(258,[(0,1,3),(1,3,43)]),(261,[(0,1,111),(1,24,259),(25,1,4)]),(273,[(0,1,17),(1,1,270),(2,1,271)]),(291,[(0,1,3),(1,9,131),(10,1,28)]),(396,[(0,1,9)])]
def eqL:List (Nat × List Nat):=[(43,[2,2,2]),(76,[2,2]),(81,[2,2,2]),(131,[2,2,2,2,2,1,2,2,2]),(133,[2,2]),(162,[2,2,2]),(258,[2,2,2,2]),(315,[2,2,2])]
theorem stL_ok:(stL.all fun p=>decide (stI prog p.1=some p.2))=true:=by kernel_rfl
theorem tyL_ok:(tyL.all fun p=>decide (tyI prog p.1=some p.2))=true:=by kernel_rfl
theorem flL_ok:(flL.all fun p=>decide (fldI prog (p.1 / 64) (p.1 % 64)=some p.2.1) && decide (fldT prog (p.1 / 64) (p.1 % 64)=some p.2))=true:=by kernel_rfl
theorem zrL_ok:∀p∈zrL,zeroI prog p.1=some p.2:=List.map_inj_left.1 (by kernel_rfl)
theorem eqL_ok:(eqL.all fun p=>decide (Qk prog 8 p.1=some p.2) && Zh2 prog p.1 && !(prog.eqGuardType prog.depth p.1))=true:=by kernel_rfl
def errTab:List (Nat × Nat):=[(6,1),(0,2),(3,3),(4,4),(7,5),(5,6),(8,7),(1,8),(2,9)]
def S:Tab prog:=⟨tyL,flL,zrL,stL,eqL,tyL_ok,flL_ok,zrL_ok,stL_ok,eqL_ok,by kernel_rfl⟩
end Go.HL
