/- Texts laid into one, without what the claim does not use. Conditions: none. -/
import Derived.Test.YtkookaogdkdegacGreatDoorSPK
import Derived.Test.YtkookaogdkdegacGreatDoorCards
import Derived.Test.YtkookaogdkdegacGreatDoorTie
set_option linter.unusedVariables false
set_option linter.unusedSimpArgs false
set_option linter.unusedSectionVars false
set_option maxHeartbeats 4000000
set_option maxRecDepth 100000
namespace Go.Proofs.YtkookaogdkdegacGreatDoor.sidePlays
open Go Go.Proofs Go.ChangeAt Go.ChangeShapes Go.Conc Go.HL Go.RowKit Go.WideShapes Go.Proofs.Tryz
theorem own:ownKnob prog.godebug=none:=by kernel_rfl
theorem Zum:((begin prog (fun _ _=>0) default).world.heap[prog.globals.size+1]?).any (fun o=>match o with|.map _ _=>true|_=>false)=true:=by kernel_rfl
theorem no_cells{W:World}(hSh:W.ShapedOpen prog):prog.globals.size+1<W.heap.size∧∀c E fr,W.heap[prog.globals.size+1]?≠some (.cells c E fr):=by
 have hm:=Zum
 cases h0:(begin prog (fun _ _=>0) default).world.heap[prog.globals.size+1]? with
 | none=>rw[h0]at hm;cases hm
 | some o0=>
  rw[h0]at hm
  have hlt:=(Z2g.1 h0).1
  obtain⟨o,o1,e1,e2,e3⟩:=hSh.2 (prog.globals.size+1) (by omega) hlt
  obtain rfl:o0=o1:=Z39 (h0.symm.trans e2)
  refine⟨(Z2g.1 e1).1,fun c E fr e=>?_⟩
  rw[e1]at e
  cases e
  rw[Z2d (by rw[Nat.add_sub_cancel_left];rfl)]at e3
  cases o0 with
  | map es ck=>exact absurd e3 (by simp[Obj.alike])
  | _=>simp at hm
theorem Zk3{H:Type}:∀l:List (DataW H),l.length≤Rows.uptoBulkAll l∧∀d∈l,Rows.uptoBulk d≤Rows.uptoBulkAll l
 | []=>⟨Z21 _,fun d hd=>by cases hd⟩
 | d::l=>by
  obtain⟨h1,h2⟩:=Zk3 l
  have h3:1≤Rows.uptoBulk d:=by
   cases d with
   | lit x=>cases x<;>simp[Rows.uptoBulk]
   | _=>simp[Rows.uptoBulk]
  simp only[Rows.uptoBulkAll,Z2y,Z2h]
  refine⟨by omega,fun q hq=>?_⟩
  rcases hq with rfl|hq
  ·omega
  ·have:=h2 q hq;omega
def Sm{H:Type}(d:DataW H):Prop:=Rows.uptoBulk d≤1048576
theorem Zmx{H:Type}(l r:List (DataW H))(h:Sm (.slice l r)):l.length≤1048576∧∀d∈l,Sm d:=by
 unfold Sm at*
 simp only[Rows.uptoBulk]at h
 obtain⟨h1,h2⟩:=Zk3 l
 exact⟨by omega,fun d hd=>by have:=h2 d hd;omega⟩
theorem Zyt{H:Type}{enc:TypeId × Value→H}{W:World}{spare:Nat→Bool}{held:Bool}(n:Nat)(cs:List Value)(x:DataW H × List MemPlace)(h:DataW.trod enc prog W 0 spare held n 3 cs=some x):∃z:Int,cs=ic z∧z≤9223372036854775807:=by
 obtain⟨z,e,-,hw⟩:=DataW.trod_int underlying3 h
 exact⟨z,e,(by simpa[Lit.wf,IntKind.min,IntKind.max,IntKind.signed,IntKind.bits] using hw:-9223372036854775808≤z∧z≤9223372036854775807).2⟩
theorem contract(H:Type)(enc:TypeId × Value→H)(W:World)(base:Nat)(args:Array Value)(ds gs:List (DataW H))(before:List MemPlace)
  (hval:∀(j:Nat) t v,Tryz.f12.params[j]?=some t→args[j]?=some v→Value.okWide prog W .any base t v)
  (hW:DataW.Whole enc prog Tryz.f12.params.toList Rows.sidePlaysSpec.vars false W args.toList ds gs before)(hL:laidMetH prog Rows.sidePlaysUptoRow.laid W)(hSh:W.ShapedOpen prog)(hk:Rows.uptoSmall H (ds++gs)=true):
  ∃M last o w' t',runNT prog (M+1) (solo (G (Frame.enter prog 12 args .normal) []) W) #[]=(.ended o w',t')∧runN prog M (solo (G (Frame.enter prog 12 args .normal) []) W)=.next last∧
   step prog last=.ended o w'∧Conc.Good prog (fun v W'=>Rows.sidePlaysSpec.post enc prog Tryz.f12 false true false false W args v W') last o w' t':=by
 have hW':=hW
 obtain⟨p,q,hA0,hV,rfl,hfz,hnd⟩:=hW
 have hA:DataW.TrodAll enc prog W 0 (fun _=>true) true Tryz.f12.params.toList args.toList ds p:=hA0
 rw[Tryz.params12]at hA hval
 obtain⟨v0,vs0,d0,ds0,p0,q0,hargs,rfl,rfl,h0,r0⟩:=trodAll_cons hA
 obtain⟨v1,vs1,d1,ds1,p1,q1,rfl,rfl,rfl,h1,r1⟩:=trodAll_cons r0
 obtain⟨v2,vs2,d2,ds2,p2,q2,rfl,rfl,rfl,h2,r2⟩:=trodAll_cons r1
 obtain⟨rfl,rfl,rfl⟩:=trodAll_nil r2
 obtain rfl:args=#[v0,v1,v2]:=by cases args;simp_all
 obtain⟨rfl,rfl⟩:=trodVars_none hV
 have hb0:=(Zk3 [d0,d1,d2]).2
 have hb1:Rows.uptoBulkAll [d0,d1,d2]≤1048576:=Z5v hk
 have s0:Sm d0:=Z68 (hb0 d0 (by simp)) hb1
 have s1:Sm d1:=Z68 (hb0 d1 (by simp)) hb1
 letI tasks0:Tasks:=noTasks W
 obtain⟨a0,n0,c0,rfl⟩:=okWide_slice underlying22 (hval 0 _ v0 rfl rfl)
 obtain⟨a1,n1,c1,rfl⟩:=okWide_slice underlying82 (hval 1 _ v1 rfl rfl)
 obtain⟨g0,h0⟩:=h0
 obtain⟨g1,h1⟩:=h1
 obtain⟨aw,capw,w,e0,hR,hx0,-,-⟩:=Zl6 Zmx underlying22 (sz:=1) (by kernel_rfl) (by decide) h0 s0 (fun z:Int=>z≤9223372036854775807) (fun n cs x h _=>Zyt n cs x h)
 obtain⟨a,cap,xs,e1,hS,hS2,-,-⟩:=Zl6 Zmx underlying82 (sz:=1) (by kernel_rfl) (by decide) h1 s1 (encV:=se) (fun s:Sc=>Rd ic 1 [We W] s.a s.ns∧s.ns.length≤s.c∧s.ns.length≤1048576∧∀v∈s.ns,v≤9223372036854775807) (fun n cs x h hs=>by
  obtain⟨a,cap,ns,e,h1,h2,h3,h4⟩:=Zl6 Zmx underlying22 (sz:=1) (by kernel_rfl) (by decide) h hs (fun z:Int=>z≤9223372036854775807) (fun n cs x h _=>Zyt n cs x h)
  exact⟨⟨a,ns,cap⟩,e,h1,h3,h4,h2⟩)
 obtain⟨rfl,rfl,rfl⟩:a0=aw∧n0=w.length∧c0=capw:=by simpa[Value.cells] using e0
 obtain⟨rfl,rfl,rfl⟩:a1=a∧n1=xs.length∧c1=cap:=by simpa[Value.cells] using e1
 obtain⟨z,rfl,rfl,rfl,w1⟩:=open_int underlying3 (hval 2 _ v2 rfl rfl) h2
 have hL':laidMet prog (Zo4 [1,2,3,4,5,6,7,8,9]) W∧handlesMet prog handL W:=hL
 obtain⟨E,hE⟩:=ez_of hL'.1 hL'.2
 obtain⟨hb,hn⟩:=no_cells hSh
 have hE2:letI:=sideTasks W w (xs.map fun s:Sc=>s.ns);Ez 394 E [We W]:=@Ez.mk (sideTasks W w (xs.map fun s:Sc=>s.ns)) _ _ _ hE.ty hE.errs hE.blk hE.one hE.et
 have hR2:letI:=sideTasks W w (xs.map fun s:Sc=>s.ns);Rd ic 1 [We W] a0 w:=hR
 have hS3:letI:=sideTasks W w (xs.map fun s:Sc=>s.ns);Rd se 1 [We W] a1 xs:=hS
 have hS4:letI:=sideTasks W w (xs.map fun s:Sc=>s.ns);∀s∈xs,Rd ic 1 [We W] s.a s.ns∧s.ns.length≤s.c∧s.ns.length≤1048576∧∀v∈s.ns,v≤9223372036854775807:=hS2
 obtain⟨M,last,o,w',t',e1,e2,e3,e4⟩:=side_run (W:=W) (E:=E) (w:=w) (xs:=xs) (wk:=z) (aw:=a0) (a:=a1) (capw:=c0) (cap:=c1) hb hn hE2 hR2 hS3 hS4
 refine⟨M,last,o,w',t',e1,e2,e3,e4.mono fun v ⟨hv,hbl⟩=>?_⟩
 subst hv
 exact post_law (by kernel_rfl) (by decide +kernel) hW' hbl rfl rfl rfl underlying4
theorem laid_met(os:Os):laidMetH prog Rows.sidePlaysUptoRow.laid ((layH os [1,2,3,4,5,6,7,8,9]).forCall (fun _ _=>0) ⟨#[],#[.slice none 0 0,.slice none 0 0,.int .i64 0],[]⟩).memory:=laidMetH_of_parts (Zqg (laid:=Zo4 [1,2,3,4,5,6,7,8,9]) _ (by kernel_rfl) (by kernel_rfl)) (by kernel_rfl)
theorem reads(os:Os){H:Type}(enc:TypeId × Value→H):∃places,DataW.whole enc prog ((layH os [1,2,3,4,5,6,7,8,9]).forCall (fun _ _=>0) ⟨#[],#[.slice none 0 0,.slice none 0 0,.int .i64 0],[]⟩).memory Tryz.f12.params.toList Rows.sidePlaysSpec.vars false (#[.slice none 0 0,.slice none 0 0,.int .i64 0]:Array Value).toList 8=some ([.nil,.nil,.lit (.int .i64 0)],[],places):=
 ⟨[],by kernel_rfl⟩
theorem lifted(os:Os)(started:os.Started)(H:Type)(enc:TypeId × Value→H)(F:Stop.Interp):
  ReturnsInLeavingWide {} Tryz.checked os 12 .any ((Rows.OpenSpec.upto Rows.sidePlaysSpec).preRow enc prog Tryz.f12 Rows.sidePlaysUptoRow.domain false Rows.sidePlaysUptoRow.laid) (((Rows.OpenSpec.upto Rows.sidePlaysSpec).at F).post enc prog Tryz.f12 false true false false):=by
 obtain⟨places,hx⟩:=reads os enc
 refine Zlq (C:=Tryz.checked) (s:=Rows.OpenSpec.upto Rows.sidePlaysSpec) own started func12
  (witness_row_at (enc:=enc) (C:=Tryz.checked) false (layH os [1,2,3,4,5,6,7,8,9]) #[.slice none 0 0,.slice none 0 0,.int .i64 0] (layH_os _ _) (by kernel_rfl) (by kernel_rfl) (by kernel_rfl)
   (OpenSpec.preRow_of_cond 8 hx (by kernel_rfl) (fun k hk=>by cases hk;rfl) (by kernel_rfl) (laid_met os))) ?_
 intro W base args ds gs before hval hW hL hSh hk
 exact contract H enc W base args ds gs before hval hW hL hSh (hk _ rfl)
theorem closed:joinedFacts Tryz.pinned.checked.prog 12 Tryz.f12 Rows.sidePlaysSpec Rows.sidePlaysUptoRow=true:=by
 unfold joinedFacts
 repeat' with_reducible refine and_mk ?_ ?_
 all_goals as_aux_lemma=>kernel_rfl
theorem said:Rows.SidePlaysUptoSaid:=
 Zf1 12 Tryz.f12 rfl rfl rfl rfl rfl rfl rfl ⟨rfl,rfl,rfl,rfl,rfl⟩ rfl rfl rfl rfl rfl (by as_aux_lemma=>kernel_rfl) func12 closed
  (Z5v (by as_aux_lemma=>kernel_rfl)) (by unfold Func.isWrapper;first|(rw[Z2d (by decide +kernel)];kernel_rfl)|(rw[Z16 (by decide +kernel)];exact⟨rfl,rfl⟩))
  (fun os started H enc _ F=>by rw[OpenClaim.pre_eq_preRow];exact lifted os started H enc F)
theorem plain(f:FuncId)(fn:Func)(hf:Tryz.pinned.checked.prog.funcNamed "threefold/threefoldlaw3.SidePlays" = some f)(hfn:Tryz.pinned.checked.prog.funcs[f]?=some fn):
  true=Tryz.pinned.checked.prog.looks []∧∀(j:Nat) t,fn.params[j]?=some t→Tryz.pinned.checked.prog.wantsStandIn t=false:=by
 obtain rfl:f=12:=Z39 ((show prog.funcNamed "threefold/threefoldlaw3.SidePlays" = some 12 by as_aux_lemma=>kernel_rfl).symm.trans hf) |>.symm
 obtain rfl:fn=Tryz.f12:=(Z39 (func12.symm.trans hfn)).symm
 refine⟨by as_aux_lemma=>kernel_rfl,fun j t ht=>?_⟩
 have hm:t∈Tryz.f12.params:=Z64 ht
 have hall:(Tryz.f12.params.toList.all fun t => !prog.wantsStandIn t)=true:=by as_aux_lemma=>kernel_rfl
 have h9:=Z2u.1 hall t (Z25.2 hm)
 have h8:prog.wantsStandIn t=false:=by simpa using h9
 exact h8
theorem proved:Rows.SidePlaysUptoCardSaid:=
 Zju .later [] _ _ _ _ _ said (fun _ h=>by cases h) (by as_aux_lemma=>kernel_rfl) (fun _ h=>by cases h) sidePlaysUpto_row_tie rfl ⟨rfl,rfl⟩ (by as_aux_lemma=>kernel_rfl) rfl plain (by as_aux_lemma=>kernel_rfl)
#print axioms proved
end Go.Proofs.YtkookaogdkdegacGreatDoor.sidePlays
