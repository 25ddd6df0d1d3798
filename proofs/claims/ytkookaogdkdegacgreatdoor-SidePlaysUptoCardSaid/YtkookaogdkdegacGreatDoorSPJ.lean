/- Texts laid into one, without what the claim does not use. Conditions: none. -/
import Derived.Test.YtkookaogdkdegacGreatDoorSPN
import Derived.ProofKit
import Derived.OpenShut
import Derived.Deep.DeepHandedRow
import Derived.Stop.LaidErr
import Derived.LaidLaws
import Derived.Lay
import Derived.MakeChecks
import Derived.LaidHandle
import Derived.Conc.CrowdTrace
import Derived.Conc.CrowdSel
set_option linter.unusedVariables false
set_option linter.unusedSimpArgs false
set_option linter.unusedSectionVars false
set_option maxHeartbeats 4000000
set_option maxRecDepth 100000
namespace Go.HL
open Go Go.Proofs Go.ChangeAt Go.ChangeShapes Go.RowKit Go.WideShapes Go.Proofs.Tryz
variable[Tasks]
theorem Zof{P:Program}{W:World}{n:String}{g:Nat}{v:Value}(hg:P.globalNamed n=some g)(h:W.var? P n=some #[v]):Gl [We W] g v:=by
 unfold World.var? at h
 simp only[hg,Option.bind_some]at h
 split at h
 ·rename_i c E fr hh
  cases h
  exact⟨[v],E,_,Zle hh,rfl⟩
 ·cases h
theorem Zza: "*" ++ "errors.errorString" = "*errors.errorString" := by decide
theorem row_es(u:TypeId)(h:prog.typeName? 3 u=some "*errors.errorString"):u=394:=
 typeName_ptr_named (nm:= "errors.errorString") (by rw[Zza];kernel_rfl) (by kernel_rfl) (by decide) u (by rw[Zza];exact h)
def Zqi:Nat→String
 | 1=> "threefold/api.ErrText"
 | 2=> "threefold/api.ErrBound"
 | 3=> "threefold/api.ErrShape"
 | 4=> "threefold/api.ErrNone"
 | 5=> "threefold/api.ErrFull"
 | 6=> "threefold/api.ErrOff"
 | 7=> "threefold/api.ErrSum"
 | 8=> "threefold/api.ErrHeld"
 | _=> "threefold/api.ErrSplit"
def Zhs:List UInt8:=[116,104,114,101,101,102,111,108,100,58,32]
def Zd7:Nat→List UInt8
 | 1=>Zhs++[116,101,120,116]
 | 2=>Zhs++[98,111,117,110,100]
 | 3=>Zhs++[115,104,97,112,101]
 | 4=>Zhs++[110,111,110,101]
 | 5=>Zhs++[102,117,108,108]
 | 6=>Zhs++[111,102,102]
 | 7=>Zhs++[115,117,109]
 | 8=>Zhs++[104,101,108,100]
 | _=>Zhs++[115,112,108,105,116]
def Zo4(cs:List Nat):List (String × DataW Unit):=cs.map fun c=>(Zqi c,.iface "*errors.errorString" (.ptr (.agg [.lit (.string (Zd7 c))])))
theorem Zv2{P:Program}{n nm:String}{text:List UInt8}{r:List (String × DataW Unit)}{W:World}{g:Nat}{ti tp te ts:TypeId}{ms:Array (String × TypeId)}{f:Field}
  (h:laidMet P ((n,.iface nm (.ptr (.agg [.lit (.string text)])))::r) W)
  (hg:P.globalNamed n=some g)(ht:(P.globals[g]?).map (·.type)=some ti)(hi:P.underlying ti=some (.interface ms))(hrow:∀u,P.typeName? 3 u=some nm→u=tp)
  (hp:P.underlying tp=some (.pointer te))(he:P.underlying te=some (.struct #[f]))(hft:f.type=ts)(hfo:f.offset=0)(hs:P.underlying ts=some .string)(hc:P.cellsOf te=1)(hcs:P.cellsOf ts=1):
  ∃(a:Addr) (c:Array Value) (t:TypeId),Gl [We W] g (.iface tp (.pointer (some a)))∧W.cell? a=some (bs text)∧Has [We W] a.block (.cells c t rfr):=by
 obtain⟨ps,⟨g0,t0,cs0,f0,p0,q0,hg0,ht0,hv0,hd0,_,e0⟩,_,hrows⟩:=h
 obtain rfl:=Z39 (hg.symm.trans hg0)
 obtain rfl:=Z39 (ht.symm.trans ht0)
 subst e0
 obtain⟨l0⟩:=cs0
 have ok0:∀u v,l0=[.iface u v]→Value.okWide P W .any 0 u v:=fun u v e=>by
  subst e
  exact(hrows g 0 (by simp[MemPlace.row])).2 u v (by simpa using World.var?_cell hg0 hv0 0)
 obtain⟨a0,s0,rfl,hc0,hs0,hz0,rfl⟩:=errorString_of_trod hi hrow hp he hft hfo hs hc hcs hd0 ok0
 obtain⟨c0,t0,hb0⟩:=(hrows a0.block a0.off (by simp[MemPlace.row])).1
 refine⟨a0,c0,t0,Zof hg hv0,?_,Zle hb0⟩
 rw[hc0]
 obtain⟨⟨s0⟩⟩:=s0
 simp only at hs0
 subst hs0
 rfl
theorem Zv3{n:String}{text:List UInt8}{r:List (String × DataW Unit)}{W:World}{g:Nat}
  (h:laidMet prog ((n,.iface "*errors.errorString" (.ptr (.agg [.lit (.string text)])))::r) W)(hg:prog.globalNamed n=some g)(ht:(prog.globals[g]?).map (·.type)=some 28):
  ∃(a:Addr) (c:Array Value) (t:TypeId),Gl [We W] g (.iface 394 (.pointer (some a)))∧W.cell? a=some (bs text)∧Has [We W] a.block (.cells c t rfr):=
 Zv2 h hg ht underlying28 row_es underlying394 underlying396 rfl rfl underlying9 (by kernel_rfl) (by kernel_rfl)
def Zu7(W:World)(c:Nat)(a:Addr):Prop:=(∀g,prog.globalNamed (Zqi c)=some g→Gl [We W] g (.iface 394 (.pointer (some a))))∧W.cell? a=some (bs (Zd7 c))∧∃l t,Has [We W] a.block (.cells l t rfr)
theorem sents{W:World}:∀(cs:List Nat),laidMet prog (Zo4 cs) W→(∀c∈cs,∃g,prog.globalNamed (Zqi c)=some g∧(prog.globals[g]?).map (·.type)=some 28)→∀c∈cs,∃a,Zu7 W c a
 | [],_,_,c,hc=>by cases hc
 | x::cs,h,hn,c,hc=>by
  rcases Z2h.1 hc with rfl|hc
  ·obtain⟨g,hg,ht⟩:=hn c (by simp)
   obtain⟨a,l,t,h1,h2,h3⟩:=Zv3 h hg ht
   refine⟨a,fun g' hg'=>?_,h2,l,t,h3⟩
   obtain rfl:=Z39 (hg.symm.trans hg')
   exact h1
  ·exact sents cs h.tail (fun y hy=>hn y (by simp[hy])) c hc
theorem Zoa:(errTab.all fun p=>decide (prog.globalNamed (Zqi p.2)=some p.1) && decide ((prog.globals[p.1]?).map (·.type)=some 28))=true:=by kernel_rfl
theorem errs_of{W:World}{cs:List Nat}(h:laidMet prog (Zo4 cs) W)(hm:(cs.all fun c=>errTab.any fun p=>Nat.beq p.2 c)=true:=by rfl):
  ∃E,Er 394 E cs [We W]∧∀c∈cs,Zu7 W c (E c):=by
 have h1:=sents cs h (fun c hc=>by
  obtain⟨p,hp,he⟩:=Z4l.1 (Z2u.1 hm c hc)
  have h2:=Z2u.1 Zoa p hp
  simp only[Z27,Z3r]at h2
  rw[Z2a he]at h2
  exact⟨p.1,h2.1,h2.2⟩)
 have h2:∀c,∃a,c∈cs→Zu7 W c a:=fun c=>by
  by_cases hc:c∈cs
  ·obtain⟨a,ha⟩:=h1 c hc
   exact⟨a,fun _=>ha⟩
  ·exact⟨⟨0,0,none⟩,fun h=>absurd h hc⟩
 refine⟨fun c=>Classical.choose (h2 c),fun g c hg hc=>?_,fun c hc=>Classical.choose_spec (h2 c) hc⟩
 have hcm:c∈cs:=Z5o.1 hc
 have h3:=Classical.choose_spec (h2 c) hcm
 have h4:=Z2u.1 Zoa (g,c) (Zcy hg)
 simp only[Z27,Z3r]at h4
 exact h3.1 g h4.1
def handL:List (String × DataW Unit):=[("errors.errorType",.iface "internal/reflectlite.rtype" (.agg [.ptr (.lit (.string [101,114,114,111,114]))]))]
theorem hd_et:prog.globalNamed "errors.errorType" = some 9:=by kernel_rfl
theorem hd_rt:(prog.cutTypes.find? (·.1 == "internal/reflectlite.rtype")).map (·.2)=some 319:=by kernel_rfl
theorem hd_row:((List.range 434).filter fun t=>prog.rowNamed t [101,114,114,111,114])=[28]:=by kernel_rfl
theorem hd_size:prog.types.size=434:=by kernel_rfl
theorem Zz5:typeHandle prog 28=.pointer (some ⟨23,28,none⟩):=by kernel_rfl
theorem Zz4{W:World}(h:handlesMet prog handL W):Gl [We W] 9 (.iface 319 (.agg #[.pointer (some ⟨23,28,none⟩)])):=by
 obtain⟨name,u,ty,e1,e2,e3,e4,e5⟩:=h _ (Z3j.2 rfl)
 have en:name=[101,114,114,111,114]:=(Z39 e1).symm
 subst en
 obtain rfl:=Z39 (hd_rt.symm.trans e2)
 have hm:ty∈(List.range 434).filter fun t=>prog.rowNamed t [101,114,114,111,114]:=Z3s.2 ⟨Z4w.2 (by rw[← hd_size];exact e3),e4⟩
 rw[hd_row]at hm
 obtain rfl:=Z3j.1 hm
 rw[Zz5]at e5
 exact Zof hd_et e5
theorem text_inj{c c':Nat}(h:List.elem c all9=true)(h':List.elem c' all9=true)(e:Zd7 c=Zd7 c'):c=c':=by
 have key:(all9.all fun c=>all9.all fun c'=>decide (Zd7 c=Zd7 c'→c=c'))=true:=by decide +kernel
 have h1:=Z2u.1 (Z2u.1 key c (Z5o.1 h)) c' (Z5o.1 h')
 exact Z5v h1 e
theorem ez_of{W:World}{l:List Nat}(hs:laidMet prog (Zo4 l) W)(hh:handlesMet prog handL W)(hl:(all9.all fun c=>l.elem c)=true:=by rfl)(hm:(l.all fun c=>errTab.any fun p=>Nat.beq p.2 c)=true:=by rfl):∃E,Ez 394 E [We W]:=by
 obtain⟨E,hG,hE⟩:=errs_of hs hm
 have hmem:∀c,List.elem c all9=true→c∈l:=fun c hc=>Z5o.1 (Z2u.1 hl c (Z5o.1 hc))
 refine⟨E,rfl,hG.sub hl,fun c hc=>let ⟨l,t,h⟩:=(hE c (hmem c hc)).2.2;⟨_,t,.inr h⟩,fun c c' hc hc' e=>?_,Zz4 hh⟩
 have h1:=(hE c (hmem c hc)).2.1
 have h2:=(hE c' (hmem c' hc')).2.1
 rw[e,h2]at h1
 have h3:Zd7 c'=Zd7 c:=by
  have:=Z39 h1
  simp only[Value.string.injEq,ByteArray.mk.injEq,Array.mk.injEq]at this
  exact this
 exact text_inj hc hc' h3.symm
end Go.HL
namespace Go.HL
open Go Go.Proofs Go.ChangeShapes Go.WideShapes Go.ChangeAt Go.RowKit Go.Proofs.Tryz
theorem Zqg{P:Program}{w0:World}{laid:List (String × DataW Unit)}(args:Array Value)(hf:w0.layFits P laid []=true)(hi:w0.layIfaces P laid (w0.layVars P laid)=true):
  laidMet P laid ((w0.layVars P laid).forCall (fun _ _=>0) ⟨#[],args,[]⟩).memory:=by
 have e1:(laid.filter fun x=>(laid.map (·.1)).contains x.1)=laid:=List.filter_eq_self.2 fun x hx=>List.contains_iff_mem.2 (Z2v.2 ⟨x,hx,rfl⟩)
 have e2:(laid.filter fun x => !(laid.map (·.1)).contains x.1)=[]:=Z60.2 fun x hx=>by rw[List.contains_iff_mem.2 (Z2v.2 ⟨x,hx,rfl⟩)];simp
 have h:laidMet P laid (w0.layVars P laid):=laidMet_layVars (w0:=w0) (laid.map (·.1)) [] (by rw[e1]) (by rw[e1];exact hf) (by rw[e1];exact hi) (by rw[e2];exact LaidIn.none)
 exact h.of_heap (by simp[World.memory,World.forCall,Input.heap])
noncomputable def w0H(os:Os):World:=
 let w:=World.holding prog os ⟨#[],#[],[]⟩
 { w with heap:=w.heap.modify 9 fun
   | .cells _ t frozen=>.cells #[.iface 319 (.agg #[.pointer (some ⟨23,28,none⟩)])] t frozen
   | o=>o }
noncomputable def layH(os:Os)(l:List Nat):World:=(w0H os).layVars prog (Zo4 l)
theorem layH_os(os:Os)(l:List Nat):(layH os l).os=os:=World.layVars_os _ _ _
end Go.HL
namespace Go.HL
open Go Go.Proofs Go.Conc Go.Proofs.Tryz
variable[Tasks]
def onB(l:Loc)(b:Nat):Prop:=l=.obj b∨∃a,l=.cell a∧a.block=b
theorem Zki{l:Loc}{b c:Nat}(h:onB l b)(h':onB l c):b=c:=by
 rcases h with rfl|⟨a,rfl,rfl⟩<;>rcases h' with h'|⟨a',h',rfl⟩<;>cases h'<;>rfl
theorem onB_mem{l:Loc}(h:l.isMemory=true):∃b,onB l b:=by
 cases l with
 | cell a=>exact⟨_,.inr ⟨a,rfl,rfl⟩⟩
 | obj b=>exact⟨_,.inl rfl⟩
 | _=>simp[Loc.isMemory]at h
def Kno(p:Touch→Prop)(t:Trace)(g b:Nat):Prop:=∀i a,touchAt t i=some a→onB a.loc b→p a→Knows t g i
abbrev KAll:=Kno fun _=>True
abbrev KWr:=Kno fun a=>a.write=true
abbrev KPn:=Kno fun a=>a.kind=.plain
theorem Kno.imp{p q:Touch→Prop}{t:Trace}{g b:Nat}(h:Kno p t g b)(hq:∀a,q a→p a):Kno q t g b:=fun i a h1 h2 h3=>h i a h1 h2 (hq a h3)
theorem W4{t u:Trace}{i:Nat}{a:Touch}(h:touchAt (t++u) i=some a):(i<t.size∧touchAt t i=some a)∨∃op∈u,(t++u)[i]?=some op∧op.act.touch?=some a:=by
 obtain⟨x,hx,hxa⟩:=touch_of h
 rcases getElem?_append_cases hx with⟨hi,hx'⟩|⟨_,hxu⟩
 ·exact .inl ⟨hi,by rw[touchAt_of hx'];exact hxa⟩
 ·exact .inr ⟨x,hxu,hx,hxa⟩
theorem Kno.app{p:Touch→Prop}{t u:Trace}{g b:Nat}(h:Kno p t g b)(hu:∀op∈u,∀a,op.act.touch?=some a→onB a.loc b→p a→op.g=g):Kno p (t++u) g b:=by
 intro i a ha hb hp
 rcases W4 ha with⟨_,h1⟩|⟨op,h1,h2,h3⟩
 ·exact(h i a h1 hb hp).app u
 ·have:=knows_own h2
  rwa [hu op h1 a h3 hb hp]at this
theorem Kno.pass{p:Touch→Prop}{t u:Trace}{g g' b:Nat}(h:Kno p t g b)(hk:∀i,Knows t g i→Knows (t++u) g' i)(hu:∀op∈u,op.act.touch?=none):Kno p (t++u) g' b:=by
 intro i a ha hb hp
 rcases W4 ha with⟨_,h1⟩|⟨op,h1,h2,h3⟩
 ·exact hk i (h i a h1 hb hp)
 ·rw[hu op h1]at h3;cases h3
theorem Zte{said:Bool}{t u:Trace}(h:¬ Race said t)(hu:∀op∈u,op.act.touch?=none):¬ Race said (t++u):=by
 rintro⟨i,j,hij,⟨a,b,ha,hb,hc⟩,n1,n2⟩
 rcases W4 (show touchAt (t++u) j=some b from hb)with⟨hj,h1⟩|⟨op,h1,_,h3⟩
 ·have hi:i<t.size:=Nat.lt_trans hij hj
  refine h ⟨i,j,hij,⟨a,b,?_,h1,hc⟩,fun e=>n1 (hb_app u e),fun e=>n2 (hb_app u e)⟩
  show touchAt t i=some a
  rw[← touchAt_old (u:=u) hi];exact ha
 ·rw[hu op h1]at h3;cases h3
structure TI(t:Trace)(n N:Nat)(Lf:Nat→Za)(sh:Nat→Prop)(pt:Nat→Prop):Prop where
 nr:∀said,¬ Race said t
 g:∀(i:Nat) (op:MemOp),t[i]?=some op→op.g<n
 lt:∀i a b,touchAt t i=some a→onB a.loc b→b<N
 own:∀j b,InW (Lf j) b→KAll t j b
 rd:∀j b,InB (Lf j) b→KWr t j b
 shp:∀j b,pt j→sh b→KPn t j b
 shs:∀i a,touchAt t i=some a→a.kind=.said→t.g? i=some 0
 rel:∀i a,t.act? i≠some (.mark (.release a))
def OkT(L:Za)(N M:Nat)(sh:Nat→Prop)(j:Nat)(op:MemOp):Prop:=
 op.g=j∧(∀a,op.act≠.mark (.release a))∧∀a,op.act.touch?=some a→a.loc.isMemory=true∧(a.kind=.said→j=0)∧∀b,onB a.loc b→b<M∧((sh b∧(a.kind=.atomic∨a.kind=.said∧j=0))∨(if a.write then InW L b∨N≤b else InB L b∨N≤b))
theorem TI.step{t u:Trace}{n N M j:Nat}{Lf Lf':Nat→Za}{sh pt:Nat→Prop}(h:TI t n N Lf sh pt)(hj:j<n)(hM:N≤M)(hg:Gr0 N (Lf j) (Lf' j))(ho:∀i,i≠j→Lf' i=Lf i)
  (dis:∀i b,i≠j→InW (Lf i) b→¬ InB (Lf j) b)(dis2:∀i b,i≠j→InW (Lf j) b→¬ InB (Lf i) b)(hsh:∀i b,sh b→¬ InB (Lf i) b)(hlt:∀i b,InB (Lf i) b→b<N)(shlt:∀b,sh b→b<N)
  (hu:∀op∈u,OkT (Lf j) N M (fun b=>sh b∧pt j) j op):TI (t++u) n M Lf' sh pt:=by
 have ug:∀op∈u,op.g=j:=fun op hop=>(hu op hop).1
 refine⟨fun said=>noRace_append (h.nr said) ug (fun i a ha op hop b hb hc=>?_),fun i op hi=>?_,fun i a b ha hb=>?_,fun i b hw=>?_,fun i b hw=>?_,fun i b hi hs=>?_,fun i a ha hk=>?_,fun i a=>?_⟩
 ·obtain⟨hmem,_,hB⟩:=(hu op hop).2.2 b hb
  obtain⟨c,hc'⟩:=onB_mem hmem
  have hac:onB a.loc c:=by rw[hc.1];exact hc'
  have hcN:c<N:=h.lt i a c ha hac
  rcases (hB c hc').2 with⟨⟨hs,hp⟩,hk⟩|hw
  ·rcases hk with hk|⟨hk,hj0⟩
   ·have hap:a.kind=.plain:=by
     rcases hc.2.2.2 with e|e|e
     ·exact e
     ·rw[hk]at e;cases e
     ·rw[hk]at e;cases e.2.2
    exact h.shp j c hp hs i a ha hac hap
   ·cases hkd:a.kind with
    | plain=>exact h.shp j c hp hs i a ha hac hkd
    | atomic=>rcases hc.2.2.2 with e|e|e<;>simp_all
    | said=>
     have:=h.shs i a ha hkd
     obtain⟨op',h1,h2⟩:=Z28.1 this
     have h3:=knows_own h1
     rw[h2]at h3
     rw[hj0];exact h3
  ·cases hbw:b.write with
   | true=>
    rw[hbw,Z2d rfl]at hw
    exact h.own j c (hw.resolve_right (by omega)) i a ha hac trivial
   | false=>
    rw[hbw,Z16 (by simp)]at hw
    exact h.rd j c (hw.resolve_right (by omega)) i a ha hac (hc.2.2.1.resolve_right (by simp[hbw]))
 ·rcases getElem?_append_cases hi with⟨_,hi'⟩|⟨_,hiu⟩
  ·exact h.g i op hi'
  ·rw[ug op hiu];exact hj
 ·rcases W4 ha with⟨_,h1⟩|⟨op,h1,_,h3⟩
  ·exact Z3k (h.lt i a b h1 hb) hM
  ·exact(((hu op h1).2.2 a h3).2.2 b hb).1
 ·by_cases e:i=j
  ·subst e
   rcases hg.w b hw with hw|hw
   ·exact(h.own i b hw).app fun op hop _ _ _ _=>ug op hop
   ·exact fun i' a ha hb _=>by
     rcases W4 ha with⟨_,h1⟩|⟨op,h1,h2,_⟩
     ·have:=h.lt i' a b h1 hb;omega
     ·have:=knows_own h2;rwa [ug op h1]at this
  ·rw[ho i e]at hw
   refine(h.own i b hw).app fun op hop a ha hb _=>?_
   rcases (((hu op hop).2.2 a ha).2.2 b hb).2 with⟨⟨hs,_⟩,_⟩|hx
   ·exact absurd hw.b (hsh i b hs)
   ·have hbN:=hlt i b hw.b
    exfalso
    split at hx
    ·exact dis i b e hw (hx.resolve_right (by omega)).b
    ·exact dis i b e hw (hx.resolve_right (by omega))
 ·by_cases e:i=j
  ·subst e
   rcases hg.b b hw with hw|hw
   ·exact(h.rd i b hw).app fun op hop _ _ _ _=>ug op hop
   ·exact fun i' a ha hb _=>by
     rcases W4 ha with⟨_,h1⟩|⟨op,h1,h2,_⟩
     ·have:=h.lt i' a b h1 hb;omega
     ·have:=knows_own h2;rwa [ug op h1]at this
  ·rw[ho i e]at hw
   refine(h.rd i b hw).app fun op hop a ha hb hwr=>?_
   rcases (((hu op hop).2.2 a ha).2.2 b hb).2 with⟨⟨hs,_⟩,_⟩|hx
   ·exact absurd hw (hsh i b hs)
   ·have hbN:=hlt i b hw
    exfalso
    rw[hwr,Z2d rfl]at hx
    exact dis2 i b e (hx.resolve_right (by omega)) hw
 ·refine(h.shp i b hi hs).app fun op hop a ha hb hk=>?_
  rcases (((hu op hop).2.2 a ha).2.2 b hb).2 with⟨_,hx⟩|hx
  ·rcases hx with hx|⟨hx,_⟩<;>rw[hk]at hx<;>cases hx
  ·have hbN:=shlt b hs
   exfalso
   split at hx
   ·exact hsh j b hs (hx.resolve_right (by omega)).b
   ·exact hsh j b hs (hx.resolve_right (by omega))
 ·rcases W4 ha with⟨hi,h1⟩|⟨op,h1,h2,h3⟩
  ·rw[g?_old hi];exact h.shs i a h1 hk
  ·have:=((hu op h1).2.2 a h3).2.1 hk
   simp[Trace.g?,h2,ug op h1,this]
 ·intro e
  obtain⟨op,h1,h2⟩:=Z28.1 e
  rcases getElem?_append_cases h1 with⟨_,h3⟩|⟨_,h3⟩
  ·exact h.rel i a (by rw[act?_of h3,h2])
  ·exact(hu op h3).2.1 a h2
theorem TI.mute{t u:Trace}{n n' N:Nat}{Lf Lf':Nat→Za}{sh pt sh' pt':Nat→Prop}(h:TI t n N Lf sh pt)(hn:n≤n')(hu:∀op∈u,op.act.touch?=none∧op.g<n'∧∀a,op.act≠.mark (.release a))
  (own:∀j b,InW (Lf' j) b→KAll (t++u) j b)(rd:∀j b,InB (Lf' j) b→KWr (t++u) j b)(shp:∀j b,pt' j→sh' b→KPn (t++u) j b):TI (t++u) n' N Lf' sh' pt':=by
 refine⟨fun said=>Zte (h.nr said) fun op hop=>(hu op hop).1,fun i op hi=>?_,fun i a b ha hb=>?_,own,rd,shp,fun i a ha hk=>?_,fun i a e=>?_⟩
 ·rcases getElem?_append_cases hi with⟨_,hi'⟩|⟨_,hiu⟩
  ·exact Z3k (h.g i op hi') hn
  ·exact(hu op hiu).2.1
 ·rcases W4 ha with⟨_,h1⟩|⟨op,h1,_,h3⟩
  ·exact h.lt i a b h1 hb
  ·rw[(hu op h1).1]at h3;cases h3
 ·rcases W4 ha with⟨hi,h1⟩|⟨op,h1,_,h3⟩
  ·rw[g?_old hi];exact h.shs i a h1 hk
  ·rw[(hu op h1).1]at h3;cases h3
 ·obtain⟨op,h1,h2⟩:=Z28.1 e
  rcases getElem?_append_cases h1 with⟨_,h3⟩|⟨_,h3⟩
  ·exact h.rel i a (by rw[act?_of h3,h2])
  ·exact(hu op h3).2.2 a h2
theorem Kno.mute{p:Touch→Prop}{t u:Trace}{g b:Nat}(h:Kno p t g b)(hu:∀op∈u,op.act.touch?=none):Kno p (t++u) g b:=h.app fun op hop a ha=>by rw[hu op hop]at ha;cases ha
theorem Zld{t u:Trace}{g g' c k p q:Nat}{x y:MemOp}(hp:t.size≤p)(hx:(t++u)[p]?=some x)(hxg:x.g=g)(hxa:x.act=.send c k)(hy:(t++u)[q]?=some y)(hyg:y.g=g')(hya:y.act=.recvDone c k)
  (h1:(t++u).heard p)(h2:(t++u).heard q){i:Nat}(h:Knows t g i):Knows (t++u) g' i:=
 ⟨q,y,hy,hyg,.inr ((h.hb_new hp hx hxg).trans (.single (.inr ⟨.handOver (c:=c) (k:=k) (by rw[act?_of hx,hxa]) (by rw[act?_of hy,hya]),h1,h2⟩)))⟩
theorem TI.less{t:Trace}{n N:Nat}{Lf:Nat→Za}{sh pt sh' pt':Nat→Prop}(h:TI t n N Lf sh pt)(hs:∀b,sh' b→sh b)(hp:∀j,pt' j→pt j):TI t n N Lf sh' pt':=
 ⟨h.nr,h.g,h.lt,h.own,h.rd,fun j b a c=>h.shp j b (hp j a) (hs b c),h.shs,h.rel⟩
theorem TI.heap{t:Trace}{n N:Nat}{Lf Lf':Nat→Za}{sh pt:Nat→Prop}(h:TI t n N Lf sh pt)(hw:∀j b,InW (Lf' j) b→InW (Lf j) b)(hb:∀j b,InB (Lf' j) b→InB (Lf j) b):TI t n N Lf' sh pt:=
 ⟨h.nr,h.g,h.lt,fun j b a=>h.own j b (hw j b a),fun j b a=>h.rd j b (hb j b a),h.shp,h.shs,h.rel⟩
/-! ### what a step lists -/
theorem Y6{j:Nat}{fn:FuncId}{pos:String}{es:Array Event}{op:MemOp}(h:op∈MemOp.ofEvents j fn pos es):∃e∈es,op={ g:=j,fn:=fn,pos:=pos,act:=.ofEvent e }:=by
 rw[Z43]at h
 obtain⟨e,h1,h2⟩:=Array.mem_map.1 h
 exact⟨e,h1,h2.symm⟩
theorem okT_ev{L:Za}{N M j:Nat}{sh:Nat→Prop}{fn:FuncId}{pos:String}{e:Event}(h:EvIn (InB L) (InW L) N e)(hl:EvLt M e):OkT L N M sh j { g:=j,fn:=fn,pos:=pos,act:=.ofEvent e }:=by
 obtain⟨loc,wr,sy⟩:=e
 rcases h with⟨b,hb,hx⟩|⟨m,hm,hp⟩
 ·have hon:onB loc b:=hb
  have key:∀a,MemAct.touch? (.access ⟨loc,wr,sy⟩)=some a→a.loc.isMemory=true∧(a.kind=.said→j=0)∧∀b,onB a.loc b→b<M∧((sh b∧(a.kind=.atomic∨a.kind=.said∧j=0))∨(if a.write then InW L b∨N≤b else InB L b∨N≤b)):=by
   intro a ha
   simp only[MemAct.touch?,Z5u]at ha
   subst ha
   refine⟨?_,fun hk=>?_,fun c hc=>⟨hl c hc,.inr ?_⟩⟩
   ·rcases hon with rfl|⟨a,rfl,_⟩<;>rfl
   ·cases sy<;>cases hk
   ·rw[Zki hc hon];exact hx
  rcases hb with hb|⟨a,hb,_⟩
  ·simp only at hb;subst hb
   cases wr<;>cases sy
   ·exact⟨rfl,fun a e=>(by cases e),key⟩
   ·exact⟨rfl,fun a e=>(by cases e),key⟩
   ·exact⟨rfl,fun a e=>(by cases e),key⟩
   ·exact⟨rfl,fun a e=>(by cases e),fun a e=>(by cases e)⟩
  ·simp only at hb;subst hb
   exact⟨rfl,fun a e=>(by cases e),key⟩
 ·cases hm
  rcases hp with rfl|⟨f,rfl⟩<;>exact⟨rfl,fun a e=>(by cases e),fun a e=>(by cases e)⟩
theorem Zti{L:Za}{N M j:Nat}{sh:Nat→Prop}{fn:FuncId}{pos:String}{m:Mark}(h:(MemAct.mark m).touch?=none)(hr:∀a,m≠.release a):OkT L N M sh j { g:=j,fn:=fn,pos:=pos,act:=.ofEvent (Wt m) }:=
 ⟨rfl,fun a e=>hr a (by cases e;rfl),fun a e=>by
  have:(MemAct.ofEvent (Wt m))=.mark m:=rfl
  rw[this,h]at e;cases e⟩
theorem okT_cell{L:Za}{N M j:Nat}{sh:Nat→Prop}{fn:FuncId}{pos:String}{a:Addr}{wr:Bool}(hs:sh a.block)(hM:a.block<M):OkT L N M sh j { g:=j,fn:=fn,pos:=pos,act:=.ofEvent ⟨.cell a,wr,true⟩ }:=
 ⟨rfl,fun a e=>(by cases e),fun x e=>by
  cases e
  exact⟨rfl,fun hk=>(by cases hk),fun b hb=>by
   have:b=a.block:=Zki hb (.inr ⟨a,rfl,rfl⟩)
   subst this
   exact⟨hM,.inl ⟨hs,.inl rfl⟩⟩⟩⟩
theorem Ztj{L:Za}{N M j:Nat}{sh:Nat→Prop}{fn:FuncId}{pos:String}{a:Addr}{m:Mark}(h:m=.read a∨m=.write a)(hs:sh a.block)(hM:a.block<M)(hj:j=0):OkT L N M sh j { g:=j,fn:=fn,pos:=pos,act:=.ofEvent (Wt m) }:=by
 refine⟨rfl,fun b e=>?_,fun x e=>?_⟩
 ·rcases h with rfl|rfl<;>cases e
 ·rcases h with rfl|rfl<;>cases e<;>exact⟨rfl,fun _=>hj,fun b hb=>by
   have:b=a.block:=Zki hb (.inr ⟨a,rfl,rfl⟩)
   subst this
   exact⟨hM,.inl ⟨hs,.inr ⟨rfl,hj⟩⟩⟩⟩
theorem okT_mv{L:Za}{N M j:Nat}{fn:FuncId}{pos:String}{sh:Nat→Prop}{t t':Tk}{γ γ':Gm}{es:Array Event}(m:Mv t γ t' γ' es)(h1:sh γ.wg)(h2:sh γ.todo)(h3:γ.wg<M)(h4:γ.todo<M)(h0:t.st≤12→j=0):∀op∈MemOp.ofEvents j fn pos es,OkT L N M sh j op:=by
 intro op hop
 obtain⟨e,he,rfl⟩:=Y6 hop
 cases m<;>simp only[Z50,Z2h,Z4m,Z6j]at he
 all_goals (first|(rcases he with rfl|rfl|rfl|rfl)|(rcases he with rfl|rfl)|subst he|exact absurd he (by simp))
 all_goals (first
  | exact okT_cell h1 h3
  | exact Zti rfl (fun a e=>by cases e)
  | exact Ztj (.inl rfl) h1 h3 (h0 (by omega))
  | exact Ztj (.inr rfl) h1 h3 (h0 (by omega))
  | skip)
 ·refine⟨rfl,fun a e=>(by cases e),fun x e=>?_⟩
  cases e
  exact⟨rfl,fun hk=>(by cases hk),fun b hb=>by
   have:b=γ.todo:=Zki hb (.inl rfl)
   subst this
   exact⟨h4,.inl ⟨h2,.inl rfl⟩⟩⟩
 ·exact⟨rfl,fun a e=>(by cases e),fun x e=>(by cases e)⟩
end Go.HL
namespace Go.HL
open Go Go.Proofs Go.Proofs.Tryz
variable[Tasks]
def Vw(t:Tk):Bool:=Nat.ble 20 t.st && Nat.ble t.st 24
def Zp9(t:Tk):Bool:=t.st == 21
def Qq(t:Tk):Bool:=t.st == 27
def Qr(t:Tk):Bool:=t.st == 28
def Zdk(ts:List Tk):List Nat:=(ts.filter Zp9).map (·.a)
def Ph(γ:Gm)(tm:Tk)(ts:List Tk):Prop:=
  ((tm.st=0∨tm.st=1∨tm.st=2∨tm.st=3)∧γ.closed=false∧γ.wt=0∧γ.sem=0∧(∀t∈ts,t.st=20∨t.st=21∨t.st=25)∧ts.countP Vw=tm.n∧γ.cnt=tm.n+(if 2≤tm.st then 1 else 0)∧List.Perm (Zdk ts) tm.l∧tm.a=tm.b+tm.l.length∧tm.a≤tm.many∧∀t∈ts,t.st≠25→t.b≤tm.a)∨
  ((tm.st=5∨tm.st=6∨tm.st=7)∧γ.closed=true∧γ.wt=0∧γ.sem=0∧(∀t∈ts,t.st=20∨t.st=22∨t.st=23∨t.st=24∨t.st=25)∧γ.cnt=ts.countP Vw∧(if tm.st=7 then γ.cnt≤tm.a∧1≤tm.a else γ.cnt≤tm.b))∨
  (tm.st=9∧γ.closed=true∧(∀t∈ts,t.st≠21)∧
    ((γ.wt=1∧γ.sem=0∧1≤γ.cnt∧γ.cnt=ts.countP Vw∧ts.countP Qq=0∧ts.countP Qr=0)∨(γ.wt=1∧γ.sem=0∧γ.cnt=0∧ts.countP Vw=0∧ts.countP Qq=1∧ts.countP Qr=0)∨
     (γ.wt=0∧γ.sem=0∧γ.cnt=0∧ts.countP Vw=0∧ts.countP Qq=0∧ts.countP Qr=1)∨(γ.wt=0∧γ.sem=1∧γ.cnt=0∧ts.countP Vw=0∧ts.countP Qq=0∧ts.countP Qr=0)))∨
  ((tm.st=8∨tm.st=10∨tm.st=11)∧γ.closed=true∧γ.cnt=0∧γ.wt=0∧γ.sem=0∧∀t∈ts,t.st=25)∨
  (tm.st=12∧∀t∈ts,t.st=25)
structure Toks(γ:Gm)(tm:Tk)(ts:List Tk):Prop where
 same:∀t∈ts,t.st≠25→t.todo=tm.todo∧t.back=tm.back∧t.wg=tm.wg∧t.tag=tm.tag∧t.many=tm.many
 sts:∀t∈ts,t.st=20∨t.st=21∨t.st=22∨t.st=23∨t.st=24∨t.st=25∨t.st=27∨t.st=28
 main:tm.st≠12→tm.todo=γ.todo∧tm.back=γ.back∧tm.wg=γ.wg
 le:γ.cnt≤1000
 ph:Ph γ tm ts
theorem Zew{α:Type}{l:List α}{j:Nat}{x:α}(h:l[j]?=some x):∃a b,l=a++x::b∧(∀y,l.set j y=a++y::b)∧a.length=j:=by
 induction l generalizing j with
 | nil=>simp at h
 | cons z l ih=>
  cases j with
  | zero=>simp at h;subst h;exact⟨[],l,rfl,fun _=>rfl,rfl⟩
  | succ j=>
   obtain⟨a,b,h1,h2,h3⟩:=ih (by simpa using h)
   exact⟨z::a,b,by rw[h1];rfl,fun y=>by simp[h2],by simp[h3]⟩
theorem Zcp{ts:List Tk}{p:Tk→Bool}{t:Tk}(h:t∈ts)(hp:p t=true):1≤ts.countP p:=Z7k.2 ⟨t,h,hp⟩
theorem Toks.cmpM{γ:Gm}{tm:Tk}{ts:List Tk}(h:Toks γ tm ts)(h12:tm.st≠12):Ziq tm γ:=by
 obtain⟨h1,h2,h3⟩:=h.main h12
 refine⟨h1,h2,h3,h.le,?_⟩
 rcases h.ph with⟨hs,a,b,c,d,e,f,g⟩|⟨hs,a,b,c,d,e,f⟩|⟨hs,a,n21,hd⟩|⟨hs,a,b,c,d,e⟩|⟨hs,_⟩
 ·rcases hs with hs|hs|hs|hs<;>simp[Cm,hs]at f ⊢ <;> exact⟨f,b,c,a⟩
 ·rcases hs with hs|hs|hs<;>simp[Cm,hs]at f ⊢ <;> (first|exact⟨f,b,c,a⟩|exact⟨f.1,f.2,b,c,a⟩)
 ·simp[Cm,hs,a]
  omega
 ·rcases hs with hs|hs|hs<;>simp[Cm,hs,a,b,c,d]
 ·exact absurd hs h12
theorem Toks.up{γ:Gm}{tm:Tk}{ts:List Tk}(h:Toks γ tm ts){t:Tk}(ht:t∈ts)(h25:t.st≠25):tm.st≠12:=by
 intro h12
 rcases h.ph with⟨hs,_⟩|⟨hs,_⟩|⟨hs,_⟩|⟨hs,_⟩|⟨_,hs⟩
 ·omega
 ·omega
 ·omega
 ·omega
 ·exact h25 (hs t ht)
theorem Toks.cmpW{γ:Gm}{tm:Tk}{ts:List Tk}(h:Toks γ tm ts){t:Tk}(ht:t∈ts)(h25:t.st≠25):Ziq t γ:=by
 have h12:=h.up ht h25
 obtain⟨h1,h2,h3⟩:=h.main h12
 obtain⟨e1,e2,e3,_,_⟩:=h.same t ht h25
 refine⟨e1.trans h1,e2.trans h2,e3.trans h3,h.le,?_⟩
 have hu:20≤t.st→t.st≤24→1≤ts.countP Vw:=fun x y=>Zcp ht (by simp[Vw,Nat.ble_eq,x,y])
 have h27:t.st=27→1≤ts.countP Qq:=fun x=>Zcp ht (by simp[Qq,x])
 have h28:t.st=28→1≤ts.countP Qr:=fun x=>Zcp ht (by simp[Qr,x])
 rcases h.sts t ht with e|e|e|e|e|e|e|e
 ·simp[Cm,e]
 ·simp[Cm,e]
 all_goals (try exact absurd e h25)
 all_goals (
  simp only[Cm,e]
  rcases h.ph with⟨hs,a,b,c,d,f⟩|⟨hs,a,b,c,d,f,g⟩|⟨hs,a,n21,hd⟩|⟨hs,a,b,c,d,f⟩|⟨hs,f⟩
  ·have:=d t ht;omega
  ·have:=d t ht
   first
    | (have:=hu (by omega) (by omega);exact⟨by omega,by omega,by omega,a⟩)
    | omega
  ·first
    | (have:=hu (by omega) (by omega);exact⟨by omega,by omega,by omega,a⟩)
    | (have:=h27 e;exact⟨by omega,by omega,by omega,a⟩)
    | (have:=h28 e;exact⟨by omega,by omega,by omega,a⟩)
  ·have:=f t ht;omega
  ·have:=f t ht;omega)
theorem busy_nil{ts:List Tk}(h:Zdk ts=[]):∀t∈ts,t.st≠21:=by
 intro t ht e
 have:t.a∈Zdk ts:=Z2v.2 ⟨t,Z3s.2 ⟨ht,by simp[Zp9,e]⟩,rfl⟩
 rw[h]at this;cases this
theorem all25{ts:List Tk}(h:∀t∈ts,t.st=20∨t.st=21∨t.st=22∨t.st=23∨t.st=24∨t.st=25∨t.st=27∨t.st=28)(h0:ts.countP Vw=0)(h1:ts.countP Qq=0)(h2:ts.countP Qr=0):∀t∈ts,t.st=25:=by
 intro t ht
 rw[Z5k]at h0 h1 h2
 have a0:=h0 t ht
 have a1:=h1 t ht
 have a2:=h2 t ht
 simp[Vw,Qq,Qr,Nat.ble_eq]at a0 a1 a2
 have:=h t ht
 omega
theorem Toks.mainMv{γ γ':Gm}{tm tm':Tk}{ts:List Tk}{es:Array Event}(h:Toks γ tm ts)(h12:tm.st≠12)(m:Mv tm γ tm' γ' es):Toks γ' tm' ts:=by
 have hph:=h.ph
 have hle:=h.le
 have hmain:=h.main h12
 cases m
 case idle=>exact h
 all_goals (refine⟨h.same,h.sts,fun _=>h.main h12,?_,?_⟩)
 all_goals (try exact hle)
 all_goals (
  rcases hph with⟨hs,a,b,c,d,e,f,g1,g2,g3⟩|⟨hs,a,b,c,d,e,f⟩|⟨hs,a,n21,hd⟩|⟨hs,a,b,c,d,e⟩|⟨hs,_⟩
  <;> (try (exfalso;omega)))
 case add.refine_1.inl h1 h2=>simp[h1]at f;show γ.cnt+1≤1000;omega
 case dis0.refine_2.inl h1=>simp[h1]at f;exact .inl ⟨by simp,a,b,c,d,e,by simp[f],g1,g2,g3⟩
 case add.refine_2.inl h1 h2=>simp[h1]at f;exact .inl ⟨by simp,a,b,c,d,e,by simp[f],g1,g2,g3⟩
 case read.refine_2.inl h1=>exact .inl ⟨.inr (.inr (.inl h1)),a,b,c,d,e,f,g1,g2,g3⟩
 case en2.refine_2.inl h1=>simp[h1]at f;exact .inl ⟨by simp,a,b,c,d,e,by simp[f],g1,g2,g3⟩
 case close.refine_2.inl h1 h2=>
  simp[h1]at f
  rw[h2]at g1
  have hb:=busy_nil g1.eq_nil
  exact .inr (.inl ⟨.inl rfl,rfl,b,c,fun t ht=>by have:=d t ht;have:=hb t ht;omega,by show γ.cnt=_;omega,by simp[f]⟩)
 case dis5.refine_2.inr.inl h1=>simp[h1]at f;exact .inr (.inl ⟨.inr (.inl rfl),a,b,c,d,e,by simpa using f⟩)
 case zero.refine_2.inr.inl h1 h2=>
  refine .inr (.inr (.inr (.inl ⟨.inl rfl,a,h2,b,c,fun t ht=>?_⟩)))
  have hu:¬ (20≤t.st∧t.st≤24):=fun hx=>by
   have:=Zcp (p:=Vw) ht (by simp[Vw,Nat.ble_eq,hx.1,hx.2])
   omega
  have:=d t ht
  omega
 case load.refine_2.inr.inl h1 h2=>exact .inr (.inl ⟨.inr (.inr rfl),a,b,c,d,e,by simp[h2]⟩)
 case reg.refine_2.inr.inl h1 h2=>
  simp[h1]at f
  refine .inr (.inr (.inl ⟨rfl,a,fun t ht=>by have:=d t ht;omega,.inl ⟨rfl,c,by show 1≤γ.cnt;omega,e,?_,?_⟩⟩))
  ·rw[Z5k];intro t ht;have:=d t ht;simp[Qq];omega
  ·rw[Z5k];intro t ht;have:=d t ht;simp[Qr];omega
 case fail.refine_2.inr.inl h1 h2=>exact .inr (.inl ⟨.inr (.inl rfl),a,b,c,d,e,by simp;omega⟩)
 case write.refine_2.inr.inr.inl h1=>exact .inr (.inr (.inl ⟨hs,a,n21,hd⟩))
 case acq.refine_2.inr.inr.inl h1 h2=>
  have hd':γ.wt=0∧γ.cnt=0∧ts.countP Vw=0∧ts.countP Qq=0∧ts.countP Qr=0:=by omega
  exact .inr (.inr (.inr (.inl ⟨.inr (.inl rfl),a,hd'.2.1,hd'.1,rfl,all25 h.sts hd'.2.2.1 hd'.2.2.2.1 hd'.2.2.2.2⟩)))
 case look.refine_2.inr.inr.inr.inl h1=>exact .inr (.inr (.inr (.inl ⟨hs,a,b,c,d,e⟩)))
 case en8.refine_2.inr.inr.inr.inl h1=>exact .inr (.inr (.inr (.inl ⟨.inr (.inr rfl),a,b,c,d,e⟩)))
 case join.refine_2.inr.inr.inr.inl h1=>exact .inr (.inr (.inr (.inr ⟨rfl,e⟩)))
/-! ### a worker's -/
theorem Toks.setW{γ γ':Gm}{tm tm' t t':Tk}{ts:List Tk}{j:Nat}(h:Toks γ tm ts)(hj:ts[j]?=some t)(h25:t.st≠25)
  (hs:t'.todo=t.todo∧t'.back=t.back∧t'.wg=t.wg∧t'.tag=t.tag∧t'.many=t.many)
  (hs':t'.st=20∨t'.st=21∨t'.st=22∨t'.st=23∨t'.st=24∨t'.st=25∨t'.st=27∨t'.st=28)
  (hm:tm'.todo=tm.todo∧tm'.back=tm.back∧tm'.wg=tm.wg∧tm'.tag=tm.tag∧tm'.many=tm.many∧tm'.st=tm.st)(hg:γ'.todo=γ.todo∧γ'.back=γ.back∧γ'.wg=γ.wg)(hc:γ'.cnt≤γ.cnt)(hp:Ph γ' tm' (ts.set j t')):Toks γ' tm' (ts.set j t'):=by
 have ht:t∈ts:=Z3a hj
 have e:=h.same t ht h25
 refine⟨fun x hx h5=>?_,fun x hx=>?_,fun h12=>?_,Z68 hc h.le,hp⟩
 ·rcases Z4v hx with hx|rfl
  ·have:=h.same x hx h5
   exact⟨this.1.trans hm.1.symm,this.2.1.trans hm.2.1.symm,this.2.2.1.trans hm.2.2.1.symm,this.2.2.2.1.trans hm.2.2.2.1.symm,this.2.2.2.2.trans hm.2.2.2.2.1.symm⟩
  ·exact⟨(hs.1.trans e.1).trans hm.1.symm,(hs.2.1.trans e.2.1).trans hm.2.1.symm,(hs.2.2.1.trans e.2.2.1).trans hm.2.2.1.symm,(hs.2.2.2.1.trans e.2.2.2.1).trans hm.2.2.2.1.symm,(hs.2.2.2.2.trans e.2.2.2.2).trans hm.2.2.2.2.1.symm⟩
 ·rcases Z4v hx with hx|rfl
  ·exact h.sts x hx
  ·exact hs'
 ·have:=h.main (by rw[← hm.2.2.2.2.2];exact h12)
  exact⟨(hm.1.trans this.1).trans hg.1.symm,(hm.2.1.trans this.2.1).trans hg.2.1.symm,(hm.2.2.1.trans this.2.2).trans hg.2.2.symm⟩
theorem W7(p:Tk→Bool)(a b:List Tk)(t:Tk):(a++t::b).countP p=a.countP p+b.countP p+(if p t=true then 1 else 0):=by
 rw[List.countP_append,List.countP_cons];omega
theorem Zcz{a b:List Tk}{t t' x:Tk}(h:x∈a++t'::b):x=t'∨x∈a++t::b:=by
 simp only[Z2f,Z2h]at h ⊢
 rcases h with h|h|h
 ·exact .inr (.inl h)
 ·exact .inl h
 ·exact .inr (.inr (.inr h))
theorem Zk4(a b:List Tk)(t:Tk):Zdk (a++t::b)=Zdk a++((if Zp9 t then [t.a] else [])++Zdk b):=by
 simp only[Zdk,Z6b,List.filter_cons,Z20]
 split<;>simp
theorem Toks.take{γ:Gm}{tm t:Tk}{ts:List Tk}{j:Nat}(h:Toks γ tm ts)(hm:tm.st=0)(hj:ts[j]?=some t)(ht:t.st=20)(ha:tm.a<tm.many):Toks γ { tm with a:=tm.a+1,l:=tm.a::tm.l } (ts.set j { t with st:=21,a:=tm.a,b:=tm.a+1 }):=by
 refine h.setW hj (by omega) ⟨rfl,rfl,rfl,rfl,rfl⟩ (by simp) ⟨rfl,rfl,rfl,rfl,rfl,rfl⟩ ⟨rfl,rfl,rfl⟩ (Z21 _) ?_
 obtain⟨a,b,rfl,hset,_⟩:=Zew hj
 rw[hset]
 rcases h.ph with⟨hs,a1,b1,c1,d1,e1,f1,g1,g2,g3⟩|⟨hs,_⟩|⟨hs,_⟩|⟨hs,_⟩|⟨hs,_⟩<;>(try (exfalso;omega))
 refine .inl ⟨hs,a1,b1,c1,fun x hx=>?_,?_,f1,?_,by simp;omega,by simp;omega,fun x hx h5=>?_⟩
 ·rcases Zcz (t:=t) hx with rfl|hx
  ·exact .inr (.inl rfl)
  ·exact d1 x hx
 ·rw[W7]at e1 ⊢
  simp[Vw,ht]at e1 ⊢
  exact e1
 ·rw[Zk4]at g1 ⊢
  simp[Zp9,ht]at g1 ⊢
  exact List.perm_middle.trans (g1.cons _)
 ·rcases Zcz (t:=t) hx with rfl|hx
  ·exact Z21 _
  ·exact Z68 (g3.2 x hx h5) (Nat.le_succ _)
theorem Toks.give{γ:Gm}{tm t:Tk}{ts:List Tk}{j:Nat}(h:Toks γ tm ts)(hm:tm.st=0)(hj:ts[j]?=some t)(ht:t.st=21):t.a∈tm.l∧Toks γ { tm with b:=tm.b+1,l:=tm.l.erase t.a } (ts.set j { t with st:=20 }):=by
 obtain⟨a,b,e,hset,_⟩:=Zew hj
 rcases h.ph with⟨hs,a1,b1,c1,d1,e1,f1,g1,g2,g3⟩|⟨hs,_⟩|⟨hs,_⟩|⟨hs,_⟩|⟨hs,_⟩<;>(try (exfalso;omega))
 have hb:Zdk ts=Zdk a++([t.a]++Zdk b):=by rw[e,Zk4];simp[Zp9,ht]
 have hl:List.Perm (t.a::(Zdk a++Zdk b)) tm.l:=by
  refine List.Perm.trans ?_ g1
  rw[hb]
  exact List.perm_middle.symm
 have hmem:t.a∈tm.l:=hl.mem_iff.1 (by simp)
 refine⟨hmem,h.setW hj (by omega) ⟨rfl,rfl,rfl,rfl,rfl⟩ (by simp) ⟨rfl,rfl,rfl,rfl,rfl,rfl⟩ ⟨rfl,rfl,rfl⟩ (Z21 _) ?_⟩
 rw[hset]
 refine .inl ⟨hs,a1,b1,c1,fun x hx=>?_,?_,f1,?_,?_,g3.1,fun x hx h5=>?_⟩
 ·rcases Zcz (t:=t) hx with rfl|hx
  ·exact .inl rfl
  ·exact d1 x (e▸hx)
 ·rw[e,W7]at e1
  rw[W7]
  simp[Vw,ht]at e1 ⊢
  exact e1
 ·rw[Zk4]
  simp only[Zp9,Nat.reduceBEq,Z2r,Z3h,Z2b]
  have:=hl.erase t.a
  simpa using this
 ·simp only[Z6o hmem]
  have:1≤tm.l.length:=Z57.2 (List.ne_nil_of_mem hmem)
  omega
 ·rcases Zcz (t:=t) hx with rfl|hx
  ·exact g3.2 t (e▸Z2q _ (Z6c ..)) (by omega)
  ·exact g3.2 x (e▸hx) h5
theorem Toks.low{γ:Gm}{tm t:Tk}{ts:List Tk}(h:Toks γ tm ts)(hm:tm.st=0)(ht:t∈ts)(h25:t.st≠25):t.b≤tm.a:=by
 rcases h.ph with⟨hs,a1,b1,c1,d1,e1,f1,g1,g2,g3⟩|⟨hs,_⟩|⟨hs,_⟩|⟨hs,_⟩|⟨hs,_⟩<;>(try (exfalso;omega))
 exact g3.2 t ht h25
theorem Toks.shut{γ:Gm}{tm t:Tk}{ts:List Tk}{j:Nat}(h:Toks γ tm ts)(hc:γ.closed=true)(hj:ts[j]?=some t)(ht:t.st=20):Toks γ tm (ts.set j { t with st:=22 }):=by
 refine h.setW hj (by omega) ⟨rfl,rfl,rfl,rfl,rfl⟩ (by simp) ⟨rfl,rfl,rfl,rfl,rfl,rfl⟩ ⟨rfl,rfl,rfl⟩ (Z21 _) ?_
 obtain⟨a,b,e,hset,_⟩:=Zew hj
 have hmem:t∈ts:=Z3a hj
 rw[hset]
 have cu:(a++{ t with st:=22 }::b).countP Vw=ts.countP Vw:=by rw[e,W7,W7];simp[Vw,ht]
 have c27:(a++{ t with st:=22 }::b).countP Qq=ts.countP Qq:=by rw[e,W7,W7];simp[Qq,ht]
 have c28:(a++{ t with st:=22 }::b).countP Qr=ts.countP Qr:=by rw[e,W7,W7];simp[Qr,ht]
 rcases h.ph with⟨hs,a1,_⟩|⟨hs,a1,b1,c1,d1,e1,f1⟩|⟨hs,a1,n21,hd⟩|⟨hs,_,_,_,_,e1⟩|⟨hs,e1⟩
 ·rw[a1]at hc;cases hc
 ·refine .inr (.inl ⟨hs,a1,b1,c1,fun x hx=>?_,by rw[cu];exact e1,f1⟩)
  rcases Zcz (t:=t) hx with rfl|hx
  ·simp
  ·exact d1 x (e▸hx)
 ·refine .inr (.inr (.inl ⟨hs,a1,fun x hx=>?_,by rw[cu,c27,c28];exact hd⟩))
  rcases Zcz (t:=t) hx with rfl|hx
  ·simp
  ·exact n21 x (e▸hx)
 ·have:=e1 t hmem;omega
 ·have:=e1 t hmem;omega
theorem Toks.late{γ γ':Gm}{tm t t':Tk}{ts:List Tk}{j:Nat}{es:Array Event}(h:Toks γ tm ts)(hj:ts[j]?=some t)(h25:t.st≠25)(m:Mv t γ t' γ' es∨t.st=22∧t'={ t with st:=23 }∧γ'=γ):Toks γ' tm (ts.set j t'):=by
 have hmem:t∈ts:=Z3a hj
 obtain⟨a,b,e,hset,_⟩:=Zew hj
 have hst:=h.sts t hmem
 have key:∀(x:Tk),(∀p,(a++x::b).countP p=a.countP p+b.countP p+(if p x=true then 1 else 0)):=fun x p=>W7 p a b x
 have k0:=key t
 rw[← e]at k0
 have hall:∀{Q:Tk→Prop} {x:Tk},(∀y∈ts,Q y)→Q x→∀y∈a++x::b,Q y:=fun hq hx y hy=>by
  rcases Zcz (t:=t) hy with rfl|hy
  ·exact hx
  ·exact hq y (e▸hy)
 have fin:∀(t':Tk) (γ':Gm),(t'.todo=t.todo∧t'.back=t.back∧t'.wg=t.wg∧t'.tag=t.tag∧t'.many=t.many)→(t'.st=20∨t'.st=21∨t'.st=22∨t'.st=23∨t'.st=24∨t'.st=25∨t'.st=27∨t'.st=28)→(γ'.todo=γ.todo∧γ'.back=γ.back∧γ'.wg=γ.wg)→γ'.cnt≤γ.cnt→Ph γ' tm (a++t'::b)→Toks γ' tm (ts.set j t'):=fun t' γ' h1 h2 h3 h4 h5=>
  h.setW hj h25 h1 h2 ⟨rfl,rfl,rfl,rfl,rfl,rfl⟩ h3 h4 (by rw[hset];exact h5)
 have k1:=k0 Vw
 have k2:=k0 Qq
 have k3:=k0 Qr
 rcases m with m|⟨h22,rfl,rfl⟩
 ·cases m
  case idle=>rw[hset,← e];exact h
  all_goals (try (exfalso;omega))
  case dis23 h1=>
   refine fin _ _ ⟨rfl,rfl,rfl,rfl,rfl⟩ (by simp) ⟨rfl,rfl,rfl⟩ (Z21 _) ?_
   simp[Vw,Qq,Qr,h1]at k1 k2 k3
   rcases h.ph with⟨hs,a1,b1,c1,d1,_⟩|⟨hs,a1,b1,c1,d1,e1,f1⟩|⟨hs,a1,n21,hd⟩|⟨hs,_,_,_,_,e1⟩|⟨hs,e1⟩
   ·have:=d1 t hmem;omega
   ·refine .inr (.inl ⟨hs,a1,b1,c1,hall d1 (by simp),?_,f1⟩)
    rw[key,Z2d (by rfl)];(try dsimp only);omega
   ·refine .inr (.inr (.inl ⟨hs,a1,hall n21 (by simp),?_⟩))
    rw[key,key,key,Z2d (by rfl),Z16 (by simp[Qq]),Z16 (by simp[Qr])];(try dsimp only);omega
   ·have:=e1 t hmem;omega
   ·have:=e1 t hmem;omega
  case down h1 h2=>
   refine fin _ _ ⟨rfl,rfl,rfl,rfl,rfl⟩ (by simp) ⟨rfl,rfl,rfl⟩ (by simp) ?_
   simp[Vw,Qq,Qr,h1]at k1 k2 k3
   rcases h.ph with⟨hs,a1,b1,c1,d1,_⟩|⟨hs,a1,b1,c1,d1,e1,f1⟩|⟨hs,a1,n21,hd⟩|⟨hs,_,_,_,_,e1⟩|⟨hs,e1⟩
   ·have:=d1 t hmem;omega
   ·refine .inr (.inl ⟨hs,a1,b1,c1,hall d1 (by simp),?_,?_⟩)
    ·rw[key,Z16 (by simp[Vw])];(try dsimp only);omega
    ·show if tm.st=7 then γ.cnt-1≤tm.a∧1≤tm.a else γ.cnt-1≤tm.b
     by_cases h7:tm.st=7
     ·rw[Z2d h7]at f1 ⊢;omega
     ·rw[Z16 h7]at f1 ⊢;omega
   ·refine .inr (.inr (.inl ⟨hs,a1,hall n21 (by simp),?_⟩))
    rw[key,key,key,Z16 (by simp[Vw]),Z16 (by simp[Qq]),Z16 (by simp[Qr])];(try dsimp only);omega
   ·have:=e1 t hmem;omega
   ·have:=e1 t hmem;omega
  case last h1 h2 h3=>
   refine fin _ _ ⟨rfl,rfl,rfl,rfl,rfl⟩ (by simp) ⟨rfl,rfl,rfl⟩ (by simp) ?_
   simp[Vw,Qq,Qr,h1]at k1 k2 k3
   rcases h.ph with⟨hs,a1,b1,c1,d1,_⟩|⟨hs,a1,b1,c1,d1,e1,f1⟩|⟨hs,a1,n21,hd⟩|⟨hs,_,_,_,_,e1⟩|⟨hs,e1⟩
   ·omega
   ·omega
   ·refine .inr (.inr (.inl ⟨hs,a1,hall n21 (by simp),?_⟩))
    rw[key,key,key,Z16 (by simp[Vw]),Z2d (by rfl),Z16 (by simp[Qr])];(try dsimp only);omega
   ·omega
   ·have:=e1 t hmem;omega
  case look27 h1=>rw[hset,← e];exact h
  case reset h1=>
   refine fin _ _ ⟨rfl,rfl,rfl,rfl,rfl⟩ (by simp) ⟨rfl,rfl,rfl⟩ (Z21 _) ?_
   simp[Vw,Qq,Qr,h1]at k1 k2 k3
   rcases h.ph with⟨hs,a1,b1,c1,d1,_⟩|⟨hs,a1,b1,c1,d1,e1,f1⟩|⟨hs,a1,n21,hd⟩|⟨hs,_,_,_,_,e1⟩|⟨hs,e1⟩
   ·have:=d1 t hmem;omega
   ·have:=d1 t hmem;omega
   ·refine .inr (.inr (.inl ⟨hs,a1,hall n21 (by simp),?_⟩))
    rw[key,key,key,Z16 (by simp[Vw]),Z16 (by simp[Qq]),Z2d (by rfl)];(try dsimp only);omega
   ·have:=e1 t hmem;omega
   ·have:=e1 t hmem;omega
  case wake h1=>
   refine fin _ _ ⟨rfl,rfl,rfl,rfl,rfl⟩ (by simp) ⟨rfl,rfl,rfl⟩ (Z21 _) ?_
   simp[Vw,Qq,Qr,h1]at k1 k2 k3
   rcases h.ph with⟨hs,a1,b1,c1,d1,_⟩|⟨hs,a1,b1,c1,d1,e1,f1⟩|⟨hs,a1,n21,hd⟩|⟨hs,_,_,_,_,e1⟩|⟨hs,e1⟩
   ·have:=d1 t hmem;omega
   ·have:=d1 t hmem;omega
   ·refine .inr (.inr (.inl ⟨hs,a1,hall n21 (by simp),?_⟩))
    rw[key,key,key,Z16 (by simp[Vw]),Z16 (by simp[Qq]),Z16 (by simp[Qr])];(try dsimp only);omega
   ·have:=e1 t hmem;omega
   ·have:=e1 t hmem;omega
 ·refine fin _ _ ⟨rfl,rfl,rfl,rfl,rfl⟩ (by simp) ⟨rfl,rfl,rfl⟩ (Z21 _) ?_
  simp[Vw,Qq,Qr,h22]at k1 k2 k3
  rcases h.ph with⟨hs,a1,b1,c1,d1,_⟩|⟨hs,a1,b1,c1,d1,e1,f1⟩|⟨hs,a1,n21,hd⟩|⟨hs,_,_,_,_,e1⟩|⟨hs,e1⟩
  ·have:=d1 t hmem;omega
  ·refine .inr (.inl ⟨hs,a1,b1,c1,hall d1 (by simp),?_,f1⟩)
   rw[key,Z2d (by rfl)];(try dsimp only);omega
  ·refine .inr (.inr (.inl ⟨hs,a1,hall n21 (by simp),?_⟩))
   rw[key,key,key,Z2d (by rfl),Z16 (by simp[Qq]),Z16 (by simp[Qr])];(try dsimp only);omega
  ·have:=e1 t hmem;omega
  ·have:=e1 t hmem;omega
theorem Toks.born{γ:Gm}{tm:Tk}{ts:List Tk}(h:Toks γ tm ts)(h3:tm.st=3):Toks γ { tm with st:=0,n:=tm.n+1 } (ts++[{ tm with st:=20 }]):=by
 refine⟨fun t ht h25=>?_,fun t ht=>?_,fun _=>h.main (by omega),h.le,?_⟩
 ·rcases Z2f.1 ht with ht|ht
  ·exact h.same t ht h25
  ·simp at ht;subst ht;exact⟨rfl,rfl,rfl,rfl,rfl⟩
 ·rcases Z2f.1 ht with ht|ht
  ·exact h.sts t ht
  ·simp at ht;subst ht;simp
 ·rcases h.ph with⟨hs,a1,b1,c1,d1,e1,f1,g1,g2,g3⟩|⟨hs,_⟩|⟨hs,_⟩|⟨hs,_⟩|⟨hs,_⟩<;>(try (exfalso;omega))
  simp[h3]at f1
  refine .inl ⟨.inl rfl,a1,b1,c1,fun t ht=>?_,?_,by simp[f1],?_,g2,g3.1,fun t ht h5=>?_⟩
  ·rcases Z2f.1 ht with ht|ht
   ·exact d1 t ht
   ·simp at ht;subst ht;exact .inl rfl
  ·simp[List.countP_append,e1,Vw]
  ·simpa[Zdk,Zp9,Z6b] using g1
  ·rcases Z2f.1 ht with ht|ht
   ·exact g3.2 t ht h5
   ·simp at ht;subst ht;show tm.b≤tm.a;omega
theorem Toks.begin{γ γ':Gm}{tm tm':Tk}{ts:List Tk}(h:Toks γ tm ts)(h12:tm.st=12)(h0:tm'.st=0)(hn:tm'.n=0)(ha:tm'.a=0)(hb:tm'.b=0)(hl:tm'.l=[])(hm:tm'.todo=γ'.todo∧tm'.back=γ'.back∧tm'.wg=γ'.wg)
  (hg:γ'.cnt=0∧γ'.wt=0∧γ'.sem=0∧γ'.closed=false):Toks γ' tm' ts:=by
 have h25:∀t∈ts,t.st=25:=by
  rcases h.ph with⟨hs,_⟩|⟨hs,_⟩|⟨hs,_⟩|⟨hs,_⟩|⟨_,hs⟩<;>(try (exfalso;omega))
  exact hs
 refine⟨fun t ht h5=>absurd (h25 t ht) h5,h.sts,fun _=>hm,by omega,.inl ⟨.inl h0,hg.2.2.2,hg.2.1,hg.2.2.1,fun t ht=>.inr (.inr (h25 t ht)),?_,by simp[h0,hn,hg.1],?_,by simp[ha,hb,hl],by omega,fun t ht h5=>absurd (h25 t ht) h5⟩⟩
 ·rw[hn,Z5k];intro t ht;simp[Vw,h25 t ht]
 ·have:Zdk ts=[]:=by
   simp only[Zdk,List.map_eq_nil_iff,Z60]
   intro t ht;simp[Zp9,h25 t ht]
  rw[this,hl]
end Go.HL
namespace Go.HL
open Go Go.Proofs Go.Conc Go.Proofs.Tryz
variable[Tasks]
theorem Zit{P:Program}{q:Question}{m:Nat}(w:World)(hq:q=.select m∨∃s,q=.extern s m)(hm:0<m):∃n d,(choose q).run P w=.ok n (w.at d)∧n<m:=by
 have hc:∀x,q.cut x<m:=by
  intro x
  rcases hq with rfl|⟨s,rfl⟩<;>simp only[Question.cut]
  ·exact Z7a _ hm
  ·split<;>first|omega|exact Z7a _ hm
 by_cases hf:q.forced=true
 ·exact⟨0,w.drawn,by simp[choose,Sem.run,hf,World.at],hm⟩
 ·exact⟨_,w.drawn+1,by simp[choose,Sem.run,hf,World.at];rfl,hc _⟩
def Unb(w:World)(cc:CommCase):Prop:=cc.chan=.chan none∨∃c s closed,cc.chan=.chan (some c)∧w.heap[c]?=some (.chan 0 #[] closed s s false)∧(cc.send.isSome=true→closed=false)
theorem Unb.made{w:World}{cc:CommCase}(h:Unb w cc):illMade w cc=false:=by
 rcases h with h|⟨c,s,closed,h,h2,_⟩<;>simp[illMade,h, *]
def Qa(me other:MemAct→MemOp)(c s:Nat)(snd:Bool):Array MemOp:=
 if snd then #[me (.send c s),other (.recv c s 0),me (.sendDone c s),other (.recvDone c s)] else #[other (.send c s),me (.recv c s 0),other (.sendDone c s),me (.recvDone c s)]
section
variable{P:Program}{gs:Array Goroutine}{w:World}{sl:Option (Nat × Nat)}{i:Nat}{g g₂:Goroutine}{cases:Array CommCase}{shape:CommShape}
theorem Zhy(hi:gs[i]?=some g)(h:stepG P (i == 0) g w=.comm g₂ cases true shape w #[])(hm:∀cc∈cases,Unb w cc):
  ((∀cc∈cases,ways w (gs.setIfInBounds i ph) cc=[])∧runT P (crowd gs w sl) i=(.next (crowd (gs.setIfInBounds i (parked g₂ cases shape)) w sl),#[]))∨
  (∃(k:Nat) (cc:CommCase) (c s d:Nat),cases[k]?=some cc∧cc.send=none∧cc.chan=.chan (some c)∧w.heap[c]?=some (.chan 0 #[] true s s false)∧partners (gs.setIfInBounds i ph) c true=[]∧
   runT P (crowd gs w sl) i=(.next (crowd (gs.setIfInBounds i (g₂.finishComm P cases shape k cc.zero false)) (w.at d) sl),#[{ g:=i,fn:=g₂.frame.fn,pos:=g₂.frame.place,act:=.recvClosed c }]))∨
  (∃(k:Nat) (cc:CommCase) (c s:Nat) (closed:Bool) (j kj d:Nat) (v v':Value) (ok:Bool),cases[k]?=some cc∧cc.chan=.chan (some c)∧w.heap[c]?=some (.chan 0 #[] closed s s false)∧(j,kj)∈partners (gs.setIfInBounds i ph) c cc.send.isNone∧
   (match cc.send with|some x=>v=undef∧v'=x∧ok=false|none=>v=offeredValue (gs.setIfInBounds i ph) j kj∧v'=undef∧ok=true)∧
   runT P (crowd gs w sl) i=(.next (crowd ((finishPartner P (gs.setIfInBounds i ph) j kj v').setIfInBounds i (g₂.finishComm P cases shape k v ok)) ((w.at d).setChan c 0 #[] closed (s+1) (s+1) false) sl),
    Qa (fun a=>{ g:=i,fn:=g₂.frame.fn,pos:=g₂.frame.place,act:=a }) (fun a=>{ g:=j,fn:=((gs.setIfInBounds i ph).getD j default).frame.fn,pos:=((gs.setIfInBounds i ph).getD j default).frame.place,act:=a }) c s cc.send.isSome)):=by
 have hr:=runT_crowd_comm (sl:=sl) hi h
 have hill:cases.any (illMade w)=false:=any_ill fun cc hcc=>(hm cc hcc).made
 generalize hst:gs.setIfInBounds i ph=st at*
 generalize hrd:((cases.zipIdx.toList.map fun(c,k)=>(k,c,ways w st c)).filter fun(_,_,ws) => !ws.isEmpty)=ready at*
 have hmem:∀x∈ready,cases[x.1]?=some x.2.1∧x.2.2=ways w st x.2.1∧x.2.2≠[]:=by
  rintro⟨k,c,ws⟩ hx
  rw[← hrd]at hx
  simp only[Z3s,Z2v,Z3m,Z7m]at hx
  obtain⟨⟨c',k',hm',rfl,rfl,rfl⟩,hne⟩:=hx
  have:=Z44.1 (Z25.1 hm')
  exact⟨by simpa using this,rfl,by simpa using hne⟩
 by_cases hnil:ready=[]
 ·refine .inl ⟨fun cc hcc=>?_,?_⟩
  ·apply Z4e
   intro hne
   obtain⟨k,hk,e⟩:=Array.mem_iff_getElem.1 hcc
   have:(k,cc,ways w st cc)∈ready:=by
    rw[← hrd]
    simp only[Z3s,Z2v,Z3m,Z7m]
    refine⟨⟨cc,k,Z25.2 (Z44.2 (by simp[← e])),rfl,rfl,rfl⟩,by simpa using hne⟩
   rw[hnil]at this;cases this
  ·rw[hr]
   unfold communicate
   have hill':cases.any (fun c=>match c.chan with|.chan none=>false|.chan (some r) => !(w.heap[r]? matches some (.chan ..))|_=>true)=false:=hill
   simp only[hrd,hnil,List.isEmpty_nil,Z4d,waitingAt,timerAhead_crowd,Z2r,Z3h]
   rw[Z16 (by rw[Z5z];exact hill')]
   simp[Z43,crowd,parked,← hst]
 ·have hlen:0<ready.length:=Z57.2 hnil
  obtain⟨a,d1,ha,hal⟩:=Zit (P:=P) w (.inl rfl) hlen
  obtain⟨⟨k,cc,ws⟩,hx⟩:∃x,ready[a]?=some x:=⟨_,Z2c hal⟩
  obtain⟨hk,hws,hne⟩:=hmem _ (Z3a hx)
  simp only at hk hws hne
  have hwl:0<ws.length:=Z57.2 hne
  obtain⟨b,d2,hb,hbl⟩:=Zit (P:=P) (w.at d1) (.inr ⟨ "which waiting goroutine is the partner",rfl⟩) hwl
  obtain⟨way,hway⟩:∃y,ws[b]?=some y:=⟨_,Z2c hbl⟩
  have hwm:way∈ways w st cc:=hws▸Z3a hway
  have hgd:ready.getD a (0,default,[])=(k,cc,ws):=by simp[List.getD,hx]
  have hgw:ws.getD b .closed=way:=by simp[List.getD,hway]
  have hpick:(do
    let a ← choose (.select ready.length)
    let (k,c,ws):=ready.getD a (0,default,[])
    let b ← choose (.extern "which waiting goroutine is the partner" ws.length)
    pure (k,c,ws.getD b .closed):Sem (Nat × CommCase × Way)).run P w=.ok (k,cc,way) (w.at d2):=by
   rw[Z3q,ha]
   simp only[Result.andThen,hgd]
   rw[Z3q,hb]
   simp only[Result.andThen,hgw]
   rfl
  have hcm:Unb w cc:=hm cc (Z64 hk)
  have hbody:=hr
  unfold communicate at hbody
  have hill':cases.any (fun c=>match c.chan with|.chan none=>false|.chan (some r) => !(w.heap[r]? matches some (.chan ..))|_=>true)=false:=hill
  rw[Z16 (by rw[Z5z];exact hill')]at hbody
  simp only[hrd]at hbody
  rw[Z16 (by simpa using hnil),hpick]at hbody
  rcases hcm with hcm|⟨c,s,closed,hch,hheap,hcl⟩
  ·simp[ways,hcm]at hwm
  ·have hheap2:∀d,(w.at d).heap[c]?=some (.chan 0 #[] closed s s false):=fun _=>hheap
   cases hsnd:cc.send with
   | some x=>
    have hcf:closed=false:=hcl (by simp[hsnd])
    subst hcf
    have hw2:∃j kj,way=.partner j kj∧(j,kj)∈partners st c false:=by
     simp only[ways,hch,hheap,hsnd,Z2r,Z3h]at hwm
     cases hp:partners st c false with
     | nil=>rw[hp]at hwm;simp at hwm
     | cons p ps=>
      rw[hp]at hwm
      simp only[Z2v,Z7m]at hwm
      obtain⟨j,kj,h1,rfl⟩:=hwm
      exact⟨j,kj,rfl,h1⟩
    obtain⟨j,kj,rfl,hjk⟩:=hw2
    refine .inr (.inr ⟨k,cc,c,s,false,j,kj,d2,undef,x,false,hk,hch,hheap,by simpa[hsnd] using hjk,by simp[hsnd],?_⟩)
    simp only[hch,hheap2,hsnd]at hbody
    rw[hbody]
    simp[Z43,Qa,crowd,World.setChan,hsnd]
   | none=>
    have hw2:(way=.closed∧closed=true∧partners st c true=[])∨∃j kj,way=.partner j kj∧(j,kj)∈partners st c true:=by
     simp only[ways,hch,hheap,hsnd,Z31,Z23,gt_iff_lt,Nat.lt_irrefl,Z3h]at hwm
     cases hp:partners st c true with
     | nil=>
      rw[hp]at hwm
      cases closed with
      | true=>simp at hwm;exact .inl ⟨hwm,rfl,rfl⟩
      | false=>simp at hwm
     | cons p ps=>
      rw[hp]at hwm
      simp only[Z2v,Z7m]at hwm
      obtain⟨j,kj,h1,rfl⟩:=hwm
      exact .inr ⟨j,kj,rfl,h1⟩
    rcases hw2 with⟨rfl,rfl,hp⟩|⟨j,kj,rfl,hjk⟩
    ·refine .inr (.inl ⟨k,cc,c,s,d2,hk,hsnd,hch,hheap,hp,?_⟩)
     simp only[hch,hheap2,hsnd]at hbody
     rw[hbody]
     simp[Z43,crowd]
     rw[← hst];simp
    ·refine .inr (.inr ⟨k,cc,c,s,closed,j,kj,d2,offeredValue st j kj,undef,true,hk,hch,hheap,by simpa[hsnd] using hjk,by simp[hsnd],?_⟩)
     simp only[hch,hheap2,hsnd]at hbody
     rw[hbody]
     simp[Z43,Qa,crowd,World.setChan,hsnd]
end
inductive Rank
 | z
 | mk (f:Nat→Goroutine→Za→Rank)
def Tn:Nat→Rank
 | 0=>.z
 | n+1=>.mk fun _ _ _=>Tn n
inductive StT(P:Program)(Y:Goroutine→Tk→Prop)(Z:Nat→Prop):Goroutine→Tk→Prop
 | ctl {g g':Goroutine} {t:Tk}:g.status=.running→g'.status=.running→t.st≠25→(∀w γ,Shr γ w→Ziq t γ→Zpl w→stepG P false g w=.go g' w #[])→Y g' t→StT P Y Z g t
 | shared {g:Goroutine} {t:Tk} (K:Goroutine→Tk→Prop):g.status=.running→t.st≠25→
   (∀w γ,Shr γ w→Ziq t γ→Zpl w→∃g' w' es t' γ',stepG P false g w=.go g' w' es∧g'.status=.running∧Mv t γ t' γ' es∧Wak P g γ γ'∧Shr γ' w'∧Only γ w w'∧K g' t')→(∀g' t',K g' t'→Y g' t')→StT P Y Z g t
 | quit {g:Goroutine} {t:Tk} (n:Nat):t.st=25→QuitsD P n 1 g→Z n→StT P Y Z g t
def TlR(P:Program):Rank→Goroutine→Tk→Prop
 | .z,_,_=>False
 | .mk f,g,t=>StT P (fun g' t'=>TlR P (f 2 g' [[t'.at_]]) g' t') (fun n=>f 2 g []=Tn n) g t
open Classical in
noncomputable def FT(P:Program):Nat→Goroutine→Za→Rank:=fun _ g L=>
 if h:∃r t,L=[[t.at_]]∧TlR P r g t then h.choose else if h:∃n,QuitsD P n 1 g then Tn h.choose else .z
theorem Zpk{P:Program}{n:Nat}{r:Rank}{g:Goroutine}{t:Tk}(h:TlR P r g t):TlR P (FT P n g [[t.at_]]) g t:=by
 have hx:∃r t',[[t.at_]]=[[t'.at_]]∧TlR P r g t':=⟨r,t,rfl,h⟩
 simp only[FT,dif_pos hx]
 obtain⟨t',e,h'⟩:=hx.choose_spec
 have:t=t':=Tk.inj (by simpa using e)
 generalize hx.choose=r' at h' ⊢
 rwa [this]
theorem tl_rk{P:Program}{g:Goroutine}{t:Tk}(h:Tl P g t):TlR P (.mk (FT P)) g t:=by
 induction h with
 | ctl h1 h2 h3 h4 _ ih=>exact .ctl h1 h2 h3 h4 (Zpk ih)
 | shared K h1 h2 h3 _ ih=>exact .shared K h1 h2 h3 fun g' t' hk=>Zpk (ih g' t' hk)
 | @quit g t n h1 h2=>
  have hq:∃n,QuitsD P n 1 g:=⟨n,h2⟩
  refine .quit hq.choose h1 hq.choose_spec ?_
  have hn:¬ ∃r t,([]:Za)=[[t.at_]]∧TlR P r g t:=fun⟨_,_,e,_⟩=>by cases e
  simp only[FT,dif_neg hn,dif_pos hq]
inductive CmL(X:Bool→Goroutine→Za→Prop):Bool→Goroutine→Za→Array CommCase→CommShape→Prop
 | recv {g:Goroutine} {L:Za} (t:Tk) (z:Value):t.st=20→t.at_∈L.flatten→
   (∀i L',t.b≤i→i<t.many→Upd L t.todo t.obj ({ t with st:=21,a:=i,b:=i+1 }:Tk).obj L'→X false (Conc.served g (.tuple #[.int .i64 (i:Nat),.bool true])) L')→
   (∀L',Upd L t.todo t.obj ({ t with st:=22 }:Tk).obj L'→X false (Conc.served g (.tuple #[z,.bool false])) L')→CmL X false g L #[rcase t.todo z] (.recv true)
 | send {g:Goroutine} {L L1 L':Za} (t:Tk) (v z:Value) (bl:List Zp):t.st=21→
   Upd L t.todo t.obj ({ t with st:=20 }:Tk).obj L1→LS (bl++L'.flatten) L1.flatten→(∀p∈bl,Zet p.2=true)→Tasks.R t.tag t.a v bl→X false (Conc.served g undef) L'→CmL X false g L #[scase t.back v z] .send
 | select {g:Goroutine} {L:Za} (t:Tk) (c0:CommCase) (z:Value):t.st=0→t.at_∈L.flatten→t.b<t.many→1≤t.n→
   (c0=(if t.a=t.many then { chan:=.chan none,send:=some (.int .i64 (t.a:Nat)),zero:=.int .i64 0 } else scase t.todo (.int .i64 (t.a:Nat)) (.int .i64 0)))→
   (t.a<t.many→∀L',Upd L t.todo t.obj ({ t with a:=t.a+1,l:=t.a::t.l }:Tk).obj L'→X true (Conc.served g (.tuple #[goInt 0,.bool false,z])) L')→
   (∀i v bl L',i∈t.l→Tasks.R t.tag i v bl→Upd L t.todo t.obj ({ t with b:=t.b+1,l:=t.l.erase i }:Tk).obj L'→X true (Conc.served g (.tuple #[goInt 1,.bool true,v])) (bl::L'))→CmL X true g L #[c0,rcase t.back z] .select
inductive StL(P:Program)(X:Bool→Goroutine→Za→Prop)(Y:Goroutine→Tk→Prop):Bool→Goroutine→Za→Prop
 | own {main:Bool} {g:Goroutine} {L:Za} (K:Goroutine→Za→Prop):g.status=.running→
   (∀k w,Sat k w L→∃g' w' es L',stepG P main g w=.go g' w' es∧g'.status=.running∧Tr w w' L L' es∧NoX es∧Sat k w' L'∧K g' L')→(∀g' L',K g' L'→X main g' L')→StL P X Y main g L
 | weak {main:Bool} {g:Goroutine} {L L':Za}:Wk L L'→X main g L'→StL P X Y main g L
 | shared {main:Bool} {g:Goroutine} {L:Za} (t:Tk) (K:Goroutine→Za→Prop):g.status=.running→t.at_∈L.flatten→t.st≠12→
   (∀k w γ,Sat k w L→Shr γ w→Ziq t γ→
    (∃g' w' es t' γ' L',stepG P main g w=.go g' w' es∧g'.status=.running∧Mv t γ t' γ' es∧Wak P g γ γ'∧Shr γ' w'∧Only γ w w'∧Upd L t.todo t.obj t'.obj L'∧K g' L')∨
    (t.st=9∧γ.sem=0∧g.offers=none∧stepG P main g w=.go { g with status:=.blocked } w #[]))→
   (∀g' L',K g' L'→X main g' L')→StL P X Y main g L
 | lib {main:Bool} {g:Goroutine} {L:Za} (t:Tk) (K:Goroutine→Za→Prop):g.status=.running→t.at_∈L.flatten→t.st≠12→
   (∀k w γ,Sat k w L→Shr γ w→Ziq t γ→∃g' w' es L',stepG P main g w=.go g' w' es∧g'.status=.running∧Tr w w' L L' es∧NoX es∧Sat k w' L'∧K g' L')→(∀g' L',K g' L'→X main g' L')→StL P X Y main g L
 | rel {g:Goroutine} {L:Za} (t:Tk) (K:Goroutine→Prop):g.status=.running→t.st=22→t.at_∈L.flatten→
   (∀k w γ,Sat k w L→Shr γ w→Ziq t γ→Zpl w→∃g',stepG P false g w=.go g' w #[Wt (.releaseMerge (stA t.wg))]∧g'.status=.running∧K g')→(∀g',K g'→Y g' { t with st:=23 })→StL P X Y false g L
 | begin {g:Goroutine} {L:Za} {r:List Zp} (t t':Tk) (c d u E:Nat):t.st=12→t'.st=0→t'.todo=c→t'.back=d→t'.wg=u→t'.n=0→t'.a=0→t'.b=0→t'.l=[]→
   LS (t.at_::(c,.chan 0 #[] false 0 0 false)::(d,.chan 0 #[] false 0 0 false)::(u,Un Tasks.T 0 0 0)::r) L.flatten→X true g [t'.at_::r]→StL P X Y true g L
 | go {g g':Goroutine} {L L1 L' Lc:Za} (t:Tk) (d:Deferred):g.status=.running→g'.status=.running→t.st=3→(∀k w,Sat k w L→stepG P true g w=.spawn g' (born P d) w #[])→
   Upd L t.todo t.obj ({ t with st:=0,n:=t.n+1 }:Tk).obj L1→Give L1 L' Lc { t with st:=20 }→X false (born P d) Lc→X true g' L'→StL P X Y true g L
 | odd {main:Bool} {g:Goroutine} {L:Za} (t:Tk):t.at_∈L.flatten→(main=true∧20≤t.st∨main=false∧t.st≤12)→StL P X Y main g L
 | comm {main:Bool} {g g0:Goroutine} {L:Za} {cases:Array CommCase} {shape:CommShape}:g.status=.running→g0.status=.running→(∀k w,Sat k w L→stepG P main g w=.comm g0 cases true shape w #[])→
   (∀k w,Sat k w L→stepG P main g0 w=.comm g0 cases true shape w #[])→CmL X main g0 L cases shape→StL P X Y main g L
def Rk(P:Program)(Φ:Goroutine→Za→Prop):Rank→Bool→Goroutine→Za→Prop
 | .z,main,g,L=>main=true∧Φ g L
 | .mk f,main,g,L=>StL P (fun m g' L'=>Rk P Φ (f (cond m 0 1) g' L') m g' L') (fun g' t'=>TlR P (f 2 g' [[t'.at_]]) g' t') main g L
open Classical in
noncomputable def FA(P:Program)(Φ:Goroutine→Za→Prop):Nat→Goroutine→Za→Rank
 | 0,g,L=>if h:∃r,Rk P Φ r true g L then h.choose else .z
 | 1,g,L=>if h:∃r,Rk P Φ r false g L then h.choose else .z
 | n,g,L=>FT P n g L
theorem Zdd{P:Program}{Φ:Goroutine→Za→Prop}{m:Bool}{g:Goroutine}{L:Za}(h:∃r,Rk P Φ r m g L):Rk P Φ (FA P Φ (cond m 0 1) g L) m g L:=by
 cases m<;>simp only[FA,cond_true,Z7c,dif_pos h]<;>exact h.choose_spec
theorem lo_rk{P:Program}{Φ:Goroutine→Za→Prop}{m:Bool}{Ψ:Goroutine→Za→Prop}{g:Goroutine}{L:Za}(h:Lo P m Ψ g L):(m=true→Ψ=Φ)→(m=false→Ψ=fun _ _=>False)→∃r,Rk P Φ r m g L:=by
 induction h with
 | @stop main Ψ g L h=>
  intro h1 h2
  cases main with
  | true=>exact⟨.z,rfl,h1 rfl▸h⟩
  | false=>rw[h2 rfl]at h;exact h.elim
 | own K a b _ ih=>intro h1 h2;exact⟨.mk (FA P Φ),.own K a b fun g' L' hk=>Zdd (ih g' L' hk h1 h2)⟩
 | weak a _ ih=>intro h1 h2;exact⟨.mk (FA P Φ),.weak a (Zdd (ih h1 h2))⟩
 | shared t K a b c d _ ih=>intro h1 h2;exact⟨.mk (FA P Φ),.shared t K a b c d fun g' L' hk=>Zdd (ih g' L' hk h1 h2)⟩
 | lib t K a b c d _ ih=>intro h1 h2;exact⟨.mk (FA P Φ),.lib t K a b c d fun g' L' hk=>Zdd (ih g' L' hk h1 h2)⟩
 | rel t K a c d e f=>intro h1 h2;exact⟨.mk (FA P Φ),.rel t K a c d e fun g' hk=>Zpk (n:=2) (tl_rk (f g' hk))⟩
 | @begin main Ψ g L r t t' c d u E a1 a2 a3 a4 a5 a6 a7 a8 a9 a10 _ ih=>
  intro h1 h2
  cases main with
  | true=>exact⟨.mk (FA P Φ),.begin t t' c d u E a1 a2 a3 a4 a5 a6 a7 a8 a9 a10 (Zdd (m:=true) (ih h1 h2))⟩
  | false=>exact⟨.mk (FA P Φ),.odd t (a10.mem (by simp)) (.inr ⟨rfl,by omega⟩)⟩
 | @go main Ψ g g' L L1 L' Lc t d a1 a2 a3 a4 a5 a6 _ _ ih1 ih2=>
  intro h1 h2
  cases main with
  | true=>exact⟨.mk (FA P Φ),.go t d a1 a2 a3 a4 a5 a6 (Zdd (m:=false) (ih1 (fun h=>by cases h) fun _=>rfl)) (Zdd (m:=true) (ih2 h1 h2))⟩
  | false=>exact⟨.mk (FA P Φ),.odd t (by obtain⟨l,r,e,_⟩:=a5;rw[e];simp[Tk.at_]) (.inr ⟨rfl,by omega⟩)⟩
 | @recv main Ψ g L t z a1 a2 a3 a4 _ _ ih1 ih2=>
  intro h1 h2
  cases main with
  | false=>exact⟨.mk (FA P Φ),.comm a1 a1 a4 a4 (.recv t z a2 a3 (fun i L' x0 x y=>Zdd (m:=false) (ih1 i L' x0 x y h1 h2)) fun L' x=>Zdd (m:=false) (ih2 L' x h1 h2))⟩
  | true=>exact⟨.mk (FA P Φ),.odd t a3 (.inl ⟨rfl,by omega⟩)⟩
 | @send main Ψ g L L1 L' t v z bl a1 a2 a3 a4 a5 a6 a7 _ ih=>
  intro h1 h2
  cases main with
  | false=>exact⟨.mk (FA P Φ),.comm a1 a1 a3 a3 (.send t v z bl a2 a4 a5 a6 a7 (Zdd (m:=false) (ih h1 h2)))⟩
  | true=>exact⟨.mk (FA P Φ),.odd t (by obtain⟨l,r,e,_⟩:=a4;rw[e];simp[Tk.at_]) (.inl ⟨rfl,by omega⟩)⟩
 | @select main Ψ g L t c0 z a1 a2 a3 a4 a5 a6 a7 _ _ ih1 ih2=>
  intro h1 h2
  cases main with
  | true=>exact⟨.mk (FA P Φ),.comm a1 a1 a7 a7 (.select t c0 z a2 a3 a4 a5 a6 (fun x L' y=>Zdd (m:=true) (ih1 x L' y h1 h2)) fun i v bl L' x y z=>Zdd (m:=true) (ih2 i v bl L' x y z h1 h2))⟩
  | false=>exact⟨.mk (FA P Φ),.odd t a3 (.inr ⟨rfl,by omega⟩)⟩
def Sh(γ:Gm)(b:Nat):Prop:=b=γ.todo∨b=γ.back∨b=γ.wg
inductive Gh
 | main (L:Za) (t:Tk)
 | live (L:Za) (t:Tk)
 | tail (t:Tk)
 | gone (t:Tk) (d:Nat)
def Gh.L:Gh→Za
 | .main L _=>L
 | .live L _=>L
 | _=>[]
def Gh.tk:Gh→Tk
 | .main _ t=>t
 | .live _ t=>t
 | .tail t=>t
 | .gone t _=>t
def Zvm(s:Nat):Nat:=if s=1∨s=2∨s=6∨s=7∨s=8∨s=9∨s=10 then 1 else 0
def Gh.df:Gh→Nat
 | .main _ t=>Zvm t.st
 | .live _ _=>0
 | .tail t=>if t.st=23 then 0 else 1
 | .gone _ d=>d
def Gh.ok:Gh→Prop
 | .main _ t=>t.st≤12
 | .live _ t=>20≤t.st∧t.st≤22
 | .tail t=>23≤t.st
 | .gone t _=>t.st=25
def Gh.late:Gh→Bool
 | .tail _=>true
 | .gone _ _=>true
 | _=>false
section
variable(P:Program)(Φ:Goroutine→Za→Prop)
def Park(γ:Gm)(r:Rank)(main:Bool)(g:Goroutine)(L:Za):Prop:=
 γ.closed=false∧∃f g0 cases shape,r=.mk f∧g=parked g0 cases shape∧g0.status=.running∧(∀k w,Sat k w L→stepG P main g0 w=.comm g0 cases true shape w #[])∧CmL (fun m g' L'=>Rk P Φ (f (cond m 0 1) g' L') m g' L') main g0 L cases shape
def StG(γ:Gm)(r:Rank)(g:Goroutine):Gh→Prop
 | .main L t=>(g.status=.running∧Rk P Φ r true g L)∨Park P Φ γ r true g L∨(t.st=9∧γ.sem=0∧∃g0,g={ g0 with status:=.blocked }∧g0.status=.running∧g0.offers=none∧Rk P Φ r true g0 L)
 | .live L t=>(g.status=.running∧Rk P Φ r false g L)∨Park P Φ γ r false g L
 | .tail t=>TlR P r g t
 | .gone t d=>t.st=25∧∃n,r=Tn n∧QuitsD P n d g
end
def HOk(t:Trace)(j:Nat):Prop:=∀i,t.g? i=some j→t.counts i→∃q,t.g? q=some 0∧HappensBefore t i q
def Rl(γ:Gm)(t:Trace)(j:Nat):Prop:=∃r,ConcN.RelBy (stA γ.wg) t j r
def Zng(H:List Gh)(j:Nat):Za:=((H[j]?).map Gh.L).getD []
def PtH(H:List Gh)(j:Nat):Prop:=∃h,H[j]?=some h∧h.tk.st≠25
theorem Yo{H:List Gh}{j:Nat}{h:Gh}(hj:H[j]?=some h):Zng H j=h.L:=by simp[Zng,hj]
structure Old(H:List Gh)(γ:Gm)(tm:Tk)(w:World):Prop where
 same:∀b,Tasks.O b→w.heap[b]?=Tasks.W0.heap[b]?
 own:∀(j:Nat) h b,H[j]?=some h→InW h.L b→¬ Tasks.O b
 sh:tm.st≠12→∀b,Sh γ b→¬ Tasks.O b
 lt:∀b,Tasks.O b→b<w.heap.size
structure Iv(P:Program)(Φ:Goroutine→Za→Prop)(k:Zaz)(γ:Gm)(rs:List Rank)(H:List Gh)(L0:Za)(tm:Tk)(ws:List Gh)(gs:Array Goroutine)(w:World)(t:Trace):Prop where
 hd:H=.main L0 tm::ws
 nl:∀h∈ws,∀L t,h≠.main L t
 gsz:gs.size=H.length
 rsz:rs.length=H.length
 st:∀(j:Nat) h r g,H[j]?=some h→rs[j]?=some r→gs[j]?=some g→StG P Φ γ r g h
 sat0:Sat k w []
 sat:∀(j:Nat) h,H[j]?=some h→Sat k w h.L
 tok:∀(j:Nat) h,H[j]?=some h→∀p∈h.L.flatten,gho p.2=true→p=h.tk.at_
 dis:∀(i j:Nat) a b x,i≠j→H[i]?=some a→H[j]?=some b→InW a.L x→¬ InB b.L x
 sh:tm.st≠12→Shr γ w
 shB:tm.st≠12→∀(j:Nat) h x,H[j]?=some h→Sh γ x→¬ InB h.L x
 toks:Toks γ tm (ws.map Gh.tk)
 ti:TI t H.length w.heap.size (Zng H) (fun b=>tm.st≠12∧Sh γ b) (PtH H)
 deaf:∀(j:Nat) h,H[j]?=some h→Deaf t j=h.df
 ho:∀(j:Nat) h,H[j]?=some h→h.late=true→HOk t j∨(tm.st≠12∧Rl γ t j)
 ok:∀(j:Nat) h,H[j]?=some h→h.ok
 nm:∀g,gs[0]?=some g→g.status=.blocked→tm.st=0→∀(j:Nat) gj,j≠0→gs[j]?=some gj→gj.status=.blocked→tm.a=tm.many∧∃h,H[j]?=some h∧h.tk.st=20
 old:Old H γ tm w
theorem Upd.mem{L L':Za}{b:Nat}{o o':Obj}(h:Upd L b o o' L'):(b,o)∈L.flatten:=by obtain⟨l,r,e,_⟩:=h;rw[e];simp
theorem Upd.gW{L L':Za}{b:Nat}{o o':Obj}(h:Upd L b o o' L')(hg:gho o=true)(hg':gho o'=true)(x:Nat):InW L' x↔InW L x:=by
 obtain⟨l,r,e,e'⟩:=h
 constructor<;>rintro⟨y,h1,h2⟩<;>refine⟨y,?_,h2⟩
 ·rw[e']at h1;rw[e]
  simp only[Z2f,Z2h,Z3m]at h1 ⊢
  rcases h1 with h1|⟨_,rfl⟩|h1
  ·exact .inl h1
  ·rw[Zas h2]at hg';cases hg'
  ·exact .inr (.inr h1)
 ·rw[e]at h1;rw[e']
  simp only[Z2f,Z2h,Z3m]at h1 ⊢
  rcases h1 with h1|⟨_,rfl⟩|h1
  ·exact .inl h1
  ·rw[Zas h2]at hg;cases hg
  ·exact .inr (.inr h1)
theorem Upd.gB{L L':Za}{b:Nat}{o o':Obj}(h:Upd L b o o' L')(hg:gho o=true)(hg':gho o'=true)(x:Nat):InB L' x↔InB L x:=by
 obtain⟨l,r,e,e'⟩:=h
 constructor<;>rintro⟨y,h1,h2⟩<;>refine⟨y,?_,h2⟩
 ·rw[e']at h1;rw[e]
  simp only[Z2f,Z2h,Z3m]at h1 ⊢
  rcases h1 with h1|⟨_,rfl⟩|h1
  ·exact .inl h1
  ·rw[h2]at hg';cases hg'
  ·exact .inr (.inr h1)
 ·rw[e]at h1;rw[e']
  simp only[Z2f,Z2h,Z3m]at h1 ⊢
  rcases h1 with h1|⟨_,rfl⟩|h1
  ·exact .inl h1
  ·rw[h2]at hg;cases hg
  ·exact .inr (.inr h1)
theorem Upd.sat{L L':Za}{b:Nat}{o o':Obj}{k:Zaz}{w:World}(h:Upd L b o o' L')(hg:gho o=true)(hg':gho o'=true)(hn:noView o'=true)(hs:Sat k w L):Sat k w L':=by
 have h0:=h
 obtain⟨l,r,e,e'⟩:=h
 have hm:∀p∈L'.flatten,p∈L.flatten∨p=(b,o'):=fun p hp=>by
  rw[e']at hp;rw[e]
  simp only[Z2f,Z2h]at hp ⊢
  rcases hp with hp|hp|hp
  ·exact .inl (.inl hp)
  ·exact .inr hp
  ·exact .inl (.inr (.inr hp))
 refine⟨hs.os,hs.out,hs.tape,fun p hp hpg=>?_,?_,fun p hp=>?_,fun p hp=>?_⟩
 ·rcases hm p hp with hp|rfl
  ·exact hs.has p hp hpg
  ·rw[hg']at hpg;cases hpg
 ·have:=hs.nodup
  rw[e]at this;rw[e']
  simpa using this
 ·rcases hm p hp with hp|rfl
  ·exact hs.nv p hp
  ·exact hn
 ·rcases hm p hp with hp|rfl
  ·exact hs.lt p hp
  ·exact hs.lt (b,o) h0.mem
theorem Upd.gtok{L L':Za}{t t':Tk}{tk:Tk}(h:Upd L t.todo t.obj t'.obj L')(htd:t'.todo=t.todo)(hk:∀p∈L.flatten,gho p.2=true→p=tk.at_)(hs:(L.flatten.map (·.1)).Nodup):tk=t∧∀p∈L'.flatten,gho p.2=true→p=t'.at_:=by
 have h1:t.at_=tk.at_:=hk _ h.mem rfl
 have h2:=Tk.inj h1
 subst h2
 refine⟨rfl,fun p hp hg=>?_⟩
 obtain⟨l,r,e,e'⟩:=h
 rw[e']at hp
 rw[e]at hs hk
 have hno:∀p∈l++r,gho p.2=true→False:=fun q hq hg=>by
  have h3:q∈l++(t.todo,t.obj)::r:=by
   rcases Z2f.1 hq with hq|hq
   ·exact Z2x _ hq
   ·exact Z2q _ (Z5d _ hq)
  have h4:=hk q h3 hg
  subst h4
  have hs2:=(List.Perm.map (·.1) (Z6y (a:=(t.todo,t.obj)) (l₁:=l) (l₂:=r))).nodup_iff.1 hs
  rw[Z2s,Z3w]at hs2
  exact hs2.1 (Z2v.2 ⟨_,hq,rfl⟩)
 simp only[Z2f,Z2h]at hp
 rcases hp with hp|rfl|hp
 ·exact(hno p (Z2x _ hp) hg).elim
 ·exact Prod.ext htd.symm rfl
 ·exact(hno p (Z2q _ hp) hg).elim
theorem CmL.token{X:Bool→Goroutine→Za→Prop}{main:Bool}{g:Goroutine}{L:Za}{cases:Array CommCase}{shape:CommShape}(h:CmL X main g L cases shape):∃t:Tk,t.at_∈L.flatten∧((main=false∧(t.st=20∨t.st=21))∨main=true∧t.st=0)∧
  ∀cc∈cases,cc.chan=.chan none∨(cc.chan=.chan (some t.todo)∧(t.st=20∨t.st=0))∨cc.chan=.chan (some t.back):=by
 cases h with
 | recv t z a b=>exact⟨t,b,.inl ⟨rfl,.inl a⟩,fun cc hc=>by simp at hc;subst hc;exact .inr (.inl ⟨rfl,.inl a⟩)⟩
 | send t v z bl a b=>exact⟨t,b.mem,.inl ⟨rfl,.inr a⟩,fun cc hc=>by simp at hc;subst hc;exact .inr (.inr rfl)⟩
 | select t c0 z a b c d e=>
  refine⟨t,b,.inr ⟨rfl,a⟩,fun cc hc=>?_⟩
  simp at hc
  rcases hc with rfl|rfl
  ·rw[e]
   split
   ·exact .inl rfl
   ·exact .inr (.inl ⟨rfl,.inr a⟩)
  ·exact .inr (.inr rfl)
theorem Q5{P:Program}{g g' o:Goroutine}{w:World}(h:o.status=.running∨o.status=.finished):woken P g g' w o=o:=by
 unfold woken
 split
 ·exact again_running _ h
 ·rfl
theorem TlR.status{P:Program}{r:Rank}{g:Goroutine}{t:Tk}(h:TlR P r g t):g.status=.running∨g.status=.finished:=by
 cases r with
 | z=>exact h.elim
 | mk f=>
  cases h with
  | ctl a=>exact .inl a
  | shared K a=>exact .inl a
  | quit n a b=>exact b.status
theorem StG.woken{P:Program}{Φ:Goroutine→Za→Prop}{γ γ':Gm}{r:Rank}{o g g':Goroutine}{h:Gh}{w':World}{tm':Tk}{ts:List Tk}(hs:StG P Φ γ r o h)(ht:∀p∈h.L.flatten,gho p.2=true→p=h.tk.at_)(hin:(∃L t,h=.main L t∧t=tm')∨h.tk∈ts)(hsh:tm'.st≠12→Shr γ' w')(htk:Toks γ' tm' ts)
  (hw:Wak P g γ γ')(hg:g'.status=.running):StG P Φ γ' r (Conc.woken P g g' w' o) h:=by
 have hwk:mayWake P g=true→Conc.woken P g g' w' o=o.again w':=fun hm=>by simp[Conc.woken,hm,hg]
 have hpark:∀(main:Bool) L,h.L=L→((main=true∧∃t,h=.main L t∧t=tm')∨main=false∧h.tk∈ts)→Park P Φ γ r main o L→Park P Φ γ' r main (Conc.woken P g g' w' o) L∨((Conc.woken P g g' w' o).status=.running∧Rk P Φ r main (Conc.woken P g g' w' o) L):=by
  rintro main L rfl hm ⟨hcl,f,g0,cases,shape,rfl,rfl,hr,hst,hcm⟩
  obtain⟨t,h1,h2,h3⟩:=hcm.token
  have e:t=h.tk:=Tk.inj (ht _ h1 rfl)
  have h25:t.st≠25:=by omega
  have hcmp:Ziq t γ':=by
   rcases hm with⟨_,t',e',e2⟩|⟨_,hm⟩
   ·have:h.tk=t':=by rw[e'];rfl
    rw[e,this,e2]
    refine htk.cmpM ?_
    have:tm'=t:=by rw[← e2,e,this]
    rw[this];omega
   ·rw[e];exact htk.cmpW hm (e▸h25)
  have h12:tm'.st≠12:=by
   rcases hm with⟨_,t',e',e2⟩|⟨_,hm⟩
   ·have:h.tk=t':=by rw[e'];rfl
    have:tm'=t:=by rw[← e2,e,this]
    rw[this];omega
   ·exact htk.up hm (e▸h25)
  obtain⟨⟨s1,ht1⟩,⟨s2,ht2⟩,_⟩:=hsh h12
  cases hc:γ'.closed with
  | false=>
   rw[hc]at ht1
   have hag:(parked g0 cases shape).again w'=parked g0 cases shape:=by
    unfold Goroutine.again
    simp only[parked]
    rw[Z16]
    rw[Z5z,Array.any_eq_false]
    intro i hi
    rcases h3 cases[i] (Array.getElem_mem hi)with h3|⟨h3,_⟩|h3
    ·simp[h3]
    ·simp[h3,hcmp.1,ht1]
    ·simp[h3,hcmp.2.1,ht2]
   have hwo:Conc.woken P g g' w' (parked g0 cases shape)=parked g0 cases shape:=by
    unfold Conc.woken
    split
    ·exact hag
    ·rfl
   rw[hwo]
   exact .inl ⟨hc,f,g0,cases,shape,rfl,rfl,hr,hst,hcm⟩
  | true=>
   rw[hwk (hw.2 hcl hc)]
   rw[hc]at ht1
   right
   have hst20:t.st=20∧main=false:=by
    have hcm2:=hcmp.2.2.2.2
    rcases h2 with⟨hmf,h2|h2⟩|⟨_,h2⟩
    ·exact⟨h2,hmf⟩
    ·exfalso
     have hmem:t∈ts:=by
      rcases hm with⟨hm,_⟩|⟨_,hm⟩
      ·rw[hm]at hmf;cases hmf
      ·rw[e];exact hm
     rcases htk.ph with⟨hs,a,_⟩|⟨hs,_,_,_,d,_⟩|⟨hs,_,n21,_⟩|⟨hs,_,_,_,_,d⟩|⟨hs,d⟩
     ·rw[a]at hc;cases hc
     ·have:=d t hmem;omega
     ·exact n21 t hmem h2
     ·have:=d t hmem;omega
     ·have:=d t hmem;omega
    ·simp[Cm,h2,hc]at hcm2
   obtain⟨h20,rfl⟩:=hst20
   have hag:(parked g0 cases shape).again w'={ parked g0 cases shape with status:=.running }:=by
    unfold Goroutine.again
    simp only[parked]
    rw[Z2d]
    cases hcm with
    | recv t2 z a b=>
     have:t2=t:=Tk.inj ((ht _ b rfl).trans (ht _ h1 rfl).symm)
     subst this
     simp[rcase,hcmp.1,ht1]
    | send t2 v z bl a b=>
     have:t2=t:=Tk.inj ((ht _ b.mem rfl).trans (ht _ h1 rfl).symm)
     subst this
     omega
   rw[hag]
   refine⟨rfl,?_⟩
   refine StL.comm rfl hr (fun k w hs=>?_) hst hcm
   have:=stepG_tries (P:=P) (g:=g0) (sh:=shape) false cases w
   rw[this,show ({ g0 with status:=.running }:Goroutine)=g0 by cases g0;simp at hr;simp[hr]]
   exact hst k w hs
 cases h with
 | main L t=>
  have hmt:t=tm'∨True:=.inr trivial
  rcases hs with⟨a,b⟩|a|⟨a,b,g0,rfl,c,d,e⟩
  ·rw[Q5 (.inl a)];exact .inl ⟨a,b⟩
  ·rcases hin with⟨L',t',e1,e2⟩|hin
   ·cases e1
    rcases hpark true L rfl (.inl ⟨rfl,t,rfl,e2⟩) a with h|h
    ·exact .inr (.inl h)
    ·exact .inl h
   ·exfalso
    obtain⟨hcl,f,g0,cases,shape,rfl,rfl,hr,hst,hcm⟩:=a
    obtain⟨t2,h1,h2,_⟩:=hcm.token
    have e:t2=t:=Tk.inj (ht _ h1 rfl)
    have:=htk.sts _ hin
    subst e
    simp only[Gh.tk]at this
    rcases h2 with⟨h2,_⟩|⟨_,h2⟩
    ·cases h2
    ·omega
  ·have hag:({ g0 with status:=.blocked }:Goroutine).again w'=g0:=by
    obtain⟨f1,f2,f3,f4,f5⟩:=g0
    simp only at c d
    subst c d
    simp[Goroutine.again]
   by_cases hsm:γ'.sem=0
   ·unfold Conc.woken
    split
    ·rw[hag];exact .inl ⟨c,e⟩
    ·exact .inr (.inr ⟨a,hsm,g0,rfl,c,d,e⟩)
   ·have hs1:γ'.sem=1:=by
     rcases htk.ph with⟨_,_,_,x,_⟩|⟨_,_,_,x,_⟩|⟨_,_,_,x⟩|⟨_,_,_,_,x,_⟩|⟨x,_⟩
     ·omega
     ·omega
     ·omega
     ·omega
     ·rcases hin with⟨L',t',e1,e2⟩|hin
      ·cases e1;subst e2;omega
      ·have:=htk.sts _ hin;simp only[Gh.tk]at this;omega
    rw[hwk (hw.1 b hs1),hag]
    exact .inl ⟨c,e⟩
 | live L t=>
  rcases hs with⟨a,b⟩|a
  ·rw[Q5 (.inl a)];exact .inl ⟨a,b⟩
  ·rcases hin with⟨_,_,e1,_⟩|hin
   ·cases e1
   rcases hpark false L rfl (.inr ⟨rfl,hin⟩) a with h|h
   ·exact .inr h
   ·exact .inl h
 | tail t=>
  have:TlR P r o t:=hs
  rw[Q5 this.status];exact hs
 | gone t d=>
  obtain⟨_,n,_,hq⟩:=hs
  rw[Q5 hq.status];exact⟨by assumption,n,by assumption,hq⟩
theorem HOk.app{t u:Trace}{j:Nat}(h:HOk t j)(hu:∀i,t.size≤i→(t++u).g? i=some j→¬ (t++u).counts i):HOk (t++u) j:=by
 intro i hg hc
 rcases Z5x i t.size with hlt|hge
 ·rw[g?_old hlt]at hg
  rw[counts_old hlt]at hc
  obtain⟨q,h1,h2⟩:=h i hg hc
  refine⟨q,?_,hb_app u h2⟩
  obtain⟨op,h3,_⟩:=Z28.1 h1
  rw[g?_old (lt_size_of_getElem? h3)];exact h1
 ·exact absurd hc (hu i hge hg)
theorem Rl.app{γ γ':Gm}{t u:Trace}{j:Nat}(h:Rl γ t j)(hw:γ'.wg=γ.wg)(hu:∀i,t.size≤i→(t++u).g? i=some j→¬ (t++u).counts i):Rl γ' (t++u) j:=by
 obtain⟨r,h⟩:=h
 unfold Rl
 rw[hw]
 exact⟨r,h.app hu⟩
theorem Zf7{t u:Trace}{i j:Nat}(hi:t.size≤i)(hg:(t++u).g? i=some j):∃op∈u,(t++u)[i]?=some op∧op.g=j:=by
 obtain⟨op,h1,h2⟩:=Z28.1 hg
 rcases getElem?_append_cases h1 with⟨h3,_⟩|⟨_,h3⟩
 ·omega
 ·exact⟨op,h3,h1,h2⟩
theorem Uo{t:Trace}{i:Nat}{op:MemOp}(h:t[i]?=some op)(ht:op.act.touch?=none):¬ t.counts i:=by
 rintro⟨x,hx,_⟩
 rw[show t.act? i=some op.act from act?_of h]at hx
 simp[ht]at hx
theorem V7{t u:Trace}{γ γ':Gm}{tm tm':Tk}{j:Nat}(h:HOk t j∨(tm.st≠12∧Rl γ t j))(hw:γ'.wg=γ.wg)(h12:tm.st≠12→tm'.st≠12)(hu:∀i,t.size≤i→(t++u).g? i=some j→¬ (t++u).counts i):HOk (t++u) j∨(tm'.st≠12∧Rl γ' (t++u) j):=by
 rcases h with h|⟨h1,h2⟩
 ·exact .inl (h.app hu)
 ·exact .inr ⟨h12 h1,h2.app hw hu⟩
theorem Um{t u:Trace}{i j:Nat}(hij:i≠j)(hu:∀op∈u,op.g=j):∀n,t.size≤n→(t++u).g? n=some i→¬ (t++u).counts n:=fun n hn hg=>by
 obtain⟨op,h1,_,h3⟩:=Zf7 hn hg
 exact absurd (h3.symm.trans (hu op h1)) hij
theorem Zj{α:Type}{l:List α}{i j:Nat}{x y:α}(h:(l.set j x)[i]?=some y):(i=j∧y=x)∨(i≠j∧l[i]?=some y):=by
 by_cases e:i=j
 ·subst e
  rw[Z2z]at h
  simp at h
  obtain⟨_,h⟩:=h
  exact .inl ⟨rfl,h.symm⟩
 ·rw[Z4a (fun q=>e q.symm)]at h
  exact .inr ⟨e,h⟩
theorem Zj2{H:List Gh}{j:Nat}{h h':Gh}(hj:H[j]?=some h):Zng (H.set j h') j=h'.L∧∀i,i≠j→Zng (H.set j h') i=Zng H i:=by
 have hlt:=(Z2j.1 hj).1
 refine⟨by simp[Zng,hlt],fun i hi=>by simp[Zng,Z4a (fun q=>hi q.symm)]⟩
theorem Sat.keep{k:Zaz}{w w':World}{L:Za}(h:Sat k w L)(h0:Sat k w' [])(hs:w.heap.size≤w'.heap.size)(hk:∀b,InB L b→w'.heap[b]?=w.heap[b]?):Sat k w' L:=
 ⟨h0.os,h0.out,h0.tape,fun p hp hg=>by rw[hk p.1 ⟨p.2,hp,hg⟩];exact h.has p hp hg,h.nodup,h.nv,fun p hp=>Z3k (h.lt p hp) hs⟩
theorem InB.lt{k:Zaz}{w:World}{L:Za}{b:Nat}(h:Sat k w L)(hb:InB L b):b<w.heap.size:=let ⟨o,h1,_⟩:=hb;h.lt _ h1
theorem Iv.goStep{P:Program}{Φ:Goroutine→Za→Prop}{k:Zaz}{γ γ':Gm}{rs:List Rank}{H:List Gh}{L0 L0':Za}{tm tm':Tk}{ws ws':List Gh}{gs:Array Goroutine}{w w':World}{t:Trace}{sl:Option (Nat × Nat)}{j:Nat}{h h':Gh}{r r':Rank}{g g':Goroutine}{es:Array Event}
  (iv:Iv P Φ k γ rs H L0 tm ws gs w t)(hj:H[j]?=some h)(hr:rs[j]?=some r)(hg:gs[j]?=some g)(hstep:stepG P (j == 0) g w=.go g' w' es)
  (hH:H.set j h'=.main L0' tm'::ws')(hnl:∀L t,j≠0→h'≠.main L t)(hsize:w.heap.size≤w'.heap.size)
  (hkeep:∀b,b<w.heap.size→¬ InW h.L b→¬ (tm.st≠12∧Sh γ b)→w'.heap[b]?=w.heap[b]?)
  (hsat0:Sat k w' [])(hsat:Sat k w' h'.L)(htok:∀p∈h'.L.flatten,gho p.2=true→p=h'.tk.at_)(hgr:Gr0 w.heap.size h.L h'.L)
  (hγ:γ'.todo=γ.todo∧γ'.back=γ.back∧γ'.wg=γ.wg)(h12:tm.st=12→tm'.st=12)(hshr:tm'.st≠12→Shr γ' w')(htoks:Toks γ' tm' (ws'.map Gh.tk))(hpt:h'.tk.st≠25→h.tk.st≠25)
  (hev:∀op∈MemOp.ofEvents j g.frame.fn g.frame.place es,OkT h.L w.heap.size w'.heap.size (fun b=>(tm.st≠12∧Sh γ b)∧PtH H j) j op)
  (hdf:deafBehind h.df es=h'.df)
  (hho:∀(i:Nat) x,(H.set j h')[i]?=some x→x.late=true→HOk (t++MemOp.ofEvents j g.frame.fn g.frame.place es) i∨(tm'.st≠12∧Rl γ' (t++MemOp.ofEvents j g.frame.fn g.frame.place es) i))
  (hnb:g'.status≠.blocked∨γ'=γ∧tm'.st=9)(hna:g'.status=.blocked∨g'.status=.running∨(g'.status=.finished∧γ'=γ))(hwak:Wak P g γ γ')(hok:h'.ok)(hst:StG P Φ γ' r' g' h'):
  runT P (crowd gs w sl) j=(.next (crowd ((gs.map (woken P g g' w')).setIfInBounds j g') w' sl),MemOp.ofEvents j g.frame.fn g.frame.place es)∧
   Iv P Φ k γ' (rs.set j r') (H.set j h') L0' tm' ws' ((gs.map (woken P g g' w')).setIfInBounds j g') w' (t++MemOp.ofEvents j g.frame.fn g.frame.place es):=by
 refine⟨runT_crowd_go hg hstep,?_⟩
 have hlt:j<H.length:=(Z2j.1 hj).1
 have hlen:(H.set j h').length=H.length:=by simp
 have ug:∀op∈MemOp.ofEvents j g.frame.fn g.frame.place es,op.g=j:=fun op hop=>(hev op hop).1
 have hgr':Gr0 w.heap.size h.L h'.L:=hgr
 have hsh':tm'.st≠12→tm.st≠12:=fun a b=>a (h12 b)
 have hSh:∀b,Sh γ' b↔Sh γ b:=fun b=>by simp[Sh,hγ.1,hγ.2.1,hγ.2.2]
 have hdis1:∀i x b,i≠j→H[i]?=some x→InB x.L b→¬ InW h.L b:=fun i x b hij hi hb hw=>iv.dis j i h x b (fun e=>hij e.symm) hj hi hw hb
 have hget:∀(i:Nat) y,((gs.map (woken P g g' w')).setIfInBounds j g')[i]?=some y→(i=j∧y=g')∨(i≠j∧∃o,gs[i]?=some o∧y=woken P g g' w' o):=by
  intro i y hy
  by_cases e:i=j
  ·subst e
   rw[Z2o (by rw[Array.size_map,iv.gsz];exact hlt)]at hy
   cases hy;exact .inl ⟨rfl,rfl⟩
  ·rw[Z2e (fun q=>e q.symm),Array.getElem?_map]at hy
   obtain⟨o,h1,h2⟩:=Z28.1 hy
   exact .inr ⟨e,o,h1,h2.symm⟩
 have hin:∀(i:Nat) x,i≠j→H[i]?=some x→(∃L t,x=.main L t∧t=tm')∨x.tk∈ws'.map Gh.tk:=by
  intro i x hij hi
  have:(H.set j h')[i]?=some x:=by rw[Z4a (fun q=>hij q.symm)];exact hi
  rw[hH]at this
  cases i with
  | zero=>simp at this;exact .inl ⟨L0',tm',this.symm,rfl⟩
  | succ i=>simp at this;exact .inr (Z2v.2 ⟨x,Z3a this,rfl⟩)
 refine⟨hH,?_,by simp[iv.gsz],by simp[iv.rsz],?_,hsat0,?_,?_,?_,hshr,?_,htoks,?_,?_,hho,?_,?_,?_⟩
 ·intro x hx L t' e
  obtain⟨i,hi⟩:=Z7d hx
  have:(H.set j h')[i+1]?=some x:=by rw[hH];simpa using hi
  rcases Zj this with⟨a,rfl⟩|⟨a,b⟩
  ·exact hnl L t' (by omega) e
  ·rw[iv.hd]at b
   simp at b
   exact iv.nl x (Z3a b) L t' e
 ·intro i x y o hi hri ho
  rcases hget i o ho with⟨rfl,rfl⟩|⟨hij,o',h1,rfl⟩
  ·rcases Zj hi with⟨_,rfl⟩|⟨a,_⟩
   ·rcases Zj hri with⟨_,rfl⟩|⟨a,_⟩
    ·exact hst
    ·exact absurd rfl a
   ·exact absurd rfl a
  ·have hi':H[i]?=some x:=(Zj hi).resolve_left (fun a=>hij a.1) |>.2
   have hr':rs[i]?=some y:=(Zj hri).resolve_left (fun a=>hij a.1) |>.2
   have hso:=iv.st i x y o' hi' hr' h1
   rcases hna with hb|hb|⟨hb,hb2⟩
   ·have hγγ:γ'=γ:=(hnb.resolve_left fun a=>a hb).1
    have:woken P g g' w' o'=o':=by simp[woken,hb]
    rw[this,hγγ];exact hso
   ·exact hso.woken (iv.tok i x hi') (hin i x hij hi') hshr htoks hwak hb
   ·subst hb2
    by_cases hm:mayWake P g=true
    ·have key:=hso.woken (g:=g) (g':={ g' with status:=.running }) (w':=w') (iv.tok i x hi') (hin i x hij hi') hshr htoks hwak rfl
     have e:woken P g { g' with status:=.running } w' o'=woken P g g' w' o':=by simp[woken,hb,hm]
     rw[e]at key;exact key
    ·have:woken P g g' w' o'=o':=by simp[woken,hm]
     rw[this];exact hso
 ·intro i x hi
  rcases Zj hi with⟨_,rfl⟩|⟨hij,hi'⟩
  ·exact hsat
  ·have hs:=iv.sat i x hi'
   refine hs.keep hsat0 hsize fun b hb=>hkeep b (hb.lt hs) (hdis1 i x b hij hi' hb) fun⟨a,c⟩=>iv.shB a i x b hi' c hb
 ·intro i x hi
  rcases Zj hi with⟨_,rfl⟩|⟨hij,hi'⟩
  ·exact htok
  ·exact iv.tok i x hi'
 ·intro i i' a b x hii ha hb hw hx
  rcases Zj ha with⟨e,rfl⟩|⟨hij,ha'⟩
  ·subst e
   have hb':H[i']?=some b:=(Zj hb).resolve_left (fun q=>hii q.1.symm) |>.2
   rcases hgr'.w x hw with hw|hw
   ·exact iv.dis i i' h b x hii hj hb' hw hx
   ·have:=hx.lt (iv.sat i' b hb');omega
  ·rcases Zj hb with⟨e,rfl⟩|⟨hij',hb'⟩
   ·subst e
    rcases hgr'.b x hx with hx|hx
    ·exact iv.dis i i' a h x hii ha' hj hw hx
    ·have:=hw.b.lt (iv.sat i a ha');omega
   ·exact iv.dis i i' a b x hii ha' hb' hw hx
 ·intro ht i x b hi hs hb
  have ht0:=hsh' ht
  have hs':=(hSh b).1 hs
  rcases Zj hi with⟨e,rfl⟩|⟨hij,hi'⟩
  ·rcases hgr'.b b hb with hb|hb
   ·exact iv.shB ht0 j h b hj hs' hb
   ·have hsr:=iv.sh ht0
    have:b<w.heap.size:=by
     obtain⟨⟨_,h1⟩,⟨_,h2⟩,h3,_⟩:=hsr
     rcases hs' with rfl|rfl|rfl
     ·exact getElem?_lt h1
     ·exact getElem?_lt h2
     ·exact getElem?_lt h3
    omega
  ·exact iv.shB ht0 i x b hi' hs' hb
 ·rw[hlen]
  obtain⟨hl1,hl2⟩:=Zj2 (h':=h') hj
  have hshlt:∀b,tm.st≠12∧Sh γ b→b<w.heap.size:=fun b ⟨ht0,hs'⟩=>by
   obtain⟨⟨_,h1⟩,⟨_,h2⟩,h3,_⟩:=iv.sh ht0
   rcases hs' with rfl|rfl|rfl
   ·exact getElem?_lt h1
   ·exact getElem?_lt h2
   ·exact getElem?_lt h3
  have inL:∀i b,InB (Zng H i) b→∃x,H[i]?=some x∧InB x.L b:=fun i b hb=>by
   cases hi:H[i]? with
   | none=>simp[Zng,hi]at hb;obtain⟨o,h1,_⟩:=hb;simp at h1
   | some x=>rw[Yo hi]at hb;exact⟨x,rfl,hb⟩
  have hti:=iv.ti.step (u:=MemOp.ofEvents j g.frame.fn g.frame.place es) (M:=w'.heap.size) (Lf':=Zng (H.set j h')) hlt hsize (by rw[Yo hj,hl1];exact hgr) hl2
   (fun i b hij hw hb=>by
    rw[Yo hj]at hb
    obtain⟨x,hx,_⟩:=inL i b hw.b
    rw[Yo hx]at hw
    exact iv.dis i j x h b hij hx hj hw hb)
   (fun i b hij hw hb=>by
    rw[Yo hj]at hw
    obtain⟨x,hx,hb'⟩:=inL i b hb
    exact iv.dis j i h x b (fun e=>hij e.symm) hj hx hw hb')
   (fun i b hs hb=>by
    obtain⟨x,hx,hb'⟩:=inL i b hb
    exact iv.shB hs.1 i x b hx hs.2 hb')
   (fun i b hb=>by
    obtain⟨x,hx,hb'⟩:=inL i b hb
    exact hb'.lt (iv.sat i x hx))
   hshlt (by rw[Yo hj];exact hev)
  refine hti.less (fun b ⟨a,c⟩=>⟨hsh' a,(hSh b).1 c⟩) fun i ⟨x,hx,hp⟩=>?_
  rcases Zj hx with⟨e,rfl⟩|⟨hij,hx'⟩
  ·subst e;exact⟨h,hj,hpt hp⟩
  ·exact⟨x,hx',hp⟩
 ·intro i x hi
  rcases Zj hi with⟨e,rfl⟩|⟨hij,hi'⟩
  ·subst e
   rw[Deaf_own,iv.deaf _ h hj,hdf]
  ·rw[Deaf_other t (fun q=>hij q.symm) _ ug];exact iv.deaf i x hi'
 ·intro i x hi
  rcases Zj hi with⟨_,rfl⟩|⟨_,hi'⟩
  ·exact hok
  ·exact iv.ok i x hi'
 ·intro o ho hb h0 i y hi hy hyb
  rcases hget 0 o ho with⟨e,rfl⟩|⟨hij,o',h1,rfl⟩
  ·exfalso
   rcases hnb with a|⟨_,a⟩
   ·exact a hb
   ·omega
  ·have hmain:H[0]?=some (.main L0 tm):=by rw[iv.hd];rfl
   have htm:tm'=tm:=by
    have:(H.set j h')[0]?=H[0]?:=Z4a (fun q=>hij q.symm)
    rw[hH,hmain]at this
    simp at this
    exact this.2
   subst htm
   have blk:∀o,(woken P g g' w' o).status=.blocked→o.status=.blocked:=fun o hb=>by
    unfold woken at hb
    split at hb
    ·unfold Goroutine.again at hb
     split at hb
     ·assumption
     ·cases hb
     ·cases hb
     ·exact hb
    ·exact hb
   rcases hget i y hy with⟨e,rfl⟩|⟨hij',y',h2,rfl⟩
   ·exfalso
    rcases hnb with a|⟨_,a⟩
    ·exact a hyb
    ·omega
   ·obtain⟨h3,x,h4,h5⟩:=iv.nm o' h1 (blk o' hb) h0 i y' hi h2 (blk y' hyb)
    exact⟨h3,x,by rw[Z4a (fun q=>hij' q.symm)];exact h4,h5⟩
 ·refine⟨fun b hb=>?_,fun i x b hi hw ho=>?_,fun a b c=>iv.old.sh (hsh' a) b ((hSh b).1 c),fun b hb=>Z3k (iv.old.lt b hb) hsize⟩
  ·rw[hkeep b (iv.old.lt b hb) (fun hw=>iv.old.own j h b hj hw hb) (fun⟨a,c⟩=>iv.old.sh a b c hb)]
   exact iv.old.same b hb
  ·rcases Zj hi with⟨_,rfl⟩|⟨_,hi'⟩
   ·rcases hgr'.w b hw with hw|hw
    ·exact iv.old.own j h b hj hw ho
    ·have:=iv.old.lt b ho;omega
   ·exact iv.old.own i x b hi' hw ho
def gh(main:Bool)(L:Za)(t:Tk):Gh:=cond main (.main L t) (.live L t)
theorem Zp5{m:Bool}{L:Za}{t:Tk}:(gh m L t).L=L:=by cases m<;>rfl
theorem Ziz{m:Bool}{L:Za}{t:Tk}:(gh m L t).tk=t:=by cases m<;>rfl
theorem gh_late{m:Bool}{L:Za}{t:Tk}:(gh m L t).late=false:=by cases m<;>rfl
theorem Shr.keep{γ:Gm}{w w':World}(h:Shr γ w)(hk:∀b,Sh γ b→w'.heap[b]?=w.heap[b]?):Shr γ w':=by
 obtain⟨⟨a,h1⟩,⟨b,h2⟩,h3,h4⟩:=h
 exact⟨⟨a,by rw[hk _ (.inl rfl)];exact h1⟩,⟨b,by rw[hk _ (.inr (.inl rfl))];exact h2⟩,by rw[hk _ (.inr (.inr rfl))];exact h3,h4⟩
theorem Shr.lt{γ:Gm}{w:World}(h:Shr γ w){b:Nat}(hb:Sh γ b):b<w.heap.size:=by
 obtain⟨⟨_,h1⟩,⟨_,h2⟩,h3,_⟩:=h
 rcases hb with rfl|rfl|rfl
 ·exact getElem?_lt h1
 ·exact getElem?_lt h2
 ·exact getElem?_lt h3
theorem Zjs{es:Array Event}{d:Nat}(h:∀e∈es,e.loc≠.mark .disable∧e.loc≠.mark .enable):deafBehind d es=d:=by
 obtain⟨l⟩:=es
 simp only[deafBehind,List.foldl_toArray']
 induction l with
 | nil=>rfl
 | cons e l ih=>
  have he:=h e (by simp)
  have ih':=ih fun e he=>h e (by simp at he ⊢;exact .inr he)
  rw[Z3y]
  obtain⟨loc,wr,sy⟩:=e
  cases loc with
  | mark m=>cases m<;>first|exact ih'|exact absurd rfl he.1|exact absurd rfl he.2
  | _=>exact ih'
theorem EvIn.noDeaf{B W:Nat→Prop}{N:Nat}{e:Event}(h:EvIn B W N e):e.loc≠.mark .disable∧e.loc≠.mark .enable:=by
 rcases h with⟨b,h1,_⟩|⟨m,rfl,hm⟩
 ·rcases h1 with h1|⟨a,h1,_⟩<;>rw[h1]<;>exact⟨by simp,by simp⟩
 ·rcases hm with rfl|⟨f,rfl⟩<;>exact⟨by simp,by simp⟩
end Go.HL
