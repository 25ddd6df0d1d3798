/- Texts laid into one, without what the claim does not use. Conditions: none. -/
import Derived.Test.YtkookaogdkdegacGreatDoorSPC
import Derived.Conc.EntryLaws
import Derived.Conc.Own2
import Derived.Conc.TokenWalk
import Derived.Conc.DeferLaws
import Derived.Conc.MarkLaws
import Derived.LaidEql
import Derived.Stop.Asserts
set_option linter.unusedVariables false
set_option linter.unusedSimpArgs false
set_option linter.unusedSectionVars false
set_option maxHeartbeats 4000000
set_option maxRecDepth 100000
namespace Go.HL
open Go Go.Proofs Go.Proofs.Tryz
variable[Tasks]
section
variable{P:Program}{L:Za}{R:Value→Za→Prop}{a:Act}{o:Oper}
theorem Zjn{b:Frame}{a':Act}{ops:Array Oper}{i:Nat}{is:List Nat}{k:List Item}{cs:List Frame}{o':Oper}{f:FuncId}{fn:Func}{xs:Array Operand}{ats:Array TypeId}
  (ho:ops[i]?=some o')(hop:o'.op=.call { callee:=.value (.func f),args:=xs,argTypes:=ats })(hf:P.funcs[f]?=some fn)(hb:fn.body.isNone=true):mayWake P (Conc.G (b.at a' (.inRegion ops (i::is)::k)) cs)=true:=by
 have h2:fn.body=none:=by simpa using hb
 have ef:(b.at a' (.inRegion ops (i::is)::k)).eval (.func f)=.func (.func f) #[] #[]:=rfl
 simp[mayWake,Conc.G,Frame.at,ho,hop]at ef ⊢
 simp[ef,hf,h2]
theorem o_entry{f:FuncId}{fn:Func}{xs:Array Operand}{ats:Array TypeId}{E:Array Value→Sem Value}(hop:o.op=.call { callee:=.value (.func f),args:=xs,argTypes:=ats })(hf:P.funcs[f]?=some fn)(hname:(fn.name == "runtime.NumGoroutine")=false)(hb:fn.body.isNone=true)
  (hn:Extern.findNext fn=none)(he:Extern.find fn=some E)(t:Tk)(hat:t.at_∈L.flatten)(h12:t.st≠12)
  (h:∀k w γ,Sat k w L→Shr γ w→Ziq t γ→(∃v w' t' γ' L' evs,(E (xs.map a.eval)).run P w=.ok v w'∧(E (xs.map a.eval)).events P w #[⟨.mark (.extern f),false,true⟩]=#[⟨.mark (.extern f),false,true⟩]++evs∧(∀x∈evs,x.sync=true∧∀g,x.loc≠.mark (.extern g))∧
    Mv t γ t' γ' evs∧Shr γ' w'∧Only γ w w'∧Upd L t.todo t.obj t'.obj L'∧R v L')∨(t.st=9∧γ.sem=0∧(E (xs.map a.eval)).run P w=.halt .blocked w)):OpW P o a.eval L R:=by
 refine .raw fun main Φ b k cs a' ops i is o' h1 h2 h3 h4 h5 h6=>?_
 have hop':=h2.trans hop
 have e1:=Conc.execOp_call_func (a:=a) hop
 refine .shared t (fun g' L'=>∃v,g'=Conc.G (b.at (a'.put o'.dst v) (.inRegion ops is::k)) cs∧R v L') rfl hat h12 (fun kk w γ hs hsh hc=>?_) (fun g' L' ⟨v,e,hr⟩=>by subst e;exact h6 v L' hr)
 rcases h kk w γ hs hsh hc with⟨v,w',t',γ',L',evs,r1,r2,r3,r4,r5,r6,r7,r8⟩|⟨r1,r2,r3⟩
 ·refine .inl ⟨_,w',evs,t',γ',L',?_,rfl,r4,⟨fun _ _=>Zjn h3 hop' hf hb,fun _ _=>Zjn h3 hop' hf hb⟩,r5,r6,r7,v,rfl,r8⟩
  rw[Z54 (v:=v) (w':=w') h3 h4 h5 (by rw[h1,e1,Z6k hf hname hb hn he,r1];rfl)]
  unfold Conc.listed
  rw[h1,e1,Conc.events_callFunc_extern hf hname hb hn he]
  simp only[List.push_toArray,Z2b]
  rw[r2,Conc.seen_entry _ _ _ r3]
 ·refine .inr ⟨r1,r2,rfl,?_⟩
  have hr:(execOp a'.eval o').run P w=.halt .blocked w:=by rw[h1,e1,Z6k hf hname hb hn he,r3];rfl
  rw[Conc.stepG_oper h3 h4]
  simp[stepG.apply,hr,Conc.G,GStep.after,Z6q]
theorem o_lib(t:Tk)(hat:t.at_∈L.flatten)(h12:t.st≠12)(h:∀k w γ,Sat k w L→Shr γ w→Ziq t γ→∃v w' L',(execOp a.eval o).run P w=.ok (.value v) w'∧(∀fn,NoX (seen P fn ((execOp a.eval o).events P w #[]))∧Tr w w' L L' (seen P fn ((execOp a.eval o).events P w #[])))∧Sat k w' L'∧R v L'):OpW P o a.eval L R:=by
 refine .raw fun main Φ b k cs a' ops i is o' h1 h2 h3 h4 h5 h6=>?_
 refine .lib t (fun g' L'=>∃v,g'=Conc.G (b.at (a'.put o'.dst v) (.inRegion ops is::k)) cs∧R v L') rfl hat h12 (fun kk w γ hs hsh hc=>?_) (fun g' L' ⟨v,e,hr⟩=>by subst e;exact h6 v L' hr)
 obtain⟨v,w',L',r1,r2,r3,r4⟩:=h kk w γ hs hsh hc
 refine⟨_,w',_,L',Z54 (v:=v) (w':=w') h3 h4 h5 (by rw[h1,r1]),rfl,?_,?_,r3,v,rfl,r4⟩
 ·unfold Conc.listed;rw[h1];exact(r2 _).2
 ·unfold Conc.listed;rw[h1];exact(r2 _).1
theorem o_recv(t:Tk)(z:Value)(h20:t.st=20)(hat:t.at_∈L.flatten)(hr:∀w,(execOp a.eval o).run P w=.ok (.comm #[Conc.rcase t.todo z] true (.recv true)) w)(he:∀w,(execOp a.eval o).events P w #[]=#[])
  (n1:∀i L',t.b≤i→i<t.many→Upd L t.todo t.obj ({ t with st:=21,a:=i,b:=i+1 }:Tk).obj L'→R (.tuple #[.int .i64 (i:Nat),.bool true]) L')(n2:∀L',Upd L t.todo t.obj ({ t with st:=22 }:Tk).obj L'→R (.tuple #[z,.bool false]) L'):OpW P o a.eval L R:=by
 refine .raw fun main Φ b k cs a' ops i is o' h1 h2 h3 h4 h5 h6=>?_
 have hfin:∀v,Conc.served (Conc.G (b.at a' (.inRegion ops (i::is)::k)) cs) v=Conc.G (b.at (a'.put o'.dst v) (.inRegion ops is::k)) cs:=fun v=>by
  simp only[Conc.served,Conc.G,Z4p,h3];rfl
 refine .recv t z rfl h20 hat (fun kk w hs=>?_) (fun i L' hb hi hu=>?_) fun L' hu=>?_
 ·rw[Conc.stepG_comm h3 h4 h5 (by rw[h1];exact hr w)]
  unfold Conc.listed
  rw[h1,he w,Z6q]
 ·rw[hfin];exact h6 _ L' (n1 i L' hb hi hu)
 ·rw[hfin];exact h6 _ L' (n2 L' hu)
theorem o_send(t:Tk)(v z:Value)(bl:List Zp){L1 L':Za}(h21:t.st=21)(hr:∀w,(execOp a.eval o).run P w=.ok (.comm #[Conc.scase t.back v z] true .send) w)(he:∀w,(execOp a.eval o).events P w #[]=#[])
  (hu:Upd L t.todo t.obj ({ t with st:=20 }:Tk).obj L1)(hls:LS (bl++L'.flatten) L1.flatten)(hbl:∀p∈bl,Zet p.2=true)(hR:Tasks.R t.tag t.a v bl)(n:R undef L'):OpW P o a.eval L R:=by
 refine .raw fun main Φ b k cs a' ops i is o' h1 h2 h3 h4 h5 h6=>?_
 have hfin:∀v,Conc.served (Conc.G (b.at a' (.inRegion ops (i::is)::k)) cs) v=Conc.G (b.at (a'.put o'.dst v) (.inRegion ops is::k)) cs:=fun v=>by
  simp only[Conc.served,Conc.G,Z4p,h3];rfl
 refine .send t v z bl rfl h21 (fun kk w hs=>?_) hu hls hbl hR ?_
 ·rw[Conc.stepG_comm h3 h4 h5 (by rw[h1];exact hr w)]
  unfold Conc.listed
  rw[h1,he w,Z6q]
 ·rw[hfin];exact h6 _ L' n
theorem o_select(t:Tk)(c0:CommCase)(z:Value)(h0:t.st=0)(hat:t.at_∈L.flatten)(hb:t.b<t.many)(hn:1≤t.n)
  (hc:c0=(if t.a=t.many then { chan:=.chan none,send:=some (.int .i64 (t.a:Nat)),zero:=.int .i64 0 } else Conc.scase t.todo (.int .i64 (t.a:Nat)) (.int .i64 0)))
  (hr:∀w,(execOp a.eval o).run P w=.ok (.comm #[c0,Conc.rcase t.back z] true .select) w)(he:∀w,(execOp a.eval o).events P w #[]=#[])
  (n1:t.a<t.many→∀L',Upd L t.todo t.obj ({ t with a:=t.a+1,l:=t.a::t.l }:Tk).obj L'→R (.tuple #[goInt 0,.bool false,z]) L')
  (n2:∀i v bl L',i∈t.l→Tasks.R t.tag i v bl→Upd L t.todo t.obj ({ t with b:=t.b+1,l:=t.l.erase i }:Tk).obj L'→R (.tuple #[goInt 1,.bool true,v]) (bl::L')):OpW P o a.eval L R:=by
 refine .raw fun main Φ b k cs a' ops i is o' h1 h2 h3 h4 h5 h6=>?_
 have hfin:∀v,Conc.served (Conc.G (b.at a' (.inRegion ops (i::is)::k)) cs) v=Conc.G (b.at (a'.put o'.dst v) (.inRegion ops is::k)) cs:=fun v=>by
  simp only[Conc.served,Conc.G,Z4p,h3];rfl
 refine .select t c0 z rfl h0 hat hb hn hc (fun kk w hs=>?_) (fun ha L' hu=>?_) fun i v bl L' hi hR hu=>?_
 ·rw[Conc.stepG_comm h3 h4 h5 (by rw[h1];exact hr w)]
  unfold Conc.listed
  rw[h1,he w,Z6q]
 ·rw[hfin];exact h6 _ L' (n1 ha L' hu)
 ·rw[hfin];exact h6 _ _ (n2 i v bl L' hi hR hu)
theorem Zsp{n:Nat}{c:Code}{Q:Exit→Z9→Za→Prop}{ρ:Z9}{r:List Zp}(t t':Tk)(c1 d1 u E:Nat)(h12:t.st=12)(h0:t'.st=0)(e1:t'.todo=c1)(e2:t'.back=d1)(e3:t'.wg=u)(e4:t'.n=0)(e5:t'.a=0)(e6:t'.b=0)(e7:t'.l=[])
  (hls:LS (t.at_::(c1,.chan 0 #[] false 0 0 false)::(d1,.chan 0 #[] false 0 0 false)::(u,Un Tasks.T 0 0 0)::r) L.flatten)(h:HW P n c Q ρ [t'.at_::r]):HW P n c Q ρ L:=
 fun main Φ b k cs a hb hc ha=>.begin t t' c1 d1 u E h12 h0 e1 e2 e3 e4 e5 e6 e7 hls (h main Φ b k cs a hb hc ha)
end
section
variable{P:Program}{L:Za}{R:Value→Za→Prop}{a:Act}{o:Oper}
theorem Z1m{P:Program}{fn:FuncId}{es:Array Event}(h:∀x∈es,x.sync=true∧∀g,x.loc≠.mark (.extern g)):seen P fn es=es:=by
 rw[Conc.seen_def,Conc.seen_fold_sync _ _ _ _ (fun x hx=>h x (by simpa using hx))]
 simp
theorem o_close{x:Operand}{ats:Array TypeId}(t:Tk)(hop:o.op=.call { callee:=.builtin .close,args:=#[x],argTypes:=ats })(hx:a.eval x=.chan (some t.todo))(h0:t.st=0)(hl:t.l=[])(hat:t.at_∈L.flatten)
  (n:∀L',Upd L t.todo t.obj ({ t with st:=5,b:=t.n }:Tk).obj L'→R (.tuple #[]) L'):OpW P o a.eval L R:=by
 refine .raw fun main Φ b k cs a' ops i is o' h1 h2 h3 h4 h5 h6=>?_
 have hop':=h2.trans hop
 obtain⟨l,r,e⟩:=Z49 hat
 let L':Za:=[l++(t.todo,({ t with st:=5,b:=t.n }:Tk).obj)::r]
 have hu:Upd L t.todo t.obj ({ t with st:=5,b:=t.n }:Tk).obj L':=⟨l,r,e,by simp[L']⟩
 refine .shared t (fun g' L'=>g'=Conc.G (b.at (a'.put o'.dst (.tuple #[])) (.inRegion ops is::k)) cs∧R (.tuple #[]) L') rfl hat (by omega) (fun kk w γ hs hsh hc=>.inl ?_) (fun g' L' ⟨e,hr⟩=>by subst e;exact h6 _ L' hr)
 obtain⟨⟨s,h7⟩,⟨s2,h8⟩,h9,h10,h11,h12⟩:=hsh
 have hcl:γ.closed=false:=by have:=hc.2.2.2.2;simp[Cm,h0]at this;exact this.2.2.2
 rw[hcl,← hc.1]at h7
 simp only[Act.eval,Array.getD_eq_getD_getElem?]at hx
 have hr:(execOp a.eval o).run P w=.ok (.value (.tuple #[])) (w.setChan t.todo 0 #[] true s s false):=by
  unfold execOp
  simp only[hop]
  simp[go_sem,hx,run_close_open _ _ h7,World.setChan]
 have he:(execOp a.eval o).events P w #[]=Conc.closeEvents t.todo:=by
  unfold execOp
  simp only[hop]
  simp[go_sem,hx,events_close_open _ _ h7,Conc.closeEvents]
 have hlt:=getElem?_lt h7
 refine⟨_,w.setChan t.todo 0 #[] true s s false,#[⟨.obj γ.todo,false,true⟩,⟨.obj γ.todo,true,true⟩],_,{ γ with closed:=true },L',?_,rfl,.close h0 hl,⟨fun q q2=>?_,fun _ _=>?_⟩,?_,?_,hu,rfl,n L' hu⟩
 ·rw[Z54 h3 h4 h5 (by rw[h1];exact hr)]
  unfold Conc.listed
  rw[h1,he,Z1m (by intro e he;simp only[Conc.closeEvents,Z50,Z2h,Z4m,Z6j]at he;rcases he with rfl|rfl<;>simp),Conc.closeEvents,hc.1]
 ·simp only at q2;omega
 ·simp[mayWake,Conc.G,Frame.at,h3,hop']
 ·refine⟨⟨s,?_⟩,⟨s2,?_⟩,?_,h10,h11,h12⟩
  ·show (w.heap.setIfInBounds t.todo _)[γ.todo]?=_
   rw[← hc.1,Z2o hlt]
  ·show (w.heap.setIfInBounds t.todo _)[γ.back]?=_
   rw[hc.1,Z2e h10];exact h8
  ·show (w.heap.setIfInBounds t.todo _)[γ.wg]?=_
   rw[hc.1,Z2e h11];exact h9
 ·refine⟨by show (w.heap.setIfInBounds t.todo _).size=_;simp,rfl,rfl,rfl,fun q hq _=>?_⟩
  show (w.heap.setIfInBounds t.todo _)[q]?=_
  rw[hc.1,Z2e (fun e=>hq e.symm)]
theorem o_go{d:Deferred}{f:Fn}{c:Array Value}(t:Tk){L1 L' Lc:Za}(h3:t.st=3)(hr:∀w,(execOp a.eval o).run P w=.ok (.spawn d) w)(he:∀w,(execOp a.eval o).events P w #[]=#[])(hd:d.target=.fn f c)
  (hu:Upd L t.todo t.obj ({ t with st:=0,n:=t.n+1 }:Tk).obj L1)(hgv:Give L1 L' Lc { t with st:=20 })(child:Lo P false (fun _ _=>False) (Conc.born P d) Lc)(n:R undef L'):OpW P o a.eval L R:=by
 refine .raw fun main Φ b k cs a' ops i is o' h1 h2 h3' h4 h5 h6=>?_
 refine .go t d rfl rfl h3 (fun kk w hs=>?_) hu hgv child (h6 _ L' n)
 rw[Conc.stepG_spawn h3' h4 h5 (by rw[h1];exact hr w) hd]
 unfold Conc.listed
 rw[h1,he w,Z6q]
end
section
variable{P:Program}
theorem run_recv{e:Operand→Value}{o:Oper}{T E:TypeId}{dir:ChanDir}{x:Operand}{c:Nat}{z:Value}{w:World}(ho:o.op=.recv T x true)(hx:e x=.chan (some c))(hu:(underlying T).run P w=.ok (.chan dir E) w)(hz:(zeroValue E).run P w=.ok z w):
  (execOp e o).run P w=.ok (.comm #[Conc.rcase c z] true (.recv true)) w:=by
 unfold execOp
 simp[ho,hx,hu,hz,Result.andThen,Conc.rcase]
theorem run_send{e:Operand→Value}{o:Oper}{x y:Operand}{c:Nat}{v:Value}{w:World}(ho:o.op=.send x y)(hx:e x=.chan (some c))(hy:e y=v):
  (execOp e o).run P w=.ok (.comm #[Conc.scase c v (.tuple #[])] true .send) w:=by
 unfold execOp
 simp[ho,hx,hy,Conc.scase]
theorem Zsc{e:Operand→Value}{o:Oper}{x y:Operand}{w:World}(ho:o.op=.send x y):(execOp e o).events P w #[]=#[]:=by
 unfold execOp
 simp[ho]
theorem Zsb{e:Operand→Value}{o:Oper}{T E:TypeId}{dir:ChanDir}{x:Operand}{z:Value}{w:World}(ho:o.op=.recv T x true)(hu:(underlying T).run P w=.ok (.chan dir E) w)(hu2:∀es,(underlying T).events P w es=es)(hz2:∀es,(zeroValue E).events P w es=es):
  (execOp e o).events P w #[]=#[]:=by
 unfold execOp
 simp[ho,hu,hu2,hz2,Result.evThen]
variable{n:Nat}{ops rest:List Oper}{Q:Exit→Z9→Za→Prop}{ρ:Z9}{L:Za}
theorem ho_recv{d:Nat}{T E ty:TypeId}{dir:ChanDir}{x:Operand}{z:Value}{pos:String}{af:Array Edge}(t:Tk)(h20:t.st=20)(hat:t.at_∈L.flatten)(hx:ev ρ x=some (.chan (some t.todo)))
  (hu:∀w,(underlying T).run P w=.ok (.chan dir E) w)(hz:∀w,(zeroValue E).run P w=.ok z w)(hu2:∀w es,(underlying T).events P w es=es)(hz2:∀w es,(zeroValue E).events P w es=es)(hn:Nat.blt d n=true)
  (n1:∀i L',t.b≤i→i<t.many→Upd L t.todo t.obj ({ t with st:=21,a:=i,b:=i+1 }:Tk).obj L'→HO P n ops Q rest ((d,.tuple #[.int .i64 (i:Nat),.bool true])::ρ) L')
  (n2:∀L',Upd L t.todo t.obj ({ t with st:=22 }:Tk).obj L'→HO P n ops Q rest ((d,.tuple #[z,.bool false])::ρ) L'):HO P n ops Q (⟨some d,.recv T x true,ty,pos,af,none⟩::rest) ρ L:=
 Zb4 (fun a _=>Yv _ rfl _) fun a ha=>o_recv t z h20 hat (fun w=>run_recv rfl (ha.ev hx) (hu w) (hz w)) (fun w=>Zsb (z:=z) rfl (hu w) (hu2 w) (hz2 w))
  (fun i L' hb hi h=>⟨_,ha.put (Z2m hn) _,n1 i L' hb hi h⟩) fun L' h=>⟨_,ha.put (Z2m hn) _,n2 L' h⟩
theorem ho_send{x y:Operand}{ty:TypeId}{v:Value}{pos:String}{af:Array Edge}(t:Tk)(bl:List Zp){L1 L':Za}(h21:t.st=21)(hx:ev ρ x=some (.chan (some t.back)))(hy:ev ρ y=some v)
  (hu:Upd L t.todo t.obj ({ t with st:=20 }:Tk).obj L1)(hls:LS (bl++L'.flatten) L1.flatten)(hbl:∀p∈bl,Zet p.2=true)(hR:Tasks.R t.tag t.a v bl)(h:HO P n ops Q rest ρ L'):HO P n ops Q (⟨none,.send x y,ty,pos,af,none⟩::rest) ρ L:=
 Zb4 (fun a _=>Yv _ rfl _) fun a ha=>o_send t v (.tuple #[]) bl h21 (fun w=>run_send rfl (ha.ev hx) (ha.ev hy)) (fun w=>Zsc rfl) hu hls hbl hR ⟨_,ha.none undef,h⟩
theorem ho_close{x:Operand}{ty:TypeId}{pos:String}{af:Array Edge}{ats:Array TypeId}(t:Tk)(h0:t.st=0)(hl:t.l=[])(hat:t.at_∈L.flatten)(hx:ev ρ x=some (.chan (some t.todo)))
  (h:∀L',Upd L t.todo t.obj ({ t with st:=5,b:=t.n }:Tk).obj L'→HO P n ops Q rest ρ L'):HO P n ops Q (⟨none,.call { callee:=.builtin .close,args:=#[x],argTypes:=ats },ty,pos,af,none⟩::rest) ρ L:=
 Zb4 (fun a _=>Yv _ rfl _) fun a ha=>o_close t rfl (ha.ev hx) h0 hl hat fun L' hu=>⟨_,ha.none _,h L' hu⟩
theorem ho_entry{d:Option Nat}{f:FuncId}{fn:Func}{xs:Array Operand}{ats:Array TypeId}{vs:List Value}{E:Array Value→Sem Value}{ty:TypeId}{pos:String}{af:Array Edge}(hf:P.funcs[f]?=some fn)(hname:(fn.name == "runtime.NumGoroutine")=false)(hb:fn.body.isNone=true)
  (hn:Extern.findNext fn=none)(he:Extern.find fn=some E)(hvs:evs ρ xs.toList=some vs)(hmap:∀a,Agr n a ρ→xs.map a.eval=⟨vs⟩)(t:Tk)(hat:t.at_∈L.flatten)(h12:t.st≠12)
  (h:∀k w γ,Sat k w L→Shr γ w→Ziq t γ→(∃v w' t' γ' L' es,(E ⟨vs⟩).run P w=.ok v w'∧(E ⟨vs⟩).events P w #[⟨.mark (.extern f),false,true⟩]=#[⟨.mark (.extern f),false,true⟩]++es∧(∀x∈es,x.sync=true∧∀g,x.loc≠.mark (.extern g))∧
    Mv t γ t' γ' es∧Shr γ' w'∧Only γ w w'∧Upd L t.todo t.obj t'.obj L'∧∃ρ',(∀a,Agr n a ρ→Agr n (a.put d v) ρ')∧HO P n ops Q rest ρ' L')∨(t.st=9∧γ.sem=0∧(E ⟨vs⟩).run P w=.halt .blocked w)):
  HO P n ops Q (⟨d,.call { callee:=.value (.func f),args:=xs,argTypes:=ats },ty,pos,af,none⟩::rest) ρ L:=
 Zb4 (fun a _=>Yv _ rfl _) fun a ha=>o_entry rfl hf hname hb hn he t hat h12 fun k w γ h1 h2 h3=>by
  rw[hmap a ha]
  rcases h k w γ h1 h2 h3 with⟨v,w',t',γ',L',es,r1,r2,r3,r4,r5,r6,r7,ρ',r8,r9⟩|r
  ·exact .inl ⟨v,w',t',γ',L',es,r1,r2,r3,r4,r5,r6,r7,ρ',r8 a ha,r9⟩
  ·exact .inr r
end
section
variable{P:Program}
theorem Zw6{e:Operand→Value}{o:Oper}{c1 c2:SelectCase}{z1 z2:Value}{w:World}(ho:o.op=.select #[c1,c2] true)(h1:∀w,(zeroValue c1.elem).run P w=.ok z1 w)(h2:∀w,(zeroValue c2.elem).run P w=.ok z2 w):
  (execOp e o).run P w=.ok (.comm #[{ chan:=e c1.chan,send:=c1.send.map e,zero:=z1 },{ chan:=e c2.chan,send:=c2.send.map e,zero:=z2 }] true .select) w:=by
 unfold execOp
 simp[ho,h1,h2,Result.andThen,Z5f]
theorem Znm{e:Operand→Value}{o:Oper}{c1 c2:SelectCase}{z1 z2:Value}{w:World}(ho:o.op=.select #[c1,c2] true)(h1:∀w,(zeroValue c1.elem).run P w=.ok z1 w)(h2:∀w,(zeroValue c2.elem).run P w=.ok z2 w)(h3:∀w es,(zeroValue c1.elem).events P w es=es)(h4:∀w es,(zeroValue c2.elem).events P w es=es):
  (execOp e o).events P w #[]=#[]:=by
 unfold execOp
 simp[ho,h1,h2,h3,h4,Result.evThen,Result.andThen,Z5f]
variable{n:Nat}{ops rest:List Oper}{Q:Exit→Z9→Za→Prop}{ρ:Z9}{L:Za}
theorem Zz9{d:Nat}{c1 c2:SelectCase}{x:Operand}{ty:TypeId}{z:Value}{pos:String}{af:Array Edge}(t:Tk)(h0:t.st=0)(hat:t.at_∈L.flatten)(hb:t.b<t.many)(hnn:1≤t.n)(hs1:c1.send=some x)(hs2:c2.send=none)
  (hc1:ev ρ c1.chan=some (.chan (if t.a=t.many then none else some t.todo)))(hx:ev ρ x=some (.int .i64 (t.a:Nat)))(hc2:ev ρ c2.chan=some (.chan (some t.back)))
  (h1:∀w,(zeroValue c1.elem).run P w=.ok (.int .i64 0) w)(h2:∀w,(zeroValue c2.elem).run P w=.ok z w)(h3:∀w es,(zeroValue c1.elem).events P w es=es)(h4:∀w es,(zeroValue c2.elem).events P w es=es)(hn:Nat.blt d n=true)
  (n1:t.a<t.many→∀L',Upd L t.todo t.obj ({ t with a:=t.a+1,l:=t.a::t.l }:Tk).obj L'→HO P n ops Q rest ((d,.tuple #[goInt 0,.bool false,z])::ρ) L')
  (n2:∀i v bl L',i∈t.l→Tasks.R t.tag i v bl→Upd L t.todo t.obj ({ t with b:=t.b+1,l:=t.l.erase i }:Tk).obj L'→HO P n ops Q rest ((d,.tuple #[goInt 1,.bool true,v])::ρ) (bl::L')):HO P n ops Q (⟨some d,.select #[c1,c2] true,ty,pos,af,none⟩::rest) ρ L:=
 Zb4 (fun a _=>Yv _ rfl _) fun a ha=>o_select t _ z h0 hat hb hnn rfl
  (fun w=>by
   rw[Zw6 (z1:=.int .i64 0) (z2:=z) rfl h1 h2]
   rw[ha.ev hc1,ha.ev hc2,hs1,hs2]
   simp only[Z42,Option.map_none,ha.ev hx]
   congr 3
   split<;>rfl) (fun w=>Znm rfl h1 h2 h3 h4)
  (fun hlt L' hu=>⟨_,ha.put (Z2m hn) _,n1 hlt L' hu⟩) fun i v bl L' hi hR hu=>⟨_,ha.put (Z2m hn) _,n2 i v bl L' hi hR hu⟩
end
section
variable{P:Program}
theorem run_go{e:Operand→Value}{o:Oper}{f:Operand}{ats:Array TypeId}{F:Nat}{cap:List Value}{w:World}(ho:o.op=.go { callee:=.value f,args:=#[],argTypes:=ats })(hf:e f=.func (.func F) #[] ⟨cap⟩):
  ∃d:Deferred,(execOp e o).run P w=.ok (.spawn d) w∧(execOp e o).events P w #[]=#[]∧d={ target:=.fn (.func F) ⟨cap⟩,args:=#[] }:=by
 unfold execOp
 simp[ho,resolve,Deferred.ofValue,hf]
variable{n:Nat}{ops rest:List Oper}{Q:Exit→Z9→Za→Prop}{ρ:Z9}{L:Za}
theorem ho_spawn{f:Operand}{ats:Array TypeId}{F:Nat}{cap:List Value}{ty:TypeId}{pos:String}{af:Array Edge}(t:Tk){L1 L' Lc:Za}(h3:t.st=3)(hf:ev ρ f=some (.func (.func F) #[] ⟨cap⟩))
  (hu:Upd L t.todo t.obj ({ t with st:=0,n:=t.n+1 }:Tk).obj L1)(hgv:Give L1 L' Lc { t with st:=20 })(child:Lo P false (fun _ _=>False) (Conc.born P { target:=.fn (.func F) ⟨cap⟩,args:=#[] }) Lc)(h:HO P n ops Q rest ρ L'):
  HO P n ops Q (⟨none,.go { callee:=.value f,args:=#[],argTypes:=ats },ty,pos,af,none⟩::rest) ρ L:=
 Zb4 (fun a _=>Yv _ rfl _) fun a ha=>o_go (f:=.func F) (c:=⟨cap⟩) (d:={ target:=.fn (.func F) ⟨cap⟩,args:=#[] }) t h3
  (fun w=>by obtain⟨d,h1,_,rfl⟩:=run_go (P:=P) (w:=w) (o:=⟨none,.go { callee:=.value f,args:=#[],argTypes:=ats },ty,pos,af,none⟩) rfl (ha.ev hf);exact h1)
  (fun w=>by obtain⟨d,_,h2,rfl⟩:=run_go (P:=P) (w:=w) (o:=⟨none,.go { callee:=.value f,args:=#[],argTypes:=ats },ty,pos,af,none⟩) rfl (ha.ev hf);exact h2) rfl hu hgv child ⟨_,ha.none undef,h⟩
end
end Go.HL
namespace Go.HL
open Go Go.Proofs Go.Conc Go.Proofs.Tryz
variable[Tasks]
section
variable{P:Program}{main:Bool}{Φ:Goroutine→Za→Prop}{b:Frame}{a:Act}{k:List Item}{cs:List Frame}{L:Za}{n:Nat}{Q:Exit→Z9→Za→Prop}{ρ:Z9}
theorem lo_opw{ops:Array Oper}{i:Nat}{is:List Nat}{o:Oper}{R:Value→Za→Prop}(ho:ops[i]?=some o)(hw:Region.wanted o (yielded ops a.tmps)=true)(hb:b.kind≠.early)(h:OpW P o a.eval L R)
  (hn:∀v L',R v L'→Lo P main Φ (G (b.at (a.put o.dst v) (.inRegion ops is::k)) cs) L'):Lo P main Φ (G (b.at a (.inRegion ops (i::is)::k)) cs) L:=by
 cases h with
 | plain h2=>
  refine .own (fun g' L'=>∃v,g'=G (b.at (a.put o.dst v) (.inRegion ops is::k)) cs∧R v L') rfl (fun kk w hs=>?_) (fun g' L' ⟨v,e,hr⟩=>by subst e;exact hn v L' hr)
  obtain⟨nx,v,w',L',e1,e2,e3,e4,e5⟩:=h2 kk w hs
  refine⟨_,w',_,L',?_,rfl,e3.seen (P:=P) (fn:=b.fn),Za5,e4,v,rfl,e5⟩
  rcases e2 with rfl|⟨rfl,rfl⟩
  ·exact stepG_value ho hw hb e1
  ·exact stepG_none ho hw hb e1
 | call f args h2 h3=>
  refine .own (fun g' L'=>g'=G (Frame.enter P f ⟨args⟩ .normal) (b.at a (.inRegion ops (i::is)::k)::cs)∧L'=L) rfl (fun kk w hs=>?_) ?_
  ·obtain⟨e1,e2⟩:=h2 kk w hs
   exact⟨_,w,_,L,stepG_enter ho hw hb e1,rfl,e2.seen (P:=P) (fn:=b.fn),Za5,hs,rfl,rfl⟩
  ·rintro _ _ ⟨rfl,rfl⟩
   refine h3.2 main Φ _ cs fun v L' hr=>?_
   rw[Z4p,ho]
   exact hn v L' hr
 | raw h2=>exact h2 main Φ b k cs a ops i is o rfl rfl ho hw hb fun v L' hr=>hn v L' hr
theorem lo_q{ops:Array Oper}{i:Nat}{is:List Nat}{d:Nat}{op:Op}{ty:TypeId}{pos:String}{af:Array Edge}{v:Value}(ho:ops[i]?=some ⟨some d,op,ty,pos,af,none⟩)(hb:b.kind≠.early)(hd:Nat.blt d n=true)(ha:Agr n a ρ)
  (h:QOp P ⟨some d,op,ty,pos,af,none⟩ ρ L v)(hn:Agr n (a.put (some d) v) ((d,v)::ρ)→Lo P main Φ (G (b.at (a.put (some d) v) (.inRegion ops is::k)) cs) L):Lo P main Φ (G (b.at a (.inRegion ops (i::is)::k)) cs) L:=
 lo_opw ho (Yv _ rfl _) hb (h a.eval fun x _ u hu=>ha.ev hu) fun v' L' ⟨e,e'⟩=>by subst e;subst e';exact hn (ha.put (Z2m hd) v')
/-! ### code that leaves deferred calls behind -/
def HWd(P:Program)(n:Nat)(c:Code)(d:List Deferred)(Q:Exit→Z9→Za→Prop)(ρ:Z9)(L:Za):Prop:=
 ∀(main:Bool) (Φ:Goroutine→Za→Prop) (b:Frame) (k:List Item) (cs:List Frame) (a:Act),b.kind≠.early→(∀e ρ' L',Q e ρ' L'→AfterL P main Φ n (d++a.defers) b k cs e ρ' L')→Agr n a ρ→Lo P main Φ (G (b.at a (.code c::k)) cs) L
theorem HW.hwd{c:Code}(h:HW P n c Q ρ L):HWd P n c [] Q ρ L:=h
theorem Zkc{x y:Code}{d d':List Deferred}(h:HWd P n x d (fun e ρ' L'=>e=.normal∧HWd P n y d' Q ρ' L') ρ L):HWd P n (.seq x y) (d'++d) Q ρ L:=fun main Φ b k cs a hb hc ha=>
 .ctl rfl rfl (fun w=>stepG_seq) (h main Φ b (.code y::k) cs a hb (fun e ρ' L' ⟨he,hy⟩=>by
  subst he
  intro a' hd ha'
  refine hy main Φ b k cs a' hb (fun e2 ρ2 L2 q=>?_) ha'
  have:=hc e2 ρ2 L2 q
  rw[hd,← Z18];exact this) ha)
theorem hwd_true{c:Operand}{x y:Code}{d:List Deferred}(hc:ev ρ c=some (.bool true))(h:HWd P n x d Q ρ L):HWd P n (.cond c x y) d Q ρ L:=fun main Φ b k cs a hb hq ha=>
 .ctl rfl rfl (fun w=>stepG_cond (t:=true) (ha.ev hc)) (h main Φ b k cs a hb hq ha)
theorem Z0e{id:Nat}{f:Nat}{ats:Array TypeId}{ty:TypeId}{pos:String}{af:Array Edge}(h:Q .normal ρ L):HWd P n (.region id #[⟨none,.defer { callee:=.value (.func f),args:=#[],argTypes:=ats },ty,pos,af,none⟩] false) [dcall f #[]] Q ρ L:=fun main Φ b k cs a hb hq ha=>by
 refine .ctl rfl rfl (fun w=>Z63) ?_
 refine .ctl rfl rfl (fun w=>stepG_defer rfl rfl hb rfl) ?_
 refine .ctl rfl rfl (fun w=>Z6l) ?_
 exact hq .normal ρ L h _ (by simp[Act.put]) ⟨ha.size,ha.get⟩
def Zgq(F:Nat)(cap:List Value):Deferred:={ target:=.fn (.func F) ⟨cap⟩,args:=#[] }
theorem Zre{w:World}{ops:Array Oper}{i:Nat}{rest:List Nat}{o:Oper}{F:Nat}{cap:List Value}{x:Operand}{ats:Array TypeId}(ho:ops[i]?=some o)(hw:Region.wanted o (yielded ops a.tmps)=true)(hk:b.kind≠.early)
  (hop:o.op=.defer { callee:=.value x,args:=#[],argTypes:=ats })(hx:a.eval x=.func (.func F) #[] ⟨cap⟩):
  stepG P main (G (b.at a (.inRegion ops (i::rest)::k)) cs) w=.go (G (b.at (Act.put ⟨a.tmps,Zgq F cap::a.defers⟩ o.dst undef) (.inRegion ops rest::k)) cs) w #[]:=by
 have hr:(execOp a.eval o).run P w=.ok (.defer (Zgq F cap)) w:=by
  unfold execOp
  simp[hop,resolve,Deferred.ofValue,hx,Zgq]
 have he:(execOp a.eval o).events P w #[]=#[]:=by
  unfold execOp
  simp[hop,resolve,Deferred.ofValue,hx]
 have hfin:(b.at ⟨a.tmps,Zgq F cap::a.defers⟩ (.inRegion ops (i::rest)::k)).finish undef=b.at (Act.put ⟨a.tmps,Zgq F cap::a.defers⟩ o.dst undef) (.inRegion ops rest::k):=by rw[Z4p,ho];rfl
 have hk':(b.kind == CallKind.early)=false:=by simpa using hk
 rw[stepG_oper ho hw,← hfin]
 simp[stepG.apply,hr,he,G,Frame.at,hk',GStep.after,seen_none]
theorem Zvx{id:Nat}{d x:Nat}{F:Nat}{cap:List Value}{v:Value}{op:Op}{ats:Array TypeId}{ty ty2:TypeId}{pos pos2:String}{af af2:Array Edge}(hn:Nat.blt d n=true)(Uu:QOp P ⟨some d,op,ty,pos,af,none⟩ ρ L v)
  (hx:lk ((d,v)::ρ) x=some (.func (.func F) #[] ⟨cap⟩))(h:Q .normal ((d,v)::ρ) L):
  HWd P n (.region id #[⟨some d,op,ty,pos,af,none⟩,⟨none,.defer { callee:=.value (.tmp x),args:=#[],argTypes:=ats },ty2,pos2,af2,none⟩] false) [Zgq F cap] Q ρ L:=fun main Φ b k cs a hb hq ha=>by
 refine .ctl rfl rfl (fun w=>Z63) ?_
 refine lo_q rfl hb hn ha Uu fun ha'=>?_
 refine .ctl rfl rfl (fun w=>Zre (x:=.tmp x) rfl rfl hb rfl (ha'.ev (x:=.tmp x) hx)) ?_
 refine .ctl rfl rfl (fun w=>Z6l) ?_
 exact hq .normal _ L h _ (by simp[Act.put]) ⟨ha'.size,ha'.get⟩
/-! ### the frames of a goroutine -/
def Zfe(P:Program):Frame:={ (default:Frame)with fn:=P.funcs.size,defers:=[],mode:=.panicking [goexitEntry] }
theorem Zxd{w:World}{F:Nat}{fn:Func}{c:Code}{cap:List Value}(hf:P.funcs[F]?=some fn)(hname:(fn.name == "runtime.NumGoroutine")=false)(hb:fn.body=some c):
  stepG P main (born P (Zgq F cap)) w=.go (G ((baseD F).at { tmps:=⟨cap⟩++Array.replicate (fn.ntmps-cap.length) undef,defers:=[] } [.code c]) [Zfe P]) w #[]:=by
 have h1:¬ fn.name= "runtime.NumGoroutine" := by simpa using hname
 have:=enter_atD (P:=P) ⟨cap⟩ hf hb
 simp only[Z31]at this
 rw[← this]
 simp[born,Zgq,stepG,unwind,callDeferred,invoke,callFunc,hf,h1,hb,GStep.after,seen_none,G,Zfe,default,instInhabitedFrame.default]
theorem Zn2{w:World}{todo:List Item}{ds:List Deferred}{F:Nat}{fn:Func}{c:Code}{cap:List Value}(hd:a.defers=Zgq F cap::ds)(hf:P.funcs[F]?=some fn)(hname:(fn.name == "runtime.NumGoroutine")=false)(hb:fn.body=some c):
  stepG P main (G { b.at a todo with mode:=.returning } cs) w=
   .go (G ((baseD F).at { tmps:=⟨cap⟩++Array.replicate (fn.ntmps-cap.length) undef,defers:=[] } [.code c]) ({ b.at ⟨a.tmps,ds⟩ todo with mode:=.returning }::cs)) w #[]:=by
 have h1:¬ fn.name= "runtime.NumGoroutine" := by simpa using hname
 have:=enter_atD (P:=P) ⟨cap⟩ hf hb
 simp only[Z31]at this
 rw[← this]
 simp[G,stepG,unwind,callDeferred,Frame.at,hd,Zgq,invoke,callFunc,hf,h1,hb,GStep.after,seen_none]
theorem Zn1{w:World}{c:Frame}{ops:Array Oper}{i:Nat}{rest:List Nat}{o:Oper}{ats:Array TypeId}(ho:ops[i]?=some o)(hw:Region.wanted o (yielded ops a.tmps)=true)(hk:b.kind=.deferred)(hc:c.mode=.returning)
  (hop:o.op=.call { callee:=.builtin .recover,args:=#[],argTypes:=ats }):
  stepG P main (G (b.at a (.inRegion ops (i::rest)::k)) (c::cs)) w=.go (G (b.at (a.put o.dst .nilIface) (.inRegion ops rest::k)) (c::cs)) w #[]:=by
 have hfin:(b.at a (.inRegion ops (i::rest)::k)).finish .nilIface=b.at (a.put o.dst .nilIface) (.inRegion ops rest::k):=by rw[Z4p,ho];rfl
 have hr:(execOp a.eval o).run P w=.ok .recover w:=by
  unfold execOp
  simp[hop,resolve,invoke,builtin]
 have he:(execOp a.eval o).events P w #[]=#[]:=by
  unfold execOp
  simp[hop,resolve,invoke,builtin]
 rw[stepG_oper ho hw,← hfin]
 simp[stepG.apply,hr,he,G,Frame.at,hk,GStep.after,seen_none,tryRecover,hc]
theorem Zik{w:World}{todo:List Item}{fn:Func}(hn:b.kind=.deferred)(hd:a.defers=[])(hf:P.funcs[b.fn]?=some fn)(hr:fn.results=#[]):
  stepG P false (G { b.at a todo with mode:=.returning } [Zfe P]) w=.go (G (Zfe P) []) w #[]:=by
 have h1:=results_none hr a.tmps P w
 have h2:=events_results_none (P:=P) (w:=w) hr a.tmps
 simp[G,stepG,unwind,doReturn,Frame.at,hn,hd,hf,h1,h2,Zfe,seen,GStep.after,goexitEntry]
theorem Zun{w:World}:stepG P false (G (Zfe P) []) w=.go { G (Zfe P) []with status:=.finished } w #[]:=by
 simp[G,stepG,unwind,Zfe,Frame.catches,goexitEntry,GStep.after]
 rfl
theorem Zwu{todo:List Item}{fn:Func}(hn:b.kind=.deferred)(hd:a.defers=[])(hf:P.funcs[b.fn]?=some fn)(hr:fn.results=#[]):QuitsD P 2 0 (G { b.at a todo with mode:=.returning } [Zfe P]):=
 .ctl rfl (fun w=>Zik hn hd hf hr) (.ctl rfl (fun w=>Zun) ⟨rfl,rfl⟩)
theorem hw_run{c:Code}(h:HW P n c Q ρ L)(ha:Agr n a ρ)(hb:b.kind≠.early)(hc:∀e ρ' L',Q e ρ' L'→AfterL P main Φ n a.defers b k cs e ρ' L'):Lo P main Φ (G (b.at a (.code c::k)) cs) L:=h main Φ b k cs a hb hc ha
theorem hw_run_n{c:Code}{K:Z9→Za→Prop}(h:HW P n c (fun e ρ' L'=>e=.normal∧K ρ' L') ρ L)(ha:Agr n a ρ)(hb:b.kind≠.early)(hc:∀a' ρ' L',a'.defers=a.defers→Agr n a' ρ'→K ρ' L'→Lo P main Φ (G (b.at a' k) cs) L'):Lo P main Φ (G (b.at a (.code c::k)) cs) L:=
 hw_run h ha hb fun e ρ' L' ⟨he,hk⟩=>by subst he;exact fun a' hd ha'=>hc a' ρ' L' hd ha' hk
theorem Z0f{c:Code}{d:List Deferred}{K:Z9→Za→Prop}(h:HWd P n c d (fun e ρ' L'=>e=.normal∧K ρ' L') ρ L)(ha:Agr n a ρ)(hb:b.kind≠.early)(hc:∀a' ρ' L',a'.defers=d++a.defers→Agr n a' ρ'→K ρ' L'→Lo P main Φ (G (b.at a' k) cs) L'):Lo P main Φ (G (b.at a (.code c::k)) cs) L:=
 h main Φ b k cs a hb (fun e ρ' L' ⟨he,hk⟩=>by subst he;exact fun a' hd ha'=>hc a' ρ' L' hd ha' hk) ha
theorem Zn6{vs:List Value}{m:Nat}(h:vs.length≤m):Agr m { tmps:=⟨vs⟩++Array.replicate (m-vs.length) undef,defers:=[] } (Q6 0 vs):=by
 refine⟨by simp;omega,fun t v hv=>?_⟩
 obtain⟨_,h2⟩:=Zg3 vs 0 t v hv
 have hlt:t<vs.length:=(Z2j.1 h2).1
 simp only[]
 rw[Z5c (by simpa using hlt)]
 simpa using h2
end
theorem Zku{t t':Tk}(e:t'.todo=t.todo){L0:Za}:Upd ([t.at_]::L0) t.todo t.obj t'.obj ([t'.at_]::L0):=by
 rw[show t'.at_=(t.todo,t'.obj) by simp[Tk.at_,e]];exact Xx
theorem upd_ls{L M:Za}{b:Nat}{o o':Obj}{r:List Zp}(hp:List.Perm L.flatten ((b,o)::r))(h:Upd L b o o' M):List.Perm M.flatten ((b,o')::r):=by
 obtain⟨l,q,e1,e2⟩:=h
 rw[e1]at hp
 rw[e2]
 have h1:List.Perm ((b,o)::(l++q)) ((b,o)::r):=List.perm_middle.symm.trans hp
 exact List.perm_middle.trans ((List.perm_cons _).1 h1 |>.cons _)
theorem Zhp{t t':Tk}(e:t'.todo=t.todo){L0 L':Za}(h:Upd ([t.at_]::L0) t.todo t.obj t'.obj L'):LS ([t'.at_]::L0).flatten L'.flatten:=by
 have:=upd_ls (r:=L0.flatten) (by simp[Tk.at_]) h
 exact .of_perm (by simpa[Tk.at_,e] using this.symm)
section
variable{P:Program}{n:Nat}{ops rest:List Oper}{Q:Exit→Z9→Za→Prop}{ρ:Z9}{L0:Za}{t:Tk}{d:Nat}{f:FuncId}{fn:Func}{xs:Array Operand}{ats:Array TypeId}{vs:List Value}{ty:TypeId}{pos:String}{af:Array Edge}
theorem Zf0{E:Array Value→Sem Value}(hf:P.funcs[f]?=some fn)(hname:(fn.name == "runtime.NumGoroutine")=false)(hb:fn.body.isNone=true)(hn:Extern.findNext fn=none)(he:Extern.find fn=some E)(hvs:evs ρ xs.toList=some vs)(hd:Nat.blt d n=true)(h12:t.st≠12)
  (h:∀w γ,Shr γ w→Ziq t γ→(∃v w' t' γ' es,(E ⟨vs⟩).run P w=.ok v w'∧(E ⟨vs⟩).events P w #[⟨.mark (.extern f),false,true⟩]=#[⟨.mark (.extern f),false,true⟩]++es∧(∀x∈es,x.sync=true∧∀g,x.loc≠.mark (.extern g))∧
    Mv t γ t' γ' es∧Shr γ' w'∧Only γ w w'∧t'.todo=t.todo∧HO P n ops Q rest ((d,v)::ρ) ([t'.at_]::L0))∨(t.st=9∧γ.sem=0∧(E ⟨vs⟩).run P w=.halt .blocked w)):
  HO P n ops Q (⟨some d,.call { callee:=.value (.func f),args:=xs,argTypes:=ats },ty,pos,af,none⟩::rest) ρ ([t.at_]::L0):=
 ho_entry hf hname hb hn he hvs (fun a ha=>by
   have:=Zgw (l:=xs.toList) (ρe:=a.eval) (fun x _ u hu=>ha.ev hu) hvs
   apply Z4r.1
   simpa using this) t (by simp) h12 fun k w γ hs hsh hc=>by
  rcases h w γ hsh hc with⟨v,w',t',γ',es,h1,h2,h3,h4,h5,h6,h7,h8⟩|h
  ·exact .inl ⟨v,w',t',γ',_,es,h1,h2,h3,h4,h5,h6,Zku h7,_,fun a ha=>ha.put (Z2m hd) v,h8⟩
  ·exact .inr h
theorem Qw{γ:Gm}{w:World}:Only γ w w:=⟨rfl,rfl,rfl,rfl,fun _ _ _=>rfl⟩
theorem Zhm{a:Addr}:∀x∈#[Zel a],x.sync=true∧∀g,x.loc≠.mark (.extern g):=fun x hx=>by
 simp[Zel]at hx;subst hx;exact⟨rfl,fun g e=>by cases e⟩
theorem Zup{a:Addr}:∀x∈#[Zel a,Zob a],x.sync=true∧∀g,x.loc≠.mark (.extern g):=fun x hx=>by
 simp[Zel,Zob]at hx;rcases hx with rfl|rfl<;>exact⟨rfl,fun g e=>by cases e⟩
theorem Zj5(m:Mark){t':Tk}(hf:P.funcs[f]?=some fn)(hname:(fn.name == "runtime.NumGoroutine")=false)(hb:fn.body.isNone=true)(hn:Extern.findNext fn=none)(he:Extern.find fn=some (fun _=>do mark m;pure Extern.Race.none_))(h12:t.st≠12)(hm:∀g,m≠.extern g)(et:t'.todo=t.todo)
  (mv:∀γ,Ziq t γ→Mv t γ t' γ #[Wt m])(h:HO P n ops Q rest ((d,.tuple #[])::ρ) ([t'.at_]::L0))(hvs:evs ρ xs.toList=some vs:=by exact rfl)(hd:Nat.blt d n=true:=by exact rfl):
  HO P n ops Q (⟨some d,.call { callee:=.value (.func f),args:=xs,argTypes:=ats },ty,pos,af,none⟩::rest) ρ ([t.at_]::L0):=
 Zf0 hf hname hb hn he hvs hd h12 fun w γ hs hc=>.inl ⟨.tuple #[],w,t',γ,#[Wt m],by simp[Extern.Race.none_],by simp[Wt],fun x hx=>by
  simp at hx;subst hx;exact⟨rfl,fun g e=>hm g (by cases e;rfl)⟩,mv γ hc,hs,Qw,et,h⟩
theorem Zgs(mk:Addr→Mark){ad:Addr}{t':Tk}(hf:P.funcs[f]?=some fn)(hname:(fn.name == "runtime.NumGoroutine")=false)(hb:fn.body.isNone=true)(hn:Extern.findNext fn=none)(he:Extern.find fn=some (Extern.Race.marked mk))(h12:t.st≠12)(hm:∀ad g,mk ad≠.extern g)(et:t'.todo=t.todo)
  (mv:∀γ,Ziq t γ→Mv t γ t' γ #[Wt (mk ad)])(h:HO P n ops Q rest ((d,.tuple #[])::ρ) ([t'.at_]::L0))(hvs:evs ρ xs.toList=some [.pointer (some ad)]:=by exact rfl)(hd:Nat.blt d n=true:=by exact rfl):
  HO P n ops Q (⟨some d,.call { callee:=.value (.func f),args:=xs,argTypes:=ats },ty,pos,af,none⟩::rest) ρ ([t.at_]::L0):=
 Zf0 hf hname hb hn he hvs hd h12 fun w γ hs hc=>.inl ⟨.tuple #[],w,t',γ,#[Wt (mk ad)],by simp[Extern.Race.marked,Extern.Race.at_,Extern.Race.none_],by simp[Extern.Race.marked,Extern.Race.at_,Wt],fun x hx=>by
  simp at hx;subst hx;exact⟨rfl,fun g e=>hm ad g (Loc.mark.inj e)⟩,mv γ hc,hs,Qw,et,h⟩
theorem mv_read{wg:Nat}{γ:Gm}(hc:Ziq t γ)(h:t.st=2)(hw:t.wg=wg):Mv t γ t γ #[Wt (.read ⟨wg,1,none⟩)]:=by
 obtain⟨_,_,e,_⟩:=hc;rw[← hw,e];exact .read h
theorem mv_write{wg:Nat}{γ:Gm}(hc:Ziq t γ)(h:t.st=9)(hw:t.wg=wg):Mv t γ t γ #[Wt (.write ⟨wg,1,none⟩)]:=by
 obtain⟨_,_,e,_⟩:=hc;rw[← hw,e];exact .write h
theorem Zym{wg:Nat}{γ:Gm}(hc:Ziq t γ)(h:t.st=11)(hw:t.wg=wg):Mv t γ { t with st:=12 } γ #[Wt (.acquire ⟨wg,0,none⟩)]:=by
 obtain⟨_,_,e,_⟩:=hc;obtain rfl:wg=γ.wg:=hw.symm.trans e;exact .join h
theorem Zey{γ:Gm}{w:World}(h:Shr γ w):w.cell? ⟨γ.wg,0,none⟩=some (.int .u64 ((γ.cnt*4294967296+γ.wt:Nat):Int))∧w.cell? ⟨γ.wg,1,none⟩=some (.int .u32 (γ.sem:Nat))∧∀i,w.frozen? ⟨γ.wg,i,none⟩=false:=by
 have:=h.wg
 refine⟨by simp[World.cell?,this,Un],by simp[World.cell?,this,Un],fun i=>by simp[World.frozen?,this,Un]⟩
variable[Go.ConcR.Payload]{K:Lib.WgLink}(H:Lib.WgLib P K)
include H
theorem e_add{wg:Nat}(h1:t.st=1)(hn:t.n<1000)(hw:t.wg=wg)(h:HO P n ops Q rest ((d,.int .u64 (((t.n+1)*4294967296:Nat):Int))::ρ) ([({ t with st:=2 }:Tk).at_]::L0))(hvs:evs ρ xs.toList=some [pt wg 0,.int .u64 4294967296]:=by exact rfl)(hd:Nat.blt d n=true:=by exact rfl):
  HO P n ops Q (⟨some d,.call { callee:=.value (.func K.addU64),args:=xs,argTypes:=ats },ty,pos,af,none⟩::rest) ρ ([t.at_]::L0):=by
 subst hw
 refine Zf0 H.f_addU64 (ConcR.Gen.x_addU64_n K) (ConcR.Gen.x_addU64_b K) (ConcR.Gen.x_addU64_x K) (ConcR.Gen.x_addU64_f K) hvs hd (by omega) fun w γ hs hc=>.inl ?_
 obtain⟨e1,e2,e3,e4,e5⟩:=hc
 simp only[Cm,h1]at e5
 obtain⟨f1,f2,f3,f4⟩:=e5
 obtain⟨c1,_,c3⟩:=Zey hs
 have ew:IntKind.u64.wrap (((γ.cnt*4294967296+γ.wt:Nat):Int)+4294967296)=(((t.n+1)*4294967296:Nat):Int):=by
  rw[IntKind.wrap_u64];omega
 have hr:=run_add_entry (P:=P) (d:=4294967296) c1 (c3 0)
 have hv:=fun es=>events_add_entry (P:=P) (d:=4294967296) c1 (c3 0) es
 rw[ew]at hr
 have ha:=(Zed hs).setSt (((t.n+1)*4294967296:Nat):Int)
 obtain⟨s1,s2⟩:=Zim (γ':={ γ with cnt:=γ.cnt+1 }) (i:=0) (v:=.int .u64 (((t.n+1)*4294967296:Nat):Int)) hs rfl rfl rfl rfl (by
  have e:((({ γ with cnt:=γ.cnt+1 }:Gm).cnt:Nat):Int)*ConcR.KK+((({ γ with cnt:=γ.cnt+1 }:Gm).wt:Nat):Int)=(((t.n+1)*4294967296:Nat):Int):=by
   simp only[ConcR.KK];omega
  rw[e]
  exact ha)
 have eA:(⟨[pt t.wg 0,Value.int .u64 4294967296]⟩:Array Value)=#[.pointer (some ⟨γ.wg,0,none⟩),.int .u64 4294967296]:=by rw[e3]
 exact⟨_,_,{ t with st:=2 },{ γ with cnt:=γ.cnt+1 },#[Zel (stA γ.wg),Zob (stA γ.wg)],by rw[eA];exact hr,by rw[eA,hv];simp[Zel,Zob],Zup,.add h1 hn,s1,s2,rfl,h⟩
omit H in
theorem Zs3{w:World}{ad:Addr}{x:Int}(hc:w.cell? ad=some (.int .u64 x)):(Extern.Atomic.loadT (.int .u64) #[.pointer (some ad)]).run P w=.ok (.int .u64 x) w∧∀es,(Extern.Atomic.loadT (.int .u64) #[.pointer (some ad)]).events P w es=es.push ⟨.cell ad,false,true⟩:=by
 constructor
 ·change Sem.run P (do Extern.Atomic.read (.int .u64) (← asAddr (.pointer (some ad)))) w=_
  simp[Extern.Atomic.read,asAddr,hc]
 ·intro es
  change Sem.events P (do Extern.Atomic.read (.int .u64) (← asAddr (.pointer (some ad)))) w _=_
  simp[Extern.Atomic.read,asAddr,hc,events_load]
theorem e_load6{wg:Nat}(h1:t.st=6)(hw:t.wg=wg)(n0:HO P n ops Q rest ((d,.int .u64 0)::ρ) ([({ t with st:=8 }:Tk).at_]::L0))
  (n1:∀c,1≤c→c≤t.b→c≤1000→HO P n ops Q rest ((d,.int .u64 ((c*4294967296:Nat):Int))::ρ) ([({ t with st:=7,a:=c }:Tk).at_]::L0))(hvs:evs ρ xs.toList=some [pt wg 0]:=by exact rfl)(hd:Nat.blt d n=true:=by exact rfl):
  HO P n ops Q (⟨some d,.call { callee:=.value (.func K.loadU64),args:=xs,argTypes:=ats },ty,pos,af,none⟩::rest) ρ ([t.at_]::L0):=by
 subst hw
 refine Zf0 H.f_loadU64 (ConcR.Gen.x_loadU64_n K) (ConcR.Gen.x_loadU64_b K) (ConcR.Gen.x_loadU64_x K) (ConcR.Gen.x_loadU64_f K) hvs hd (by omega) fun w γ hs hc=>.inl ?_
 obtain⟨e1,e2,e3,e4,e5⟩:=hc
 simp only[Cm,h1]at e5
 obtain⟨f1,f2,f3,f4⟩:=e5
 obtain⟨c1,_,_⟩:=Zey hs
 obtain⟨hr,hv⟩:=Zs3 (P:=P) c1
 have eA:(⟨[pt t.wg 0]⟩:Array Value)=#[.pointer (some ⟨γ.wg,0,none⟩)]:=by rw[e3]
 by_cases h0:γ.cnt=0
 ·have ez:((γ.cnt*4294967296+γ.wt:Nat):Int)=0:=by omega
  rw[ez]at hr
  exact⟨_,w,{ t with st:=8 },γ,#[Zel (stA γ.wg)],by rw[eA];exact hr,by rw[eA,hv];simp[Zel],Zhm,.zero h1 h0,hs,Qw,rfl,n0⟩
 ·have ez:((γ.cnt*4294967296+γ.wt:Nat):Int)=((γ.cnt*4294967296:Nat):Int):=by omega
  rw[ez]at hr
  exact⟨_,w,{ t with st:=7,a:=γ.cnt },γ,#[Zel (stA γ.wg)],by rw[eA];exact hr,by rw[eA,hv];simp[Zel],Zhm,.load h1 (by omega),hs,Qw,rfl,n1 γ.cnt (by omega) f1 e4⟩
theorem e_load10{wg:Nat}(h1:t.st=10)(hw:t.wg=wg)(n0:HO P n ops Q rest ((d,.int .u64 0)::ρ) ([t.at_]::L0))(hvs:evs ρ xs.toList=some [pt wg 0]:=by exact rfl)(hd:Nat.blt d n=true:=by exact rfl):
  HO P n ops Q (⟨some d,.call { callee:=.value (.func K.loadU64),args:=xs,argTypes:=ats },ty,pos,af,none⟩::rest) ρ ([t.at_]::L0):=by
 subst hw
 refine Zf0 H.f_loadU64 (ConcR.Gen.x_loadU64_n K) (ConcR.Gen.x_loadU64_b K) (ConcR.Gen.x_loadU64_x K) (ConcR.Gen.x_loadU64_f K) hvs hd (by omega) fun w γ hs hc=>.inl ?_
 obtain⟨e1,e2,e3,e4,e5⟩:=hc
 simp only[Cm,h1]at e5
 obtain⟨f1,f2,f3,f4⟩:=e5
 obtain⟨c1,_,_⟩:=Zey hs
 obtain⟨hr,hv⟩:=Zs3 (P:=P) c1
 have eA:(⟨[pt t.wg 0]⟩:Array Value)=#[.pointer (some ⟨γ.wg,0,none⟩)]:=by rw[e3]
 have ez:((γ.cnt*4294967296+γ.wt:Nat):Int)=0:=by omega
 rw[ez]at hr
 exact⟨_,w,t,γ,#[Zel (stA γ.wg)],by rw[eA];exact hr,by rw[eA,hv];simp[Zel],Zhm,.look h1,hs,Qw,rfl,n0⟩
theorem e_cas7{wg:Nat}(h1:t.st=7)(hw:t.wg=wg)(n1:HO P n ops Q rest ((d,.bool true)::ρ) ([({ t with st:=9 }:Tk).at_]::L0))(n0:HO P n ops Q rest ((d,.bool false)::ρ) ([({ t with st:=6,b:=t.a-1 }:Tk).at_]::L0))
  (hvs:evs ρ xs.toList=some [pt wg 0,.int .u64 ((t.a*4294967296:Nat):Int),.int .u64 ((t.a*4294967296:Nat)+1:Int)]:=by exact rfl)(hd:Nat.blt d n=true:=by exact rfl):
  HO P n ops Q (⟨some d,.call { callee:=.value (.func K.casU64),args:=xs,argTypes:=ats },ty,pos,af,none⟩::rest) ρ ([t.at_]::L0):=by
 subst hw
 refine Zf0 H.f_casU64 (ConcR.Gen.x_casU64_n K) (ConcR.Gen.x_casU64_b K) (ConcR.Gen.x_casU64_x K) (ConcR.Gen.x_casU64_f K) hvs hd (by omega) fun w γ hs hc=>.inl ?_
 obtain⟨e1,e2,e3,e4,e5⟩:=hc
 simp only[Cm,h1]at e5
 obtain⟨f1,f2,f3,f4⟩:=e5
 obtain⟨c1,_,c3⟩:=Zey hs
 have eA:(⟨[pt t.wg 0,.int .u64 ((t.a*4294967296:Nat):Int),.int .u64 ((t.a*4294967296:Nat)+1:Int)]⟩:Array Value)=#[.pointer (some ⟨γ.wg,0,none⟩),.int .u64 ((t.a*4294967296:Nat):Int),.int .u64 ((t.a*4294967296:Nat)+1:Int)]:=by rw[e3]
 rw[eA]
 simp only[casT_eq]
 by_cases hq:γ.cnt=t.a
 ·have ez:((γ.cnt*4294967296+γ.wt:Nat):Int)=((t.a*4294967296:Nat):Int):=by omega
  rw[ez]at c1
  have hr:=run_cas_hit_entry (P:=P) (n:=((t.a*4294967296:Nat)+1:Int)) c1 (c3 0)
  have hv:=events_cas_hit_entry (P:=P) (n:=((t.a*4294967296:Nat)+1:Int)) c1 (c3 0)
  have ha:=(Zed hs).setSt ((t.a*4294967296:Nat)+1:Int)
  obtain⟨s1,s2⟩:=Zim (γ':={ γ with wt:=1 }) (i:=0) (v:=.int .u64 ((t.a*4294967296:Nat)+1:Int)) hs rfl rfl rfl rfl (by
   have e:((({ γ with wt:=1 }:Gm).cnt:Nat):Int)*ConcR.KK+((({ γ with wt:=1 }:Gm).wt:Nat):Int)=((t.a*4294967296:Nat)+1:Int):=by
    simp only[ConcR.KK];omega
   rw[e]
   exact ha)
  exact⟨_,_,{ t with st:=9 },{ γ with wt:=1 },#[Zel (stA γ.wg),Zob (stA γ.wg)],hr,by rw[hv];simp[Zel,Zob],Zup,.reg h1 hq,s1,s2,rfl,n1⟩
 ·have hne:¬ ((γ.cnt*4294967296+γ.wt:Nat):Int)=((t.a*4294967296:Nat):Int):=by omega
  have hr:=run_cas_miss_entry (P:=P) (n:=((t.a*4294967296:Nat)+1:Int)) c1 (c3 0) hne
  have hv:=events_cas_miss_entry (P:=P) (n:=((t.a*4294967296:Nat)+1:Int)) c1 (c3 0) hne
  exact⟨_,w,{ t with st:=6,b:=t.a-1 },γ,#[Zel (stA γ.wg)],hr,by rw[hv];simp[Zel],Zhm,.fail h1 (by omega),hs,Qw,rfl,n0⟩
theorem e_sema{wg:Nat}{y:Value}(h1:t.st=9)(hw:t.wg=wg)(h:HO P n ops Q rest ((d,.tuple #[])::ρ) ([({ t with st:=10 }:Tk).at_]::L0))(hvs:evs ρ xs.toList=some [pt wg 1,y]:=by exact rfl)(hd:Nat.blt d n=true:=by exact rfl):
  HO P n ops Q (⟨some d,.call { callee:=.value (.func K.semacquire),args:=xs,argTypes:=ats },ty,pos,af,none⟩::rest) ρ ([t.at_]::L0):=by
 subst hw
 refine Zf0 H.f_semacquire (ConcR.Gen.x_semacquire_n K) (ConcR.Gen.x_semacquire_b K) (ConcR.Gen.x_semacquire_x K) (ConcR.Gen.x_semacquire_f K) hvs hd (by omega) fun w γ hs hc=>?_
 obtain⟨e1,e2,e3,e4,e5⟩:=hc
 simp only[Cm,h1]at e5
 obtain⟨_,c1,c3⟩:=Zey hs
 have eA:(⟨[pt t.wg 1,y]⟩:Array Value)=#[.pointer (some ⟨γ.wg,1,none⟩),y]:=by rw[e3]
 rw[eA]
 by_cases h0:γ.sem=0
 ·right
  rw[h0]at c1
  exact⟨h1,h0,by simp[Extern.Sync.semacquire,Extern.Sync.count,c1]⟩
 ·left
  have hs1:γ.sem=1:=by omega
  have hw0:γ.wt=0∧γ.cnt=0:=by omega
  rw[hs1]at c1
  have c1':w.cell? ⟨γ.wg,1,none⟩=some (.int .u32 1):=c1
  have hz:=c3 1
  have hr:(Extern.Sync.semacquire #[.pointer (some ⟨γ.wg,1,none⟩),y]).run P w=.ok (.tuple #[]) (w.setCell ⟨γ.wg,1,none⟩ (.int .u32 0)):=by
   simp[Extern.Sync.semacquire,Extern.Sync.count,c1',hz,Extern.Sync.none_,run_store P w ⟨γ.wg,1,none⟩ (.int .u32 0) .atomic rfl,Result.andThen]
  have hv:(Extern.Sync.semacquire #[.pointer (some ⟨γ.wg,1,none⟩),y]).events P w #[⟨.mark (.extern K.semacquire),false,true⟩]=#[⟨.mark (.extern K.semacquire),false,true⟩]++semEvents ⟨γ.wg,1,none⟩:=by
   simp[Extern.Sync.semacquire,Extern.Sync.count,c1',hz,semEvents,events_load,events_store P w _ ⟨γ.wg,1,none⟩ (.int .u32 0) .atomic rfl,run_store P w ⟨γ.wg,1,none⟩ (.int .u32 0) .atomic rfl,Result.evThen]
  have ha:ConcR.WgAt Tasks.T γ.wg w 0 1:=by have:=Zed hs;rw[hs1,hw0.1,hw0.2]at this;simpa using this
  obtain⟨s1,s2⟩:=Zim (γ':={ γ with sem:=0 }) (i:=1) (v:=.int .u32 0) hs rfl rfl rfl rfl (by
   simp only[hw0.1,hw0.2]
   simpa[ConcR.smA] using ha.setSm 0)
  exact⟨_,_,{ t with st:=10 },{ γ with sem:=0 },_,hr,hv,semEvents_sync _,.acq h1 hs1,s1,s2,rfl,h⟩
theorem e_bub{L:Za}(h:HO P n ops Q rest ((d,.bool false)::ρ) L)(hd:Nat.blt d n=true:=by exact rfl):
  HO P n ops Q (⟨some d,.call { callee:=.value (.func K.inBubble),args:=#[],argTypes:=ats },ty,pos,af,none⟩::rest) ρ L:=
 Zb4 (fun a _=>Yv _ rfl _) fun a ha=>.plain fun k w hs=>by
  have e1:=Conc.execOp_call_func (a:=a) (o:=⟨some d,.call { callee:=.value (.func K.inBubble),args:=#[],argTypes:=ats },ty,pos,af,none⟩) (f:=K.inBubble) (ats:=ats) rfl
  refine⟨.value (.bool false),.bool false,w,L,?_,.inl rfl,?_,hs,_,ha.put (Z2m hd) _,h⟩
  ·rw[e1,Z6k H.f_inBubble (ConcR.Gen.x_inBubble_n K) (ConcR.Gen.x_inBubble_b K) (ConcR.Gen.x_inBubble_x K) (ConcR.Gen.x_inBubble_f K)]
   simp[Result.andThen]
  ·rw[e1,Conc.events_callFunc_extern H.f_inBubble (ConcR.Gen.x_inBubble_n K) (ConcR.Gen.x_inBubble_b K) (ConcR.Gen.x_inBubble_x K) (ConcR.Gen.x_inBubble_f K)]
   refine⟨Z21 _,fun _ _ _=>rfl,.refl _ _,fun e he=>?_⟩
   simp at he
   subst he
   exact⟨.inr ⟨_,rfl,.inr ⟨_,rfl⟩⟩,.mark⟩
theorem Zpy{x:Operand}{wg i:Nat}{s e0:TypeId}(h12:t.st≠12)(hw:t.wg=wg)(hi:i<2)(hs:P.underlying s=some (.pointer e0))(hroom:(P.info? e0).map (fun i=>decide (i.size=0))=some false)
  (h:HO P n ops Q rest ((d,pt wg i)::ρ) ([t.at_]::L0))(hx:ev ρ x=some (pt wg i):=by exact rfl)(hd:Nat.blt d n=true:=by exact rfl):
  HO P n ops Q (⟨some d,.convert s K.tUP x,ty,pos,af,none⟩::rest) ρ ([t.at_]::L0):=by
 subst hw
 refine Zb4 (fun a _=>Yv _ rfl _) fun a ha=>o_lib t (by simp) h12 fun k w γ hs1 hsh hc=>?_
 obtain⟨e1,e2,e3,e4,e5⟩:=hc
 obtain⟨c1,c2,_⟩:=Zey hsh
 have hcell:∃u,w.cell? ⟨t.wg,i,none⟩=some u:=by
  rw[e3]
  match i,hi with
  | 0,_=>exact⟨_,c1⟩
  | 1,_=>exact⟨_,c2⟩
 obtain⟨u,hu⟩:=hcell
 have hcv:=run_convert_to_unsafe (P:=P) hs H.underlying_tUP hroom hu
 have hce:=fun es=>events_convert_to_unsafe (P:=P) hs H.underlying_tUP hroom hu es
 have hxe:=ha.ev hx
 refine⟨pt t.wg i,w,[t.at_]::L0,?_,fun fn=>?_,hs1,_,ha.put (Z2m hd) _,h⟩
 ·unfold execOp
  simp only[hxe]
  simp[hcv]
 ·have:(execOp a.eval ⟨some d,.convert s K.tUP x,ty,pos,af,none⟩).events P w #[]=#[]:=by
   unfold execOp
   simp only[hxe]
   simp[hce]
  rw[this,seen_none]
  exact⟨Zkf,.refl _ _⟩
theorem Zsm{F:Nat}{fn:Func}{c:Code}{args:List Value}{L:Za}{R:Value→Za→Prop}(hm:(fn.name == "runtime.NumGoroutine")=false)(hf:P.funcs[F]?=some fn)(hb:fn.body=some c){m:Nat}(hn:fn.ntmps=m)(hlen:args.length≤m)(hres:fn.results=#[])
  (h:HWd P m c [dcall K.enable #[]] (fun e _ L=>(e=.normal∨e=.ret)∧∃(t:Tk) (L0:Za),L=[t.at_]::L0∧t.st=2∧R (.tuple #[]) ([({ t with st:=3 }:Tk).at_]::L0)) (Q6 0 args) L):HC P F args L R:=by
 subst hn
 refine⟨Zek hf hb hm,fun main Φ fr cs hc=>?_⟩
 rw[Z62 _ hf hb]
 have key:∀(a:Act) (todo:List Item) (L':Za) (e:Exit),a.defers=[dcall K.enable #[]]→((e=.normal∨e=.ret)∧∃(t:Tk) (L0:Za),L'=[t.at_]::L0∧t.st=2∧R (.tuple #[]) ([({ t with st:=3 }:Tk).at_]::L0))→Lo P main Φ (Conc.G { (Conc.base F).at a todo with mode:=.returning } (fr::cs)) L':=by
  rintro a todo L' e hd ⟨_,t,L0,rfl,h2,hR⟩
  refine .shared t (fun g' L'=>g'=G { (Conc.base F).at ⟨a.tmps,[]⟩ todo with mode:=.returning } (fr::cs)∧L'=[({ t with st:=3 }:Tk).at_]::L0) rfl (by simp) (by omega) (fun k w γ hs hsh hcm=>.inl ?_) (fun g' L' ⟨e,e'⟩=>?_)
  ·refine⟨_,w,#[Wt .enable],{ t with st:=3 },γ,_,stepG_unwind_entry (v:=.tuple #[]) hd H.f_enable (ConcR.Gen.x_enable_n K) (ConcR.Gen.x_enable_b K) (ConcR.Gen.x_enable_x K) (ConcR.Gen.x_enable_f K) (by simp[Extern.Race.none_]) (by simp[Wt]) (fun x hx=>?_),rfl,.en2 h2,.refl,hsh,Qw,Zku (t:=t) (t':={ t with st:=3 }) rfl,rfl,rfl⟩
   simp at hx;subst hx;exact⟨rfl,fun g e=>by cases e⟩
  ·subst e;subst e'
   exact .ctl rfl rfl (fun w=>stepG_leave rfl rfl hf (results_none hres _ P w) (events_results_none hres _ _)) (hc _ _ hR)
 refine h main Φ (Conc.base F) [] (fr::cs) _ (by simp[Conc.base]) (fun e ρ' L' q=>?_) ⟨?_,?_⟩
 ·cases e with
  | normal=>exact fun a hd ha=>.ctl rfl rfl (fun w=>Z6r) (key a [] L' _ hd q)
  | ret=>exact fun a todo hd ha=>key a todo L' _ hd q
  | exit i=>rcases q.1 with e|e<;>cases e
  | goto i=>rcases q.1 with e|e<;>cases e
  | panic ch=>rcases q.1 with e|e<;>cases e
  | outgrown=>rcases q.1 with e|e<;>cases e
 ·simp;omega
 ·intro t v hv
  obtain⟨_,h2⟩:=Zg3 args 0 t v hv
  have hlt:t<args.length:=(Z2j.1 h2).1
  simp only[]
  rw[Z5c (by simpa using hlt)]
  simpa using h2
end
end Go.HL
namespace Go.HL
open Go Go.Proofs Go.Proofs.Tryz
variable[Tasks]
attribute [local irreducible] HW HO HQ HD HC QOp Has Upd Yi Gets Vv W6 Xn Zaf Wa Yz Zcl Xy
section
variable[Go.ConcR.Payload]
theorem Zxh(t:Tk)(wg:Nat)(L0:Za)(h1:t.st=1)(hn:t.n<1000)(hw:t.wg=wg):
  HC prog 267 [pt wg 0,.int .u64 4294967296] ([t.at_]::L0) (fun v L'=>v=.int .u64 (((t.n+1)*4294967296:Nat):Int)∧L'=[({ t with st:=2 }:Tk).at_]::L0):=by
 refine uE func267 ntmps267 ?_
 repeat' (first|refine uN ?_|fail)
 refine e_add wgLib h1 hn hw ?_
 repeat' (first|refine uN ?_|fail)
 exact Z3 (LS.refl _) ⟨rfl,rfl⟩
theorem Zn3(t:Tk)(wg:Nat)(L0:Za)(h1:t.st=10)(hw:t.wg=wg):
  HC prog 212 [pt wg 0] ([t.at_]::L0) (fun v L'=>v=.int .u64 0∧L'=[t.at_]::L0):=by
 refine uE func212 ntmps212 ?_
 repeat' (first|refine uN ?_|fail)
 refine e_load10 wgLib h1 hw ?_
 repeat' (first|refine uN ?_|fail)
 exact Z3 (LS.refl _) ⟨rfl,rfl⟩
theorem Zrj(t:Tk)(wg:Nat)(L0:Za)(h1:t.st=6)(hw:t.wg=wg):
  HC prog 212 [pt wg 0] ([t.at_]::L0) (fun v L'=>(v=.int .u64 0∧L'=[({ t with st:=8 }:Tk).at_]::L0)∨∃c,1≤c∧c≤t.b∧c≤1000∧v=.int .u64 ((c*4294967296:Nat):Int)∧L'=[({ t with st:=7,a:=c }:Tk).at_]::L0):=by
 refine uE func212 ntmps212 ?_
 repeat' (first|refine uN ?_|fail)
 refine e_load6 wgLib h1 hw ?_ fun c c1 c2 c3=>?_
 ·repeat' (first|refine uN ?_|fail)
  exact Z3 (LS.refl _) (.inl ⟨rfl,rfl⟩)
 ·repeat' (first|refine uN ?_|fail)
  exact Z3 (LS.refl _) (.inr ⟨c,c1,c2,c3,rfl,rfl⟩)
theorem Zxi(t:Tk)(wg:Nat)(L0:Za)(h1:t.st=7)(hw:t.wg=wg):
  HC prog 216 [pt wg 0,.int .u64 ((t.a*4294967296:Nat):Int),.int .u64 ((t.a*4294967296:Nat)+1:Int)] ([t.at_]::L0) (fun v L'=>(v=.bool true∧L'=[({ t with st:=9 }:Tk).at_]::L0)∨(v=.bool false∧L'=[({ t with st:=6,b:=t.a-1 }:Tk).at_]::L0)):=by
 refine uE func216 ntmps216 ?_
 repeat' (first|refine uN ?_|fail)
 refine e_cas7 wgLib h1 hw ?_ ?_
 ·repeat' (first|refine uN ?_|fail)
  exact Z3 (LS.refl _) (.inl ⟨rfl,rfl⟩)
 ·repeat' (first|refine uN ?_|fail)
  exact Z3 (LS.refl _) (.inr ⟨rfl,rfl⟩)
theorem Zvb(k:Nat):(((k*4294967296:Nat):Int)).toNat &&& (2147483648:Int).toNat=0:=ConcN.and_bit31 _ 0 (by show k*4294967296 % 4294967296=0;omega) (by omega)
theorem Zvc(k:Nat):(((k*4294967296:Nat):Int)).toNat &&& (2147483647:Int).toNat=0:=by
 show k*4294967296 &&& (2 ^ 31-1)=0
 rw[Nat.and_two_pow_sub_one_eq_mod];omega
theorem p32:(2:Int) ^ Int.toNat 32=4294967296:=by decide
theorem Zu8(t:Tk)(wg:Nat)(L0:Za)(h0:t.st=0)(hn:t.n<1000)(hw:t.wg=wg):
  HC prog 207 [pt wg 0,iv 1] ([t.at_]::L0) (fun v L'=>v=.tuple #[]∧L'=[({ t with st:=3 }:Tk).at_]::L0):=by
 have ku:=Zxh { t with st:=1 } wg L0 rfl hn hw
 refine Zsm wgLib (by kernel_rfl) func207 rfl ntmps207 (Z2m rfl) rfl ?_
 simp only[Q6,Nat.reduceAdd]
 refine Zkc (d:=[Conc.dcall _ #[]]) (d':=[]) ?_
 refine hwd_true rfl ?_
 refine Zkc (d:=[]) (d':=[Conc.dcall _ #[]]) ?_
 refine HW.hwd ?_
 repeat' (first|refine uN ?_|(refine uB ?_;intro b)|refine dg S 100 (fun _ _=>?_)|(refine uP ?_ ?_<;>intro h<;>try exact zx)|refine da 101 ?_|fail)
 refine⟨rfl,?_⟩
 refine Zkc (d:=[]) (d':=[Conc.dcall _ #[]]) ?_
 refine HW.hwd ?_
 refine Vs ?_
 refine Zj5 .disable (t':={ t with st:=1 }) wgLib.f_disable (Z7h Zfb) (Z7f Zfb) (Z7i Zfb) (Z7g Zfb) (by omega) (by simp) rfl (fun γ _=>.dis0 h0) ?_
 refine Zcw ?_
 refine⟨rfl,?_⟩
 refine Z0e ?_
 refine⟨rfl,?_⟩
 refine HW.hwd ?_
 repeat' (first|refine uN ?_|(refine uB ?_;intro b)|refine dg S 100 (fun _ _=>?_)|(refine uP ?_ ?_<;>intro h<;>try exact zx)|refine da 101 ?_|fail)
 refine e_bub wgLib ?_
 repeat' (first|refine uN ?_|(refine uB ?_;intro b)|refine dg S 100 (fun _ _=>?_)|(refine uP ?_ ?_<;>intro h<;>try exact zx)|refine da 101 ?_|fail)
 refine gc ku ?_
 rintro v L' ⟨rfl,rfl⟩
 clear ku
 have f1:=Zvb (t.n+1)
 have f2:=Zvc (t.n+1)
 repeat' (first|refine uN ?_|(refine uB ?_;intro b)|refine dg S 100 (fun _ _=>?_)|(refine uP ?_ ?_<;>intro h<;>try exact zx)|refine da 101 ?_|fail)
 ·refine Zpy wgLib (i:=1) (show (2:Nat)≠12 by decide) hw (by decide) wgLib.underlying_tPU32 wgLib.room_tU32 ?_
  refine Zgs .read wgLib.f_raceRead (ConcR.Gen.x_raceRead_n Zfb) (ConcR.Gen.x_raceRead_b Zfb) (ConcR.Gen.x_raceRead_x Zfb) (ConcR.Gen.x_raceRead_f Zfb) (show (2:Nat)≠12 by decide) (by simp) rfl (fun γ hc=>mv_read hc rfl hw) ?_
  repeat' (first|refine uN ?_|(refine uB ?_;intro b)|refine dg S 100 (fun _ _=>?_)|(refine uP ?_ ?_<;>intro h<;>try exact zx)|refine da 101 ?_|fail)
  all_goals first|(exfalso;simp only[p32]at *;omega)|exact⟨.inr rfl,{ t with st:=2 },L0,rfl,rfl,by trivial,rfl⟩
 all_goals first|(exfalso;simp only[p32]at *;omega)|exact⟨.inr rfl,{ t with st:=2 },L0,rfl,rfl,by trivial,rfl⟩
end
section
variable[Go.ConcR.Payload]
theorem Zm6(t:Tk)(wg:Nat)(L0:Za)(h5:t.st=5)(hw:t.wg=wg):
  HC prog 167 [pt wg 0] ([t.at_]::L0) (fun v L'=>v=.tuple #[]∧∃t':Tk,t'.st=12∧L'=[t'.at_]::L0):=by
 obtain⟨g,td,bk,w0,m,nn,st,a0,b0,l⟩:=t
 obtain rfl:st=5:=h5
 simp only at hw
 subst hw
 revert w0;intro wg
 refine uE func167 ntmps167 ?_
 repeat' (first|refine uN ?_|(refine uP ?_ ?_<;>intro h<;>try exact zx)|fail)
 refine Zj5 .disable (t':=⟨g,td,bk,wg,m,nn,6,a0,b0,l⟩) wgLib.f_disable (Z7h Zfb) (Z7f Zfb) (Z7i Zfb) (Z7g Zfb) (show (5:Nat)≠12 by decide) (by simp) rfl (fun γ _=>.dis5 rfl) ?_
 repeat' (first|refine uN ?_|(refine uP ?_ ?_<;>intro h<;>try exact zx)|fail)
 refine Zm (σ:=Nat × Nat) (fun q=>[(0,pt wg 0)]) (fun q=>[(⟨g,td,bk,wg,m,nn,6,q.1,q.2,l⟩:Tk).at_]::L0) (fun _=>True) (fun q=>q.2) (a0,b0) uS (Z15 _) trivial ?_
 rintro⟨a,b⟩-
 have k6:=Zrj ⟨g,td,bk,wg,m,nn,6,a,b,l⟩ wg L0 rfl rfl
 repeat' (first|refine uN ?_|(refine uP ?_ ?_<;>intro h<;>try exact zx)|fail)
 refine gc k6 ?_
 clear k6
 rintro v L' (⟨rfl,rfl⟩|⟨c,c1,c2,c3,rfl,rfl⟩)
 ·have f1:=Zvb 0
  have f2:=Zvc 0
  repeat' (first|refine uN ?_|(refine uP ?_ ?_<;>intro h<;>try exact zx)|fail)
  refine Zj5 .enable (t':=⟨g,td,bk,wg,m,nn,11,a,b,l⟩) wgLib.f_enable (ConcR.Gen.x_enable_n Zfb) (ConcR.Gen.x_enable_b Zfb) (ConcR.Gen.x_enable_x Zfb) (ConcR.Gen.x_enable_f Zfb) (show (8:Nat)≠12 by decide) (by simp) rfl (fun γ _=>.en8 (.inl rfl)) ?_
  repeat' (first|refine uN ?_|(refine uP ?_ ?_<;>intro h<;>try exact zx)|fail)
  refine Zpy wgLib (i:=0) (show (11:Nat)≠12 by decide) rfl (by decide) wgLib.underlying_tWgP wgLib.room_tWg ?_
  refine Zgs .acquire (t':=⟨g,td,bk,wg,m,nn,12,a,b,l⟩) wgLib.f_acquire (ConcR.Gen.x_acquire_n Zfb) (ConcR.Gen.x_acquire_b Zfb) (ConcR.Gen.x_acquire_x Zfb) (ConcR.Gen.x_acquire_f Zfb) (show (11:Nat)≠12 by decide) (by simp) rfl (fun γ hc=>Zym hc rfl rfl) ?_
  repeat' (first|refine uN ?_|(refine uP ?_ ?_<;>intro h<;>try exact zx)|fail)
  all_goals first|exact er0 rfl ⟨rfl,_,rfl,rfl⟩|(exfalso;simp only[p32]at *;omega)
 ·have f1:=Zvb c
  have f2:=Zvc c
  have k7:=Zxi ⟨g,td,bk,wg,m,nn,7,c,b,l⟩ wg L0 rfl rfl
  simp only at c2 k7
  have ew:((c*4294967296:Nat):Int)+1=(((c*4294967296:Nat):Int)+1) % 18446744073709551616:=by omega
  have k8:=ew▸k7
  repeat' (first|refine uN ?_|(refine uP ?_ ?_<;>intro h<;>try exact zx)|fail)
  ·exfalso;simp only[p32]at *;omega
  refine gc k8 ?_
  clear k7 k8
  rintro v L' (⟨rfl,rfl⟩|⟨rfl,rfl⟩)
  ·have k10:=Zn3 ⟨g,td,bk,wg,m,nn,10,c,b,l⟩ wg L0 rfl rfl
   repeat' (first|refine uN ?_|(refine uP ?_ ?_<;>intro h<;>try exact zx)|fail)
   refine Zpy wgLib (i:=1) (show (9:Nat)≠12 by decide) rfl (by decide) wgLib.underlying_tPU32 wgLib.room_tU32 ?_
   refine Zgs .write (t':=⟨g,td,bk,wg,m,nn,9,c,b,l⟩) wgLib.f_raceWrite (ConcR.Gen.x_raceWrite_n Zfb) (ConcR.Gen.x_raceWrite_b Zfb) (ConcR.Gen.x_raceWrite_x Zfb) (ConcR.Gen.x_raceWrite_f Zfb) (show (9:Nat)≠12 by decide) (by simp) rfl (fun γ hc=>mv_write hc rfl rfl) ?_
   repeat' (first|refine uN ?_|(refine uP ?_ ?_<;>intro h<;>try exact zx)|fail)
   refine e_sema wgLib rfl rfl ?_
   repeat' (first|refine uN ?_|(refine uP ?_ ?_<;>intro h<;>try exact zx)|fail)
   refine gc k10 ?_
   rintro v L' ⟨rfl,rfl⟩
   repeat' (first|refine uN ?_|(refine uP ?_ ?_<;>intro h<;>try exact zx)|fail)
   refine Zj5 .enable (t':=⟨g,td,bk,wg,m,nn,11,c,b,l⟩) wgLib.f_enable (ConcR.Gen.x_enable_n Zfb) (ConcR.Gen.x_enable_b Zfb) (ConcR.Gen.x_enable_x Zfb) (ConcR.Gen.x_enable_f Zfb) (show (10:Nat)≠12 by decide) (by simp) rfl (fun γ _=>.en8 (.inr rfl)) ?_
   repeat' (first|refine uN ?_|(refine uP ?_ ?_<;>intro h<;>try exact zx)|fail)
   refine Zpy wgLib (i:=0) (show (11:Nat)≠12 by decide) rfl (by decide) wgLib.underlying_tWgP wgLib.room_tWg ?_
   refine Zgs .acquire (t':=⟨g,td,bk,wg,m,nn,12,c,b,l⟩) wgLib.f_acquire (ConcR.Gen.x_acquire_n Zfb) (ConcR.Gen.x_acquire_b Zfb) (ConcR.Gen.x_acquire_x Zfb) (ConcR.Gen.x_acquire_f Zfb) (show (11:Nat)≠12 by decide) (by simp) rfl (fun γ hc=>Zym hc rfl rfl) ?_
   repeat' (first|refine uN ?_|(refine uP ?_ ?_<;>intro h<;>try exact zx)|fail)
   all_goals first|exact er0 rfl ⟨rfl,_,rfl,rfl⟩|(exfalso;simp only[p32]at *;omega)
  ·repeat' (first|refine uN ?_|(refine uP ?_ ?_<;>intro h<;>try exact zx)|fail)
   exact Ze (c,c-1) uS (LS.refl _) trivial (by simp only;omega)
end
end Go.HL
namespace Go.HL
open Go Go.Proofs Go.Conc Go.Proofs.Tryz
variable[Tasks]
section
variable{P:Program}{n:Nat}{ops rest:List Oper}{Q:Exit→Z9→Za→Prop}{ρ:Z9}{L0:Za}{t:Tk}{d:Nat}{ty:TypeId}{pos:String}{af:Array Edge}
theorem e_recv{T E:TypeId}{dir:ChanDir}{x:Operand}{z:Value}{td:Nat}(h20:t.st=20)(htd:t.todo=td)(hu:∀w,(underlying T).run P w=.ok (.chan dir E) w)(hz:∀w,(zeroValue E).run P w=.ok z w)
  (n1:∀i,t.b≤i→i<t.many→HO P n ops Q rest ((d,.tuple ⟨[.int .i64 (i:Nat),.bool true]⟩)::ρ) ([({ t with st:=21,a:=i,b:=i+1 }:Tk).at_]::L0))
  (n2:HO P n ops Q rest ((d,.tuple ⟨[z,.bool false]⟩)::ρ) ([({ t with st:=22 }:Tk).at_]::L0))(hx:ev ρ x=some (.chan (some td)):=by exact rfl)(hn:Nat.blt d n=true:=by exact rfl):
  HO P n ops Q (⟨some d,.recv T x true,ty,pos,af,none⟩::rest) ρ ([t.at_]::L0):=
 ho_recv t h20 (by simp) (by rw[htd];exact hx) hu hz (fun w es=>events_underlying _ _ _ _) (fun w es=>events_zeroValue _ _ _ _) hn (fun i L' hb hi hu=>Uk (n1 i hb hi) (Zhp (t:=t) (t':={ t with st:=21,a:=i,b:=i+1 }) rfl hu)) fun L' hu=>Uk n2 (Zhp (t:=t) (t':={ t with st:=22 }) rfl hu)
theorem e_send{x y:Operand}{v:Value}{bk:Nat}{bl:List Zp}{L1:Za}(h21:t.st=21)(hbk:t.back=bk)(hR:Tasks.R t.tag t.a v bl)(hbl:∀p∈bl,Zet p.2=true)(hls:LS (bl++L1.flatten) L0.flatten)
  (h:HO P n ops Q rest ρ ([({ t with st:=20 }:Tk).at_]::L1))(hx:ev ρ x=some (.chan (some bk)):=by exact rfl)(hy:ev ρ y=some v:=by exact rfl):HO P n ops Q (⟨none,.send x y,ty,pos,af,none⟩::rest) ρ ([t.at_]::L0):=
 ho_send t bl (L1:=[({ t with st:=20 }:Tk).at_]::L0) h21 (by rw[hbk];exact hx) hy (Zku (t:=t) (t':={ t with st:=20 }) rfl) (by
  obtain⟨l,p1,p2⟩:=hls
  refine⟨({ t with st:=20 }:Tk).at_::l,?_,?_⟩
  ·refine(p1.cons _).trans ?_
   simp only[Z17,Z19,Z2b]
   exact List.perm_middle.symm
  ·simp only[Z17,Z19,Z2b]
   exact p2.cons_cons _) hbl hR h
theorem Zx4{x:Operand}{ats:Array TypeId}{td:Nat}(h0:t.st=0)(hl:t.l=[])(htd:t.todo=td)(h:HO P n ops Q rest ρ ([({ t with st:=5,b:=t.n }:Tk).at_]::L0))(hx:ev ρ x=some (.chan (some td)):=by exact rfl):
  HO P n ops Q (⟨none,.call { callee:=.builtin .close,args:=#[x],argTypes:=ats },ty,pos,af,none⟩::rest) ρ ([t.at_]::L0):=
 ho_close t h0 hl (by simp) (by rw[htd];exact hx) fun L' hu=>Uk h (Zhp (t:=t) (t':={ t with st:=5,b:=t.n }) rfl hu)
theorem Zgt{c1 c2:SelectCase}{x:Operand}{z:Value}{bk:Nat}(h0:t.st=0)(hbk:t.back=bk)(hb:t.b<t.many)(hnn:1≤t.n)(hs1:c1.send=some x)(hs2:c2.send=none)
  (h1:∀w,(zeroValue c1.elem).run P w=.ok (.int .i64 0) w)(h2:∀w,(zeroValue c2.elem).run P w=.ok z w)
  (n1:t.a<t.many→HO P n ops Q rest ((d,.tuple ⟨[goInt 0,.bool false,z]⟩)::ρ) ([({ t with a:=t.a+1,l:=t.a::t.l }:Tk).at_]::L0))
  (n2:∀i v bl,i∈t.l→Tasks.R t.tag i v bl→HO P n ops Q rest ((d,.tuple ⟨[goInt 1,.bool true,v]⟩)::ρ) (bl::[({ t with b:=t.b+1,l:=t.l.erase i }:Tk).at_]::L0))
  (hc1:ev ρ c1.chan=some (.chan (if t.a=t.many then none else some t.todo)))(hx:ev ρ x=some (.int .i64 (t.a:Nat)):=by exact rfl)(hc2:ev ρ c2.chan=some (.chan (some bk)):=by exact rfl)(hn:Nat.blt d n=true:=by exact rfl):
  HO P n ops Q (⟨some d,.select #[c1,c2] true,ty,pos,af,none⟩::rest) ρ ([t.at_]::L0):=
 Zz9 t h0 (by simp) hb hnn hs1 hs2 hc1 hx (by rw[hbk];exact hc2) h1 h2 (fun w es=>events_zeroValue _ _ _ _) (fun w es=>events_zeroValue _ _ _ _) hn
  (fun ha L' hu=>Uk (n1 ha) (Zhp (t:=t) (t':={ t with a:=t.a+1,l:=t.a::t.l }) rfl hu)) fun i v bl L' hi hR hu=>Uk (n2 i v bl hi hR) (by
   have:=Zhp (t:=t) (t':={ t with b:=t.b+1,l:=t.l.erase i }) rfl hu
   simpa using this.boths bl)
theorem Lo.nodup{main:Bool}{Φ:Goroutine→Za→Prop}{g:Goroutine}{L:Za}(hr:g.status=.running)(h:(L.flatten.map (·.1)).Nodup→Lo P main Φ g L):Lo P main Φ g L:=by
 by_cases hn:(L.flatten.map (·.1)).Nodup
 ·exact h hn
 ·exact .own (fun _ _=>False) hr (fun k w hs=>absurd hs.nodup hn) fun _ _ x=>x.elim
theorem hw_nodup{c:Code}{L:Za}(h:(L.flatten.map (·.1)).Nodup→HW P n c Q ρ L):HW P n c Q ρ L:=fun main Φ b k cs a hb hc ha=>Lo.nodup rfl fun hn=>h hn main Φ b k cs a hb hc ha
theorem hw_wk{c:Code}{L L':Za}(hw:Wk L L')(h:HW P n c Q ρ L'):HW P n c Q ρ L:=fun main Φ b k cs a hb hc ha=>.weak hw (h main Φ b k cs a hb hc ha)
theorem Z1i{c:Array Value}{E:Nat}{x:Nat}:Zq1 (.cells c E (0,x))=false:=by simp[Zq1,Nat.blt];rfl
theorem Zi2{c:Code}{L L':Za}{b E:Nat}{v:Array Value}(h:HW P n c Q ρ L')(hu:Upd L b (.cells v E (0,0)) (Zr (.cells v E (0,0))) L':=by (repeat (first|exact Xx|apply Zxk|apply Zeb))):HW P n c Q ρ L:=hw_wk (Zpi hu Z1i) h
theorem e_go{f:Operand}{ats:Array TypeId}{F:Nat}{cap:List Value}{Lc:Za}(h3:t.st=3)(hnd:(([t.at_]::L0:Za).flatten.map (·.1)).Nodup)(hls:LS Lc.flatten L0.flatten)(hro:∀p∈Lc.flatten,Zq1 p.2=true)
  (child:Lo P false (fun _ _=>False) (Conc.born P { target:=.fn (.func F) ⟨cap⟩,args:=#[] }) ([({ t with st:=20 }:Tk).at_]::Lc))(h:HO P n ops Q rest ρ ([({ t with st:=0,n:=t.n+1 }:Tk).at_]::L0))(hf:ev ρ f=some (.func (.func F) #[] ⟨cap⟩):=by exact rfl):
  HO P n ops Q (⟨none,.go { callee:=.value f,args:=#[],argTypes:=ats },ty,pos,af,none⟩::rest) ρ ([t.at_]::L0):=
 ho_spawn t (L1:=[({ t with st:=0,n:=t.n+1 }:Tk).at_]::L0) h3 hf (Zku (t:=t) (t':={ t with st:=0,n:=t.n+1 }) rfl)
  ⟨⟨[],Lc.flatten,by simp,by simpa using LS.refl _,by simp,fun p hp=>⟨hro p hp,by simp[hls.mem hp]⟩⟩,by
   obtain⟨l,p1,p2⟩:=hls
   simp only[Z17,Z19,Z2b,Z2s,Tk.at_]at hnd ⊢
   rw[Z3w]at hnd ⊢
   exact⟨fun hx=>hnd.1 (by
    obtain⟨p,hp,e⟩:=Z2v.1 hx
    exact Z2v.2 ⟨p,p2.subset (p1.mem_iff.2 hp),e⟩),(p1.map _).nodup_iff.1 (hnd.2.sublist (p2.map _))⟩⟩ child h
end
section
variable[Go.ConcR.Payload]{P:Program}{Wg C:Nat}{o:Obj}{v:Value}{L:Za}{Φ:Goroutine→Za→Prop}
theorem Zs2{b:Frame}{a:Act}{k:List Item}{cs:List Frame}{ops:Array Oper}{i:Nat}{rest:List Nat}{o':Oper}{f:Nat}{fn:Func}{c:Code}{as9:Array Operand}{ats:Array TypeId}{args:Array Value}(ho:ops[i]?=some o')(hw:Region.wanted o' (yielded ops a.tmps)=true)(hk:b.kind≠.early)
  (hop:o'.op=.call { callee:=.value (.func f),args:=as9,argTypes:=ats })(hf:P.funcs[f]?=some fn)(hb:fn.body=some c)(hname:(fn.name == "runtime.NumGoroutine")=false)(hargs:as9.map a.eval=args)
  (n:Lo P false Φ (G (Frame.enter P f args .normal) (b.at a (.inRegion ops (i::rest)::k)::cs)) L):Lo P false Φ (G (b.at a (.inRegion ops (i::rest)::k)) cs) L:=
 .ctl rfl rfl (fun w=>by
  have h1:¬ fn.name= "runtime.NumGoroutine" := by simpa using hname
  rw[stepG_enter ho hw hk (by rw[execOp_call_func hop,hargs];exact(Zek hf hb hname).run _ w)]
  unfold listed
  rw[execOp_call_func hop]
  simp[callFunc,hf,h1,hb,seen_none]) n
theorem done_neg{K:Lib.WgLink}(H:Lib.WgLib P K)(hT:Tasks.T=K.tWg){t:Tk}{E:Nat}{l:Array Value}{fr:Nat × Nat}(h:At22 Wg C (.cells l E fr) t L)(hl:l[0]?=some v){b₀:Frame}{a₀:Act}{ops₀:Array Oper}{i₀:Nat}{rest₀:List Nat}{k₀:List Item}{cs:List Frame}{qt:Nat}
  (hQ:QuitsD P qt 0 (G (b₀.at (a₀.put ((ops₀[i₀]?).bind (·.dst)) (.tuple #[])) (.inRegion ops₀ rest₀::k₀)) cs)):
  Lo P false Φ (G (Frame.enter P K.done #[.pointer (some ⟨Wg,0,none⟩)] .normal) (b₀.at a₀ (.inRegion ops₀ (i₀::rest₀)::k₀)::cs)) L:=by
 have hb:(Lib.doneFn K).body=some ((Lib.doneFn K).body.getD .skip):=by rw[Lib.doneFn];rfl
 have hn:(Lib.doneFn K).ntmps=4:=rfl
 rw[Z62 _ H.f_done hb,hn]
 simp only[Z31,Z2y,Z23,Nat.reduceAdd,Nat.reduceSub,Array.replicate_succ,Array.replicate_zero,List.push_toArray,List.append_toArray,Z2b,Z19]
 simp only[Lib.doneFn,Z46]
 refine .ctl rfl rfl (fun w=>Z63) ?_
 simp only[Z31,Z2y,Z23,Nat.reduceAdd,Z3o,List.range,List.range.loop]
 refine .ctl rfl rfl (fun w=>Zd6 (.pointer (some ⟨Wg,0,none⟩)) rfl rfl (by k_ne) (by go_simp) (by simp[go_sem])) ?_
 walk_nrm
 refine Zs2 rfl rfl (by k_ne) rfl H.f_add (c:=ConcR.Gen.body_add K) (by unfold ConcR.Gen.body_add;rw[Lib.addFn];rfl) (ConcR.Gen.nm_add K) (by walk_nrm) (add_neg H hT h hl (b₀:=base K.done) (qt:=qt+3) ?_)
 walk_nrm
 refine QuitsD.ctl rfl (fun _=>Z6l) ?_
 refine QuitsD.ctl rfl (fun _=>stepG_end) ?_
 exact QuitsD.leave0 rfl rfl H.f_done rfl hQ
end
end Go.HL
namespace Go.HL
open Go Go.Proofs Go.Proofs.Tryz
variable[Tasks]
attribute [local irreducible] HW HO HQ HD HC QOp Has Upd Yi Gets Vv W6 Xn Zaf Wa Yz Zcl Xy
section
variable[Go.ConcR.Payload]
theorem last_lo{t:Tk}{wg C b2 E:Nat}{o:Array Value}{f f2:Nat × Nat}{v:Value}{L:Za}{T:Array Value}{todo:List Item}(hT:Tasks.T=240)(h:At22 wg C (.cells o E f) t L)(hl:o[0]?=some v)(hb2:Has L b2 (.cells ⟨[pt wg 0]⟩ 292 f2)):
  Lo prog false (fun _ _=>False) (Conc.G { (Conc.baseD 208).at ⟨T,[Zgq 209 [pt b2 0]]⟩ todo with mode:=.returning } [Zfe prog]) L:=by
 refine .ctl rfl rfl (fun w=>Zn2 rfl func209 (by kernel_rfl) rfl) ?_
 have ha:=Zn6 (vs:=[pt b2 0]) (m:=8) (by simp)
 rw[show Tryz.f209.ntmps=8 from rfl]
 refine .ctl rfl rfl (fun w=>Conc.stepG_seq) ?_
 refine .ctl rfl rfl (fun w=>Conc.stepG_seq) ?_
 refine .ctl rfl rfl (fun w=>Conc.stepG_region) ?_
 refine .ctl rfl rfl (fun w=>Zn1 rfl rfl rfl rfl rfl) ?_
 replace ha:=ha.put (d:=2) (by decide) .nilIface
 refine lo_q rfl (by decide) rfl ha (Zty rfl) fun ha=>?_
 refine .ctl rfl rfl (fun w=>Z51) ?_
 refine hw_run_n (K:=fun ρ' L'=>lk ρ' 0=some (pt b2 0)∧L'=L) ?_ ha (by decide) fun a' ρ' L' hd ha' ⟨h0,e⟩=>?_
 ·simp only[Q6,Nat.reduceAdd]
  repeat' (first|refine uN ?_|(refine uB ?_;intro b)|refine dg S 100 (fun _ _=>?_)|(refine uP ?_ ?_<;>intro h<;>try exact zx)|refine da 101 ?_|fail)
  exact⟨rfl,rfl,rfl⟩
 subst e
 refine .ctl rfl rfl (fun w=>Conc.stepG_region) ?_
 refine lo_q rfl (by decide) rfl ha' (Zmg S (x:=.tmp 0) h0 rfl rfl rfl hb2 rfl) fun ha2=>?_
 have e6:=ha2.ev (x:=.tmp 6) rfl
 refine Zs2 rfl rfl (by decide) rfl wgLib.f_done rfl (by kernel_rfl) (args:=#[pt wg 0]) (by simp[e6]) ?_
 refine done_neg wgLib hT h hl (qt:=5) ?_
 refine Conc.QuitsD.ctl rfl (fun _=>Z51) ?_
 refine Conc.QuitsD.ctl rfl (fun _=>Z6r) ?_
 refine Conc.QuitsD.leaveD rfl hd func209 rfl rfl ?_
 exact Zwu rfl rfl func208 rfl
structure AtC(C:Nat)(o:Obj)(L:Za):Prop where
 blk:∃o',(C,o')∈L.flatten∧gho o'=false∧act o'=o
 old:Tasks.O C
 at0:Tasks.W0.heap[C]?=some o
 ne:∀a b c,o≠Un Tasks.T a b c
theorem Z1y{t:Tk}{wg C b2 b3 E F:Nat}{cap:List Value}{o:Array Value}{f f2 f3:Nat × Nat}{v:Value}{L:Za}(hT:Tasks.T=240)(h:AtC C (.cells o E f) L)(hw:t.wg=wg)(hl:o[0]?=some v)
  (hb2:Has L b2 (.cells ⟨[pt wg 0]⟩ 292 f2))(hb3:Has L b3 (.cells ⟨[.func (.func F) #[] ⟨cap⟩]⟩ 1 f3))
  (hF:HC prog F cap ([t.at_]::L) (fun v L'=>v=.tuple #[]∧∃t':Tk,t'.st=22∧t'.wg=t.wg∧L'=[t'.at_]::L)):
  Lo prog false (fun _ _=>False) (Conc.born prog (Zgq 208 [pt b2 0,pt b3 0])) ([t.at_]::L):=by
 refine .ctl rfl rfl (fun w=>Zxd func208 (by kernel_rfl) rfl) ?_
 have ha:=Zn6 (vs:=[pt b2 0,pt b3 0]) (m:=5) (by simp)
 rw[show Tryz.f208.ntmps=5 from rfl]
 simp only[Q6,Nat.reduceAdd]at ha
 refine Z0f (d:=[Zgq 209 [pt b2 0]]) (K:=fun _ L'=>∃t':Tk,t'.st=22∧t'.wg=t.wg∧L'=[t'.at_]::L) ?_ ha (by decide) fun a' ρ' L' hd ha' ⟨t',h22,hwg,e⟩=>?_
 ·refine Zkc (d:=[Zgq 209 [pt b2 0]]) (d':=[]) ?_
  refine Zvx rfl (Zmh rfl) rfl ?_
  refine⟨rfl,?_⟩
  refine HW.hwd ?_
  repeat' (first|refine uN ?_|(refine uB ?_;intro b)|refine dg S 100 (fun _ _=>?_)|(refine uP ?_ ?_<;>intro h<;>try exact zx)|refine da 101 ?_|fail)
  refine gc hF ?_
  rintro v L' ⟨rfl,t',h22,hwg,rfl⟩
  repeat' (first|refine uN ?_|(refine uB ?_;intro b)|refine dg S 100 (fun _ _=>?_)|(refine uP ?_ ?_<;>intro h<;>try exact zx)|refine da 101 ?_|fail)
  exact⟨rfl,t',h22,hwg,rfl⟩
 ·subst e
  refine .ctl rfl rfl (fun w=>Z6r) ?_
  obtain⟨T,ds⟩:=a'
  simp only[Z2p]at hd
  subst hd
  obtain⟨o',h1,h2,h3⟩:=h.blk
  exact last_lo hT ⟨h22,hwg.trans hw,by simp,⟨o',by simp[h1],h2,h3⟩,h.old,h.at0,h.ne⟩ hl (Zb hb2)
theorem Zsl{t:Tk}{wg C E F:Nat}{cap:List Value}{o:Array Value}{f:Nat × Nat}{v:Value}{Lr L0:Za}(hT:Tasks.T=240)(h:AtC C (.cells o E f) Lr)(hl:o[0]?=some v)(h0:t.st=0)(hn:t.n<1000)(hw:t.wg=wg)(hro:∀p∈Lr.flatten,Zq1 p.2=true)(hls:LS Lr.flatten L0.flatten)
  (hF:∀c c',HC prog F cap ([({ t with st:=20 }:Tk).at_]::c::c'::Lr) (fun v L'=>v=.tuple #[]∧∃t':Tk,t'.st=22∧t'.wg=t.wg∧L'=[t'.at_]::c::c'::Lr)):
  HC prog 165 [pt wg 0,.func (.func F) #[] ⟨cap⟩] ([t.at_]::L0) (fun v L'=>v=.tuple #[]∧L'=[({ t with n:=t.n+1 }:Tk).at_]::L0):=by
 obtain⟨g,td,bk,w0,m,nn,st,x,y,l⟩:=t
 obtain rfl:st=0:=h0
 obtain rfl:w0=wg:=hw
 have k1:=fun L=>Zu8 ⟨g,td,bk,w0,m,nn,0,x,y,l⟩ w0 L rfl hn rfl
 refine uE func165 ntmps165 ?_
 repeat' (first|refine uN ?_|(refine uB ?_;intro b)|fail)
 rename_i b2
 generalize b=b3
 refine fo 2 ?_
 refine gc (k1 _) ?_
 rintro v L' ⟨rfl,rfl⟩
 refine Zcw ?_
 refine Vl ?_
 refine Zi2 (L':=_::[(b3,Zr _)]::[(b2,_)]::L0) ?_
 refine Zi2 (L':=_::[(b3,Zr _)]::[(b2,Zr _)]::L0) ?_
 refine hw_nodup fun hnd=>?_
 repeat' (first|refine uN ?_|(refine uB ?_;intro b)|fail)
 refine e_go (Lc:=[(b2,Zr (.cells ⟨[pt w0 0]⟩ 292 (0,0)))]::[(b3,Zr (.cells ⟨[.func (.func F) #[] ⟨cap⟩]⟩ 1 (0,0)))]::Lr) rfl hnd ?_ ?_ ?_ ?_
 ·obtain⟨q,p1,p2⟩:=hls
  exact⟨_::_::q,(List.Perm.swap _ _ _).trans ((p1.cons _).cons _),(p2.cons_cons _).cons_cons _⟩
 ·intro p hp
  simp only[Z17,Z19,Z2b,Z2h]at hp
  rcases hp with rfl|rfl|hp
  ·exact Wj _ _ _
  ·exact Wj _ _ _
  ·exact hro p hp
 ·refine Z1y (C:=C) (E:=E) (o:=o) (f:=f) (v:=v) (F:=F) (f2:=(0+(Tasks.m+1),0)) (f3:=(0+(Tasks.m+1),0)) hT ?_ rfl hl ?_ ?_ (hF _ _)
  ·obtain⟨o',h1,h2,h3⟩:=h.blk
   exact⟨⟨o',by simp[h1],h2,h3⟩,h.old,h.at0,h.ne⟩
  ·exact Zk
  ·exact Zb Zk
 repeat' (first|refine uN ?_|(refine uB ?_;intro b)|fail)
 exact fn_end0 rfl ((((Z15 L0).cons _).cons _).cons_cons _) ⟨rfl,rfl⟩
end
end Go.HL
namespace Go.HL
open Go Go.Proofs Go.Proofs.Tryz
variable[Tasks]
def Zde(i:Nat)(l:List Value):Value:=.agg ⟨iv i::l++[.nilIface]⟩
structure Tl2 where
 a:Option Addr
 n:Nat
 c:Nat
 b:Option Addr
 m:Nat
 d:Nat
def tc(x:Tl2):List Value:=[.slice x.a x.n x.c,.slice x.b x.m x.d]
def Zu2:Tl2:=⟨none,0,0,none,0,0⟩
structure AllI{α:Type}(R:Nat→α→List Zp→Prop)(m a b:Nat)(l:List Nat)(xs:List α)(B:List Zp):Prop where
 lx:xs.length=m
 nd:l.Nodup
 lt:∀i∈l,i<a
 sum:b+l.length=a
 am:a≤m
 fin:∀i,i<a→i ∉ l→∃x bl,xs[i]?=some x∧R i x bl∧∀p∈bl,p∈B
section
variable{α:Type}{R:Nat→α→List Zp→Prop}{m a b:Nat}{l:List Nat}{xs:List α}{B:List Zp}
theorem AllI.out(h:AllI R m a b l xs B)(ha:a<m):AllI R m (a+1) b (a::l) xs B:=
 ⟨h.lx,Z3w.2 ⟨fun hm=>by have:=h.lt a hm;omega,h.nd⟩,fun i hi=>by
  rcases Z2h.1 hi with rfl|hi
  ·omega
  ·have:=h.lt i hi;omega,by simp only[Z2y];have:=h.sum;omega,by omega,fun i hi hn=>by
  simp only[Z2h,not_or]at hn
  exact h.fin i (by omega) hn.2⟩
theorem AllI.back(h:AllI R m a b l xs B){i:Nat}(hi:i∈l){x:α}{bl:List Zp}(hR:R i x bl):i<m∧AllI R m a (b+1) (l.erase i) (xs.set i x) (bl++B):=by
 have hlt:=h.lt i hi
 have ham:=h.am
 refine⟨by omega,by simp[h.lx],h.nd.erase i,fun j hj=>h.lt j (List.mem_of_mem_erase hj),?_,h.am,fun j hj hn=>?_⟩
 ·rw[Z6o hi]
  have:=h.sum
  have:1≤l.length:=Z57.2 (List.ne_nil_of_mem hi)
  omega
 ·by_cases e:i=j
  ·subst e
   exact⟨x,bl,List.getElem?_set_self (by rw[h.lx];omega),hR,fun p hp=>Z2x _ hp⟩
  ·obtain⟨y,c,h1,h2,h3⟩:=h.fin j hj fun hm=>hn ((List.mem_erase_of_ne (fun q=>e q.symm)).2 hm)
   exact⟨y,c,by rw[Z4a e,h1],h2,fun p hp=>Z2q _ (h3 p hp)⟩
theorem AllI.all(h:AllI R m a b l xs B)(hb:m≤b):l=[]∧∀i,i<m→∃x bl,xs[i]?=some x∧R i x bl∧∀p∈bl,p∈B:=by
 have hs:=h.sum
 have ha:=h.am
 obtain rfl:l=[]:=List.length_eq_zero_iff.1 (by omega)
 exact⟨rfl,fun i hi=>h.fin i (by omega) (by simp)⟩
end
theorem AtC.mono[Tasks]{C:Nat}{o:Obj}{L L':Za}(h:AtC C o L)(hm:∀p∈L.flatten,p∈L'.flatten):AtC C o L':=⟨let ⟨o',a,b⟩:=h.blk;⟨o',hm _ a,b⟩,h.old,h.at0,h.ne⟩
theorem Ztx{α:Type}{enc:α→List Value}{sz:Nat}(he:∀x,(enc x).length=sz){xs:List α}{i:Nat}{x:α}(h:i<xs.length):Yi (xs.map enc).flatten (0+(i:Int).toNat*sz) (enc x) ((xs.set i x).map enc).flatten:=by
 have:=Zcb (enc:=enc) (sz:=sz) he xs [] [] i (0+(i:Int).toNat*sz) x h (by simp)
 simpa using this
theorem Zyo{i m:Nat}:(List.replicate m Value.nilIface).set i .nilIface=List.replicate m .nilIface:=by
 refine Z3i fun j=>?_
 rw[Z2z]
 split
 ·rename_i e
  subst e
  simp only[Z66,Z24]
 ·rfl
theorem Za2{X L:Za}{b:Nat}{o:Obj}(h:Has L b o):Has (X++L) b o:=by
 simp only[Has,Z2l,Z2f] at*
 exact .inr h
theorem Zf6{a b:List Zp}{A:Za}{L:List Zp}(h:LS (a::b::A).flatten L):LS ((a++b)::A).flatten L:=by simpa only[Z17,Z18] using h
attribute [local irreducible] HW HO HQ HD HC QOp Has Upd Yi Gets Vv W6 Xn Zaf Wa Yz Zcl Xy
section
variable[Go.ConcR.Payload]
theorem Zrw(t:Tk)(bt bh bb td bk F:Nat)(cap:List Value)(R:Nat→Tl2→List Zp→Prop)(f1 f2 f3:Nat × Nat)(L0:Za)(h20:t.st=20)(htd:t.todo=td)(hbk:t.back=bk)
  (hbt:Has L0 bt (.cells ⟨[.chan (some td)]⟩ 229 f1))(hbh:Has L0 bh (.cells ⟨[.func (.func F) #[] ⟨cap⟩]⟩ 171 f2))(hbb:Has L0 bb (.cells ⟨[.chan (some bk)]⟩ 230 f3))
  (hF:∀i,i<t.many→∀c,HC prog F (iv i::cap) (c::L0) (fun v L'=>∃x bl,v=.tuple ⟨[.agg ⟨tc x⟩,.nilIface]⟩∧R i x bl∧(∀p∈bl,Zet p.2=true)∧L'=bl::c::L0))(hR:∀i x bl,R i x bl→Tasks.R t.tag i (Zde i (tc x)) bl):
  HC prog 166 [pt bt 0,pt bh 0,pt bb 0] ([t.at_]::L0) (fun v L'=>v=.tuple #[]∧∃t':Tk,t'.st=22∧t'.wg=t.wg∧L'=[t'.at_]::L0):=by
 obtain⟨g,td0,bk0,wg,m,nn,st,a0,b0,l⟩:=t
 obtain rfl:st=20:=h20
 obtain rfl:td0=td:=htd
 obtain rfl:bk0=bk:=hbk
 refine uE func166 ntmps166 ?_
 repeat' (first|refine uN ?_|(refine uB ?_;intro b)|(refine uP ?_ ?_<;>intro h<;>try exact zx)|fail)
 refine Zm (σ:=Nat × Nat) (fun q=>[(0,pt bt 0),(1,pt bh 0),(2,pt bb 0),(6,.chan (some td0))]) (fun q=>[(⟨g,td0,bk0,wg,m,nn,20,q.1,q.2,l⟩:Tk).at_]::L0) (fun _=>True) (fun q=>m-q.2) (a0,b0) uS (Z15 _) trivial ?_
 rintro⟨a,b⟩-
 repeat' (first|refine uN ?_|(refine uB ?_;intro b)|(refine uP ?_ ?_<;>intro h<;>try exact zx)|fail)
 refine e_recv rfl rfl runUnderlying229 (zeroValue3) (fun i hb hi=>?_) ?_
 ·simp only at hb hi
  have kf:=hF i hi [(⟨g,td0,bk0,wg,m,nn,21,i,i+1,l⟩:Tk).at_]
  repeat' (first|refine uN ?_|(refine uB ?_;intro b)|(refine uP ?_ ?_<;>intro h<;>try exact zx)|fail)
  refine gc kf ?_
  clear kf
  rintro v L' ⟨x,bl,rfl,hx,hp,rfl⟩
  repeat' (first|refine uN ?_|(refine uB ?_;intro b)|(refine uP ?_ ?_<;>intro h<;>try exact zx)|fail)
  refine fo 2 ?_
  refine e_send (bl:=bl) (L1:=L0) rfl rfl (hR i x bl hx) hp (LS.skip _ (LS.refl _)) ?_
  repeat' (first|refine uN ?_|(refine uB ?_;intro b)|(refine uP ?_ ?_<;>intro h<;>try exact zx)|fail)
  exact Ze (i,i+1) uS (LS.refl _) trivial (by simp only;omega)
 ·repeat' (first|refine uN ?_|(refine uB ?_;intro b)|(refine uP ?_ ?_<;>intro h<;>try exact zx)|fail)
  exact ee0 rfl ⟨rfl,⟨g,td0,bk0,wg,m,nn,22,a,b,l⟩,rfl,rfl,rfl⟩
theorem Zva{t:Tk}{C E F g many wk:Nat}{cap:List Value}{o:Array Value}{f:Nat × Nat}{v0:Value}{Lr L0:Za}(R:Nat→Tl2→List Zp→Prop)(hT:Tasks.T=240)(h:AtC C (.cells o E f) Lr)(hl:o[0]?=some v0)(h12:t.st=12)(hk1:1≤wk)(hk2:wk≤100)(hm:many≤1000)
  (hro:∀p∈Lr.flatten,Zq1 p.2=true)(hls:LS Lr.flatten L0.flatten)
  (hF:∀i,i<many→∀X,HC prog F (iv i::cap) (X++Lr) (fun v L'=>∃x bl,v=.tuple ⟨[.agg ⟨tc x⟩,.nilIface]⟩∧R i x bl∧(∀p∈bl,Zet p.2=true)∧L'=bl::(X++Lr)))(hR:∀i v bl,Tasks.R g i v bl↔∃x,v=Zde i (tc x)∧R i x bl):
  HC prog 111 [iv many,iv wk,.func (.func F) #[] ⟨cap⟩] ([t.at_]::L0) (fun v L'=>∃(bo be:Nat) (t':Tk) (xs:List Tl2) (B:List Zp),v=.tuple ⟨[sl bo 0 many many,sl be 0 many many]⟩∧t'.st=12∧xs.length=many∧(∀i,i<many→∃x bl,xs[i]?=some x∧R i x bl∧∀p∈bl,p∈B)∧
   L'=[t'.at_]::[(bo,.cells ⟨(xs.map tc).flatten⟩ 90)]::[(be,.cells ⟨List.replicate many .nilIface⟩ 28)]::B::L0):=by
 refine uE func111 ntmps111 ?_
 refine Za3 ?_
 refine Vs ?_
 refine wb (fun bh=>?_)
 refine uN ?_
 refine uN ?_
 refine uN ?_
 refine uN ?_
 refine Za3 ?_
 apply Zf8 (ι:=Nat × Nat × Nat × Nat) (fun _=>True) (fun q=>[(0,iv many),(1,iv wk),(2,.func (.func F) #[] ⟨cap⟩),(5,pt bh 0),(8,pt q.1 0),(9,pt q.2.1 0)])
  (fun q=>[(q.1,.cells ⟨[.chan (some q.2.2.1)]⟩ 229)]::[(q.2.1,.cells ⟨[.chan (some q.2.2.2)]⟩ 230)]::[(q.2.2.1,.chan 0 #[] false 0 0 false)]::[(q.2.2.2,.chan 0 #[] false 0 0 false)]::[(bh,.cells ⟨[.func (.func F) #[] ⟨cap⟩]⟩ 171)]::[t.at_]::L0)
 ·intro key
  have kk:=fun bt bb c d ρ' L' hs hl=>Zbp (ρ:=ρ') (Wf (L:=L') (key (bt,bb,c,d) trivial) hl) hs
  simp only at kk
  refine g_d S ?_
  repeat' first
   | (show HO _ _ _ _ _ _ _;first|refine Zcw ?_|refine Zrl S runUnderlying229 rfl (fun b=>?_)|refine Zrl S runUnderlying230 rfl (fun b=>?_)|refine wa S (fun b=>?_)|refine ws S ?_)
   | (show HD _ _ _ _ _ _ _ _;first|refine Zlf ?_|refine Zx7 ?_ ?_ ?_ ?_|refine Zlg ?_ ?_ ?_|refine Zdw ?_ ?_|refine da 101 ?_)
   | refine dx ?_
   | refine dx0 ?_
  all_goals (
   refine Vl ?_
   exact kk _ _ _ _ _ _ ⟨rfl,rfl,rfl,rfl,rfl,rfl,trivial⟩ uL)
 rintro⟨bt,bb,c,d⟩-
 simp only
 refine Za3 ?_
 refine Vs ?_
 refine wa S (fun u=>?_)
 refine Zcw ?_
 refine Vl ?_
 refine Zi2 (L':=_::[(bt,Zr _)]::_::_::_::_::_) ?_
 refine Zi2 (L':=_::_::[(bb,Zr _)]::_::_::_::_) ?_
 refine Zi2 (L':=_::_::_::_::_::[(bh,Zr _)]::_) ?_
 refine Zsp (t:=t) (t':=⟨g,c,d,u,many,0,0,0,0,[]⟩) c d u 0 h12 rfl rfl rfl rfl rfl rfl rfl rfl (r:=([(bh,Zr (.cells ⟨[.func (.func F) #[] ⟨cap⟩]⟩ 171 (0,0)))]::[(bt,Zr (.cells ⟨[.chan (some c)]⟩ 229 (0,0)))]::[(bb,Zr (.cells ⟨[.chan (some d)]⟩ 230 (0,0)))]::L0:Za).flatten) ?_ ?_
 ·have ew:Un 240 0 0 0=.cells ⟨[.int .u64 0,.int .u32 0]⟩ 240:=rfl
  rw[hT,ew]
  show LS (([t.at_]::[(c,_)]::[(d,_)]::[(u,_)]::[(bh,Zr (.cells ⟨[.func (.func F) #[] ⟨cap⟩]⟩ 171 (0,0)))]::[(bt,Zr (.cells ⟨[.chan (some c)]⟩ 229 (0,0)))]::[(bb,Zr (.cells ⟨[.chan (some d)]⟩ 230 (0,0)))]::L0:Za).flatten) _
  exact uL
 refine Zsr (L':=[(⟨g,c,d,u,many,0,0,0,0,[]⟩:Tk).at_]::[(bh,Zr (.cells ⟨[.func (.func F) #[] ⟨cap⟩]⟩ 171 (0,0)))]::[(bt,Zr (.cells ⟨[.chan (some c)]⟩ 229 (0,0)))]::[(bb,Zr (.cells ⟨[.chan (some d)]⟩ 230 (0,0)))]::L0) ?_ (by simp)
 refine uN ?_
 repeat' (first|refine uN ?_|(refine uB ?_;intro b)|(refine uP ?_ ?_<;>intro h<;>try exact zx)|refine da 101 ?_|fail)
 refine Zm (σ:=Nat) (fun i=>[(0,iv many),(1,iv wk),(5,pt bh 0),(8,pt bt 0),(9,pt bb 0),(10,pt u 0),(17,iv wk),(18,iv i)]) (fun i=>[(⟨g,c,d,u,many,i,0,0,0,[]⟩:Tk).at_]::[(bh,Zr (.cells ⟨[.func (.func F) #[] ⟨cap⟩]⟩ 171 (0,0)))]::[(bt,Zr (.cells ⟨[.chan (some c)]⟩ 229 (0,0)))]::[(bb,Zr (.cells ⟨[.chan (some d)]⟩ 230 (0,0)))]::L0) (fun i=>i≤wk) (fun i=>wk-i) 0 uS (Z15 _) (Z6v _) ?_
 intro i hi
 have kg:=Zsl (t:=⟨g,c,d,u,many,i,0,0,0,[]⟩) (wg:=u) (C:=C) (E:=E) (F:=166) (cap:=[pt bt 0,pt bh 0,pt bb 0]) (o:=o) (f:=f) (v:=v0) (Lr:=[(bh,Zr (.cells ⟨[.func (.func F) #[] ⟨cap⟩]⟩ 171 (0,0)))]::[(bt,Zr (.cells ⟨[.chan (some c)]⟩ 229 (0,0)))]::[(bb,Zr (.cells ⟨[.chan (some d)]⟩ 230 (0,0)))]::Lr) (L0:=[(bh,Zr (.cells ⟨[.func (.func F) #[] ⟨cap⟩]⟩ 171 (0,0)))]::[(bt,Zr (.cells ⟨[.chan (some c)]⟩ 229 (0,0)))]::[(bb,Zr (.cells ⟨[.chan (some d)]⟩ 230 (0,0)))]::L0) hT (h.mono fun p hp=>by simp[hp]) hl rfl (show i<1000 by omega) rfl
  (fun p hp=>by
   simp only[Z17,Z19,Z2b,Z2h]at hp
   rcases hp with rfl|rfl|rfl|hp
   ·exact Wj _ _ _
   ·exact Wj _ _ _
   ·exact Wj _ _ _
   ·exact hro p hp) (LS.k (LS.k (LS.k hls)))
  (fun c1 c2=>Zrw _ bt bh bb c d F cap R _ _ _ (c1::c2::[(bh,Zr (.cells ⟨[.func (.func F) #[] ⟨cap⟩]⟩ 171 (0,0)))]::[(bt,Zr (.cells ⟨[.chan (some c)]⟩ 229 (0,0)))]::[(bb,Zr (.cells ⟨[.chan (some d)]⟩ 230 (0,0)))]::Lr) rfl rfl rfl (Zb (Zb (Zb Zk))) (Zb (Zb Zk)) (Zb (Zb (Zb (Zb Zk)))) (fun j hj c0=>hF j hj [c0,c1,c2,_,_,_]) (fun i x bl hx=>(hR i _ bl).2 ⟨x,rfl,hx⟩))
 by_cases hlt:i<wk
 ·repeat' (first|refine uN ?_|(refine uB ?_;intro b)|(refine uP ?_ ?_<;>intro h<;>try exact zx)|refine da 101 ?_|fail)
  refine gc kg ?_
  rintro v L' ⟨rfl,rfl⟩
  repeat' (first|refine uN ?_|(refine uB ?_;intro b)|(refine uP ?_ ?_<;>intro h<;>try exact zx)|refine da 101 ?_|fail)
  exact Ze (i+1) uS (LS.refl _) (by omega) (by omega)
 obtain rfl:i=wk:=by omega
 clear kg
 repeat' (first|refine uN ?_|(refine uB ?_;intro b)|(refine uP ?_ ?_<;>intro h<;>try exact zx)|refine da 101 ?_|fail)
 apply Zf8 (ι:=Nat × Nat) (fun _=>True) (fun q=>[(0,iv many),(5,pt bh 0),(6,sl q.1 0 many many),(7,sl q.2 0 many many),(8,pt bt 0),(9,pt bb 0),(10,pt u 0)])
  (fun q=>[(q.1,.cells ⟨(List.replicate many (tc Zu2)).flatten⟩ 90)]::[(q.2,.cells ⟨List.replicate many .nilIface⟩ 28)]::[(⟨g,c,d,u,many,i,0,0,0,[]⟩:Tk).at_]::[(bh,Zr (.cells ⟨[.func (.func F) #[] ⟨cap⟩]⟩ 171 (0,0)))]::[(bt,Zr (.cells ⟨[.chan (some c)]⟩ 229 (0,0)))]::[(bb,Zr (.cells ⟨[.chan (some d)]⟩ 230 (0,0)))]::L0)
 ·intro key
  have kk:=fun bo be ρ' L' hs hl=>Zbp (ρ:=ρ') (Wf (L:=L') (key (bo,be) trivial) hl) hs
  simp only at kk
  refine g_d S ?_
  repeat' first
   | (show HO _ _ _ _ _ _ _;first|refine Zcw ?_|(refine uB ?_;intro b))
   | (show HD _ _ _ _ _ _ _ _;first|refine Zlf ?_|refine uN ?_|refine Zdw ?_ ?_|refine da 101 ?_)
   | refine dx ?_
   | refine dx0 ?_
  all_goals (
   refine Vl ?_
   exact kk _ _ _ _ ⟨rfl,rfl,rfl,rfl,rfl,rfl,rfl,trivial⟩ uL)
 rintro⟨bo,be⟩-
 simp only
 rw[show (List.replicate many (tc Zu2)).flatten=((List.replicate many Zu2).map tc).flatten by rw[Z5p]]
 repeat' (first|refine uN ?_|(refine uB ?_;intro b)|(refine uP ?_ ?_<;>intro h<;>try exact zx)|refine da 101 ?_|fail)
 refine Zsr (L':=[]::[(bo,.cells ⟨((List.replicate many Zu2).map tc).flatten⟩ 90)]::[(be,.cells ⟨List.replicate many .nilIface⟩ 28)]::[(⟨g,c,d,u,many,i,0,0,0,[]⟩:Tk).at_]::[(bh,Zr (.cells ⟨[.func (.func F) #[] ⟨cap⟩]⟩ 171 (0,0)))]::[(bt,Zr (.cells ⟨[.chan (some c)]⟩ 229 (0,0)))]::[(bb,Zr (.cells ⟨[.chan (some d)]⟩ 230 (0,0)))]::L0) ?_ rfl
 refine Zm (σ:=Nat × Nat × List Nat × List Tl2 × List Zp) (fun q=>[(0,iv many),(6,sl bo 0 many many),(7,sl be 0 many many),(8,pt bt 0),(9,pt bb 0),(10,pt u 0),(11,iv q.1),(12,iv q.2.1)])
  (fun q=>q.2.2.2.2::[(bo,.cells ⟨(q.2.2.2.1.map tc).flatten⟩ 90)]::[(be,.cells ⟨List.replicate many .nilIface⟩ 28)]::[(⟨g,c,d,u,many,i,0,q.1,q.2.1,q.2.2.1⟩:Tk).at_]::[(bh,Zr (.cells ⟨[.func (.func F) #[] ⟨cap⟩]⟩ 171 (0,0)))]::[(bt,Zr (.cells ⟨[.chan (some c)]⟩ 229 (0,0)))]::[(bb,Zr (.cells ⟨[.chan (some d)]⟩ 230 (0,0)))]::L0) (fun q=>AllI R many q.1 q.2.1 q.2.2.1 q.2.2.2.1 q.2.2.2.2) (fun q=>(many-q.1)+(many-q.2.1)) (0,0,[],List.replicate many Zu2,[]) uS (Z15 _)
  ⟨by simp,by simp,by simp,by simp,by simp,fun j hj=>by simp at hj⟩ ?_
 rintro⟨a,y,l,xs,B⟩ hI
 simp only at hI ⊢
 have hsum:=hI.sum
 have ham:=hI.am
 by_cases hb:y<many
 ·have back:∀j v bl,j∈l→Tasks.R g j v bl→∃x,v=Zde j (tc x)∧j<many∧AllI R many a (y+1) (l.erase j) (xs.set j x) (bl++B)∧Yi (xs.map tc).flatten (0+(j:Int).toNat*2) (tc x) ((xs.set j x).map tc).flatten∧Yi (List.replicate many Value.nilIface) (0+(j:Int).toNat) [.nilIface] (List.replicate many .nilIface):=fun j v bl hj hv=>by
   obtain⟨x,rfl,hx⟩:=(hR j v bl).1 hv
   obtain⟨h1,h2⟩:=hI.back hj hx
   refine⟨x,rfl,h1,h2,Ztx (enc:=tc) (sz:=2) (fun _=>rfl) (by rw[hI.lx];exact h1),?_⟩
   have:=Wz (l:=List.replicate many Value.nilIface) (i:=j) (v:=.nilIface) (by simpa using h1)
   rw[Zyo]at this
   simpa using this
  by_cases hae:a=many
  ·have hae':(a:Int)=many:=by omega
   repeat' (first|refine uN ?_|(refine uB ?_;intro b)|(refine uP ?_ ?_<;>intro h<;>try exact zx)|refine da 101 ?_|fail)
   refine fo 3 ?_
   refine Zgt (t:=⟨g,c,d,u,many,i,0,a,y,l⟩) rfl rfl hb hk1 rfl rfl zeroValue3 zeroValue244 ?_ ?_ (by show _=some (Value.chan (if a=many then none else some c));rw[Z2d hae];rfl)
   ·intro h;exact absurd hae (by simp only at h;omega)
   ·intro j v bl hj hRv
    obtain⟨x,rfl,hjm,hI2,hp1,hp2⟩:=back j v bl hj hRv
    repeat' (first|refine uN ?_|(refine uB ?_;intro b)|(refine uP ?_ ?_<;>intro h<;>try exact zx)|refine uG ?_|fail)
    exact Ze (a,y+1,l.erase j,xs.set j x,bl++B) uS (Zf6 uL) hI2 (by simp only;omega)
  ·have hae':¬ (a:Int)=many:=by omega
   repeat' (first|refine uN ?_|(refine uB ?_;intro b)|(refine uP ?_ ?_<;>intro h<;>try exact zx)|refine da 101 ?_|fail)
   refine fo 3 ?_
   refine Zgt (t:=⟨g,c,d,u,many,i,0,a,y,l⟩) rfl rfl hb hk1 rfl rfl zeroValue3 zeroValue244 ?_ ?_ (by show _=some (Value.chan (if a=many then none else some c));rw[Z16 hae];rfl)
   ·intro h
    repeat' (first|refine uN ?_|(refine uB ?_;intro b)|(refine uP ?_ ?_<;>intro h<;>try exact zx)|refine da 101 ?_|fail)
    exact Ze (a+1,y,a::l,xs,B) uS uL (hI.out (by omega)) (by simp only;omega)
   ·intro j v bl hj hRv
    obtain⟨x,rfl,hjm,hI2,hp1,hp2⟩:=back j v bl hj hRv
    repeat' (first|refine uN ?_|(refine uB ?_;intro b)|(refine uP ?_ ?_<;>intro h<;>try exact zx)|refine uG ?_|fail)
    exact Ze (a,y+1,l.erase j,xs.set j x,bl++B) uS (Zf6 uL) hI2 (by simp only;omega)
 obtain⟨rfl,hfin⟩:=hI.all (by omega)
 repeat' (first|refine uN ?_|(refine uB ?_;intro b)|(refine uP ?_ ?_<;>intro h<;>try exact zx)|refine da 101 ?_|fail)
 refine fo 3 ?_
 refine Zx4 rfl rfl rfl ?_
 repeat' (first|refine uN ?_|(refine uB ?_;intro b)|(refine uP ?_ ?_<;>intro h<;>try exact zx)|refine da 101 ?_|fail)
 refine gc (Zm6 _ u _ rfl rfl) ?_
 rintro v L' ⟨rfl,t',ht',rfl⟩
 repeat' (first|refine uN ?_|(refine uB ?_;intro b)|(refine uP ?_ ?_<;>intro h<;>try exact zx)|refine da 101 ?_|fail)
 exact U3 (L':=[t'.at_]::[(bo,_)]::[(be,_)]::B::L0) uL ⟨bo,be,t',xs,B,rfl,ht',hI.lx,hfin,rfl⟩
end
end Go.HL
namespace Go.HL
open Go Go.Proofs Go.Proofs.Tryz
variable[Tasks]
abbrev Z0(v:Value)(xs:List Fr)(c:List Zp):Prop:=Vec 131 9 fc v xs c
theorem Zi(f:Fr):(fc f).length=9:=rfl
theorem W8(f:Fr):(fc f).all Value.oneCell'=true:=rfl
theorem Zbc(s:St):(sc s).length=3:=rfl
theorem Zq9(s:St):(sc s).all Value.oneCell'=true:=rfl
theorem X0(x:Int):(ic x).length=1:=rfl
theorem Zh1(x:Int):(ic x).all Value.oneCell'=true:=rfl
structure Ld where
 id:Int
 deal:Int
 att:Int
 w:List Int
 state:List UInt8
 wait:Int
 heard:Nat
 told:List St
 phase:Int
 seen:Int
def sAsking:List UInt8:=[97,115,107,105,110,103]
def Zhj:List UInt8:=[112,114,101,112,97,114,105,110,103]
def Zy9:List UInt8:=[100,111,110,101]
def Zac:List UInt8:=[114,101,102,117,115,101,100]
def Zsz(wv:Value)(m:Ld):List Value:=[iv m.id,iv m.deal,iv m.att,wv,bs m.state,iv m.wait,iv m.heard]
def Wb(wv:Value)(m:Ld):List Value:=Zsz wv m++(m.told.map sc).flatten++[iv m.phase,iv m.seen]
def Zax(lp:Nat)(wv:Value)(wc:List Zp)(m:Ld):List Zp:=(lp,.cells ⟨Wb wv m⟩ 193)::wc
structure LdOk(wv:Value)(wc:List Zp)(m:Ld):Prop where
 vec:Vec 3 1 ic wv m.w wc
 told:m.told.length=7
 len:m.w.length≤7
theorem X1{wv:Value}{m:Ld}{k:Nat}{v:Value}(h:(Zsz wv m)[k]?=some v):(Wb wv m)[0+k]?=some v:=by
 have hlt:k<(Zsz wv m).length:=(Z2j.1 h).1
 rw[Z3o,Wb,Z18,Z3n hlt,h]
theorem ld_len{wv:Value}{m:Ld}(h:m.told.length=7):(Wb wv m).length=30:=by
 simp[Wb,Zsz,Yn Zbc,h]
theorem Zi3{wv:Value}{m:Ld}(h:m.told.length=7):(Zsz wv m++(m.told.map sc).flatten).length=28:=by
 simp[Zsz,Yn Zbc,h]
theorem ld_phase{wv:Value}{m:Ld}(h:m.told.length=7):(Wb wv m)[0+28]?=some (iv m.phase):=by
 rw[Wb,Z3f (by rw[Zi3 h];omega),Zi3 h];rfl
theorem Zqh{wv:Value}{m:Ld}(h:m.told.length=7):(Wb wv m)[0+29]?=some (iv m.seen):=by
 rw[Wb,Z3f (by rw[Zi3 h];omega),Zi3 h];rfl
theorem ld_told{wv:Value}{m:Ld}{i:Nat}{s:St}(h:m.told[i]?=some s):Gets (Wb wv m) (0+7+(i:Int).toNat*3) (sc s):=by
 have:=Uj (enc:=sc) (sz:=3) Zbc m.told [iv m.phase,iv m.seen] (Zsz wv m) i s h
 simpa[Wb,Zsz] using this
theorem Zaq{wv:Value}{m m':Ld}{k:Nat}{v:Value}(h:Zsz wv m'=(Zsz wv m).set k v)(hk:k<7)(e1:m'.told=m.told)(e2:m'.phase=m.phase)(e3:m'.seen=m.seen):Yi (Wb wv m) (0+k) [v] (Wb wv m'):=by
 have hlt:k<(Zsz wv m).length:=hk
 have e:Wb wv m'=(Wb wv m).set (0+k) v:=by
  rw[Z3o,Wb,Wb,h,e1,e2,e3,Z18,Z18,List.set_append_left _ _ hlt]
 rw[e]
 exact Wz (by rw[Wb,Z18,Z2i];omega)
theorem ld_put28{wv:Value}{m:Ld}(h:m.told.length=7)(p:Int):Yi (Wb wv m) (0+28) [iv p] (Wb wv { m with phase:=p }):=by
 have e:Wb wv { m with phase:=p }=(Wb wv m).set (0+28) (iv p):=by
  show Zsz wv m++(m.told.map sc).flatten++[iv p,iv m.seen]=(Zsz wv m++(m.told.map sc).flatten++[iv m.phase,iv m.seen]).set (0+28) (iv p)
  rw[Z34 _ _ (by rw[Zi3 h];omega),Zi3 h];rfl
 rw[e]
 exact Wz (by rw[ld_len h];omega)
theorem Zs0{wv:Value}{m:Ld}(h:m.told.length=7)(p:Int):Yi (Wb wv m) (0+29) [iv p] (Wb wv { m with seen:=p }):=by
 have e:Wb wv { m with seen:=p }=(Wb wv m).set (0+29) (iv p):=by
  show Zsz wv m++(m.told.map sc).flatten++[iv m.phase,iv p]=(Zsz wv m++(m.told.map sc).flatten++[iv m.phase,iv m.seen]).set (0+29) (iv p)
  rw[Z34 _ _ (by rw[Zi3 h];omega),Zi3 h];rfl
 rw[e]
 exact Wz (by rw[ld_len h];omega)
theorem Zyj{wv:Value}{m:Ld}{i:Nat}(s:St)(h:i<m.told.length):Yi (Wb wv m) (0+7+(i:Int).toNat*3) (sc s) (Wb wv { m with told:=m.told.set i s }):=by
 have:=Zcb (enc:=sc) (sz:=3) Zbc m.told [iv m.phase,iv m.seen] (Zsz wv m) i (0+7+(i:Int).toNat*3) s h (by simp[Zsz])
 exact this
def Zbo(m:Ld)(kind phase:Int)(i:Nat):List Fr:=if kind≠3∨(i:Int)≠m.id then [⟨m.id,i,m.deal,kind,m.att,false,⟨phase,0,0⟩⟩] else []
def Zdo(m:Ld)(kind phase:Int):List Fr:=(List.range m.w.length).flatMap (Zbo m kind phase)
def Xw(m:Ld):List Fr:=if m.att=0 then Zdo m 1 0 else Zdo m 3 0
def Qn(m:Ld)(phase:Int):Ld:={ m with state:=Zhj,wait:=6,heard:=0,phase:=phase }
def V5(m:Ld):Ld:={ m with state:=Zy9,wait:=0 }
def noM(m:Ld):Ld × List Fr:=if m.wait=2 then (V5 m,Zdo (V5 m) 7 3) else ({ m with state:=Zac,wait:=0 },[])
theorem Zgb(f:Nat→List Fr)(i:Nat):(List.range (i+1)).flatMap f=(List.range i).flatMap f++f i:=by
 rw[Z4i,List.flatMap_append];simp
theorem U1(f:Nat→List Fr)(hf:∀i,(f i).length≤1):∀i,((List.range i).flatMap f).length≤i
 | 0=>by simp
 | i+1=>by rw[Zgb,Z2i];have:=U1 f hf i;have:=hf i;omega
theorem Zgn(m:Ld)(kind phase:Int)(i:Nat):(Zbo m kind phase i).length≤1:=by unfold Zbo;split<;>simp
attribute [local irreducible] HW HO HQ HD HC QOp Has Upd Yi Gets Vv W6 Xn Zaf Wa Yz Zcl Xy
section
attribute [local irreducible] Wb
theorem Zeg(lp:Nat)(wv:Value)(wc:List Zp)(m:Ld)(kind phase:Int)(L:Za)(hm:LdOk wv wc m):HC prog 125 [pt lp 0,iv kind,iv phase] (Zax lp wv wc m::L)
  (fun v L'=>∃c,Z0 v (Zdo m kind phase) c∧L'=c::Zax lp wv wc m::L):=by
 obtain⟨a,cap,rfl,hcap,hR⟩:=hm.vec.rd X0
 have hlen:=hm.len
 generalize hwv:Value.slice a m.w.length cap=wv
 have g0:(Wb wv m)[0+0]?=some (iv m.id):=X1 rfl
 have g1:(Wb wv m)[0+1]?=some (iv m.deal):=X1 rfl
 have g2:(Wb wv m)[0+2]?=some (iv m.att):=X1 rfl
 have g3:(Wb wv m)[0+3]?=some (.slice a m.w.length cap):=by rw[hwv];exact X1 rfl
 refine uE func125 ntmps125 ?_
 repeat' (first|refine uN ?_|(refine uB ?_;intro b)|(refine uP ?_ ?_<;>intro h<;>try exact zx)|refine uM ?_|fail)
 refine Zkb ?_
 refine Zm (σ:=Nat × Value × List Zp) (fun q=>[(0,pt lp 0),(1,iv kind),(2,iv phase),(7,q.2.1),(13,iv m.w.length),(14,iv q.1)]) (fun q=>q.2.2::Zax lp wv wc m::L) (fun q=>q.1≤m.w.length∧Z0 q.2.1 ((List.range q.1).flatMap (Zbo m kind phase)) q.2.2) (fun q=>m.w.length-q.1) (0,Yt,[]) uS (Z15 _) ⟨by simp,Zt⟩ ?_
 rintro⟨i,v,c⟩ ⟨hi,hv⟩
 simp only at hi hv ⊢
 have hle:=U1 (Zbo m kind phase) (Zgn m kind phase) i
 have step:∀x,Zbo m kind phase i=x→(List.range (i+1)).flatMap (Zbo m kind phase)=(List.range i).flatMap (Zbo m kind phase)++x:=fun x hx=>by rw[Zgb,hx]
 by_cases hlt:i<m.w.length
 ·by_cases hid:kind=3∧(i:Int)=m.id
  ·have e:Zbo m kind phase i=[]:=Z16 (by omega)
   repeat' (first|refine uN ?_|(refine uB ?_;intro b)|(refine uP ?_ ?_<;>intro h<;>try exact zx)|refine uG ?_|fail)
   refine Zn (i+1,v,c) uS (Z15 _) ⟨by simp only;omega,?_⟩ (by simp only;omega)
   simp only
   rw[step _ e,Z2p]
   exact hv
  ·have e:Zbo m kind phase i=[⟨m.id,i,m.deal,kind,m.att,false,⟨phase,0,0⟩⟩]:=Z2d (by omega)
   repeat' (first|refine uN ?_|(refine uB ?_;intro b)|(refine uP ?_ ?_<;>intro h<;>try exact zx)|refine uG ?_|fail)
   all_goals refine fo 1 ?_
   all_goals refine Zfc S ⟨m.id,i,m.deal,kind,m.att,false,⟨phase,0,0⟩⟩ hv Zi W8 ?_
   all_goals intro v' c' hv'
   all_goals repeat' (first|refine uN ?_|(refine uB ?_;intro b)|(refine uP ?_ ?_<;>intro h<;>try exact zx)|refine uG ?_|fail)
   all_goals refine Zn (i+1,v',c') uS (.cons_cons _ (.cons _ (.refl _))) ⟨by simp only;omega,?_⟩ (by simp only;omega)
   all_goals simp only
   all_goals rw[step _ e]
   all_goals exact hv'
 ·repeat' (first|refine uN ?_|(refine uB ?_;intro b)|(refine uP ?_ ?_<;>intro h<;>try exact zx)|refine uG ?_|fail)
  have hi2:i=m.w.length:=by omega
  subst hi2
  exact Z3 (LS.refl _) ⟨c,hv,rfl⟩
theorem Zjm(lp:Nat)(wv:Value)(wc:List Zp)(m:Ld)(L:Za)(hm:LdOk wv wc m):HC prog 70 [pt lp 0] (Zax lp wv wc m::L)
  (fun v L'=>∃c,Z0 v (Xw m) c∧L'=c::Zax lp wv wc m::L):=by
 have g2:(Wb wv m)[0+2]?=some (iv m.att):=X1 rfl
 unfold Xw
 refine uE func70 ntmps70 ?_
 repeat' (first|refine uN ?_|(refine uP ?_ ?_<;>intro h<;>try exact zx)|fail)
 ·refine gc (Zeg lp wv wc m 1 0 L hm) ?_
  rintro v L' ⟨c,hv,rfl⟩
  repeat' (first|refine uN ?_|(refine uP ?_ ?_<;>intro h<;>try exact zx)|fail)
  exact Z3 (LS.refl _) ⟨c,by rw[Z2d h];exact hv,rfl⟩
 ·refine gc (Zeg lp wv wc m 3 0 L hm) ?_
  rintro v L' ⟨c,hv,rfl⟩
  repeat' (first|refine uN ?_|(refine uP ?_ ?_<;>intro h<;>try exact zx)|fail)
  exact Z3 (LS.refl _) ⟨c,by rw[Z16 h];exact hv,rfl⟩
theorem LdOk.of{wv:Value}{wc:List Zp}{m m':Ld}(h:LdOk wv wc m)(e1:m'.w=m.w)(e2:m'.told.length=m.told.length):LdOk wv wc m':=⟨e1▸h.vec,e2▸h.told,e1▸h.len⟩
theorem Zfl(lp:Nat)(wv:Value)(wc:List Zp)(m:Ld)(phase:Int)(L:Za)(hm:LdOk wv wc m):HC prog 129 [pt lp 0,iv phase] (Zax lp wv wc m::L)
  (fun v L'=>∃c,Z0 v (Zdo (Qn m phase) 5 phase) c∧L'=c::Zax lp wv wc (Qn m phase)::L):=by
 have p1:Yi (Wb wv m) (0+4) [bs Zhj] (Wb wv { m with state:=Zhj }):=Zaq rfl (by decide) rfl rfl rfl
 have p2:Yi (Wb wv { m with state:=Zhj }) (0+5) [iv 6] (Wb wv { m with state:=Zhj,wait:=6 }):=Zaq rfl (by decide) rfl rfl rfl
 have p3:Yi (Wb wv { m with state:=Zhj,wait:=6 }) (0+6) [iv 0] (Wb wv { m with state:=Zhj,wait:=6,heard:=0 }):=Zaq rfl (by decide) rfl rfl rfl
 have p4:Yi (Wb wv { m with state:=Zhj,wait:=6,heard:=0 }) (0+28) [iv phase] (Wb wv (Qn m phase)):=ld_put28 (m:={ m with state:=Zhj,wait:=6,heard:=0 }) hm.told phase
 have k:=Zeg lp wv wc (Qn m phase) 5 phase L (hm.of rfl rfl)
 refine uE func129 ntmps129 ?_
 repeat' (first|refine uN ?_|fail)
 refine gc k ?_
 rintro v L' ⟨c,hv,rfl⟩
 repeat' (first|refine uN ?_|fail)
 exact Z3 (LS.refl _) ⟨c,hv,rfl⟩
theorem Zcq(lp:Nat)(wv:Value)(wc:List Zp)(m:Ld)(phase:Int)(L:Za)(hm:LdOk wv wc m):HC prog 130 [pt lp 0,iv phase] (Zax lp wv wc m::L)
  (fun v L'=>∃c,Z0 v (Zdo (V5 m) 7 phase) c∧L'=c::Zax lp wv wc (V5 m)::L):=by
 have p1:Yi (Wb wv m) (0+4) [bs Zy9] (Wb wv { m with state:=Zy9 }):=Zaq rfl (by decide) rfl rfl rfl
 have p2:Yi (Wb wv { m with state:=Zy9 }) (0+5) [iv 0] (Wb wv (V5 m)):=Zaq rfl (by decide) rfl rfl rfl
 have k:=Zeg lp wv wc (V5 m) 7 phase L (hm.of rfl rfl)
 refine uE func130 ntmps130 ?_
 repeat' (first|refine uN ?_|fail)
 refine gc k ?_
 rintro v L' ⟨c,hv,rfl⟩
 repeat' (first|refine uN ?_|fail)
 exact Z3 (LS.refl _) ⟨c,hv,rfl⟩
theorem no_calls(lp:Nat)(wv:Value)(wc:List Zp)(m:Ld)(L:Za)(hm:LdOk wv wc m):HC prog 127 [pt lp 0] (Zax lp wv wc m::L)
  (fun v L'=>∃c,Z0 v (noM m).2 c∧L'=c::Zax lp wv wc (noM m).1::L):=by
 have g5:(Wb wv m)[0+5]?=some (iv m.wait):=X1 rfl
 have p1:Yi (Wb wv m) (0+4) [bs Zac] (Wb wv { m with state:=Zac }):=Zaq rfl (by decide) rfl rfl rfl
 have p2:Yi (Wb wv { m with state:=Zac }) (0+5) [iv 0] (Wb wv { m with state:=Zac,wait:=0 }):=Zaq rfl (by decide) rfl rfl rfl
 have k:=Zcq lp wv wc m 3 L hm
 unfold noM
 refine uE func127 ntmps127 ?_
 repeat' (first|refine uN ?_|(refine uP ?_ ?_<;>intro h<;>try exact zx)|fail)
 ·refine gc k ?_
  rintro v L' ⟨c,hv,rfl⟩
  repeat' (first|refine uN ?_|(refine uP ?_ ?_<;>intro h<;>try exact zx)|fail)
  exact Z3 (LS.refl _) ⟨c,by rw[Z2d h];exact hv,by rw[Z2d h]⟩
 ·refine Z3 (L':=[]::Zax lp wv wc { m with state:=Zac,wait:=0 }::L) (LS.refl _) ⟨[],by rw[Z16 h];exact Zt,by rw[Z16 h]⟩
theorem Zs6(lp:Nat)(wv:Value)(wc:List Zp)(m:Ld)(L:Za)(h:m.told.length=7):HC prog 191 [pt lp 0] (Zax lp wv wc m::L) (fun v L'=>v=iv m.seen∧L'=Zax lp wv wc m::L):=by
 have g4:=Zqh (wv:=wv) h
 refine uE func191 ntmps191 ?_
 repeat' (first|refine uN ?_|fail)
 exact Z3 (LS.refl _) ⟨rfl,rfl⟩
end
end Go.HL
namespace Go.HL
open Go Go.Proofs Go.Proofs.Tryz
variable[Tasks]
theorem Z1p(vs:List Value):∀(pre old post:List Value),old.length=vs.length→Zbd (pre++old++post) pre.length vs=pre++vs++post:=by
 intro pre
 induction pre with
 | nil=>intro old post h;simpa using Zhk vs old post h
 | cons x r ih=>intro old post h;simp only[Z19,Z2y,Zc9,ih old post h]
theorem Zme{l vs:List Value}{i:Nat}(h:i+vs.length≤l.length):Yi l i vs (l.take i++vs++l.drop (i+vs.length)):=by
 refine⟨?_,h⟩
 have hl:l=l.take i++(l.drop i).take vs.length++l.drop (i+vs.length):=by
  rw[Z18,← Z47,Z35,Z35]
 have e:(l.take i).length=i:=by simp;omega
 have:=Z1p vs (l.take i) ((l.drop i).take vs.length) (l.drop (i+vs.length)) (by simp;omega)
 rw[← hl,e]at this
 exact this.symm
theorem Zvr(pre new rest:List Value):Gets (pre++new++rest) pre.length new:=fun j v h=>by
 have hlt:j<new.length:=(Z2j.1 h).1
 rw[Z18,Z3f (by omega),Nat.add_sub_cancel_left,Z3n hlt]
 exact h
section q
variable{P:Program}(S:Tab P){n:Nat}{ops:List Oper}{Q:Exit→Z9→Za→Prop}{rest:List Oper}{ρ:Z9}{L:Za}{ty:TypeId}{pos:String}{af:Array Edge}
theorem qS3{d:Option Tmp}{g:Option (Nat × Bool)}{t E y0 s0 b0 k1 x1 y1 sz b1 len cap:Nat}{a:Option Addr}{x y z u:Operand}{k k2 k3:IntKind}{l hh m:Int}(h00:Ul ρ=true:=by exact rfl)(hx:ev ρ x=some (.slice a len cap):=by exact rfl)(hy:ev ρ y=some (.int k l):=by exact rfl)(hz:ev ρ z=some (.int k2 hh):=by exact rfl)(hu:ev ρ u=some (.int k3 m):=by exact rfl)
  (ht:Yj S.ty t=some ⟨5,E,y0,s0,b0⟩:=by exact rfl)(he:Yj S.ty E=some ⟨k1,x1,y1,sz,b1⟩:=by exact rfl)(h:0≤l∧l≤hh∧hh≤m∧m≤cap:=by first|assumption|omega):
  QOp P ⟨d,.slice t x (some y) (some z) (some u),ty,pos,af,g⟩ ρ L (.slice (cut a m.toNat l.toNat sz) (hh.toNat-l.toNat) (m.toNat-l.toNat)):=
 Ws fun ρe he' kc w hs=>by
  have hsl:=Z7 (S.tyI ht) rfl
  have hsize:(sizeOf E).run P w=.ok sz w:=X9 (S.tyI he) w
  have e1:=he' x (by simp[Op.operands]) _ hx
  have e2:=he' y (by simp[Op.operands]) _ hy
  have e3:=he' z (by simp[Op.operands]) _ hz
  have e4:=he' u (by simp[Op.operands]) _ hu
  have h1:(0:Int)≤hh:=by omega
  have h2:(0:Int)≤m:=by omega
  have h3:hh≤(m.toNat:Int):=by omega
  have h4:l≤(hh.toNat:Int):=by omega
  have hat:(Instr.sliceAt t (.slice a len cap) (some (.int k l)) (some (.int k2 hh)) (some (.int k3 m))).run P w=.ok (.slice (cut a m.toNat l.toNat sz) (hh.toNat-l.toNat) (m.toNat-l.toNat)) w:=by
   unfold Instr.sliceAt
   simp only[Z3q,Z2k hsl,Z3b]
   unfold Instr.slice
   have g1:(0:Int)≤m∧m≤(cap:Int):=⟨h2,h.2.2.2⟩
   have g2:(0:Int)≤hh∧hh≤(m.toNat:Int):=⟨h1,h3⟩
   have g3:(0:Int)≤l∧l≤(hh.toNat:Int):=⟨h.1,h4⟩
   simp only[Z3q,Z2k hsl,Z3b,Instr.sliceBounds,Instr.sliceBound,asIntOf,Z37,Z2d g1,Z2d g2,Z2d g3,hsize,cut,Option.isSome,Z4d]
  simp[execOp,e1,e2,e3,e4,hat]
theorem qCap{d:Option Tmp}{g:Option (Nat × Bool)}{t:Nat}{ti:TyI}{x:Operand}{a:Option Addr}{len cap:Nat}(h00:Ul ρ=true:=by exact rfl)(hx:ev ρ x=some (.slice a len cap):=by exact rfl)(ht:Yj S.ty t=some ti:=by exact rfl)(h5:ti.kind=5:=by exact rfl):
  QOp P ⟨d,.call { callee:=.builtin .cap,args:=#[x],argTypes:=#[t] },ty,pos,af,g⟩ ρ L (iv cap):=
 Ws fun ρe he k w hs=>by
  have h1:=Z7 (S.tyI ht) h5
  simp[execOp,resolve,invoke,builtin,he x (by simp[Op.operands,Call.operands]) _ hx,Builtin.cap_,Z2k h1,goInt]
theorem Zwj{t t2 ty:TypeId}{v u:Value}{B W:Nat→Prop}{N:Nat}(hv:∀a n c,v=.slice (some a) n c→W a.block∨N≤a.block):Plo P B W N (Builtin.append_ #[t,t2] ty #[v,u]):=by
 unfold Builtin.append_
 simp only[Z4g,Z38,Z4n]
 repeat' first|(with_reducible first|exact Zmb _|exact Zbt _ _ _|exact W9 (add_w hv) _ _|exact Ztp)|(with_reducible first|assumption|exact Vf _|exact Wy _|exact Xe _|exact Vz _|exact Yq|exact Zg _|exact Yd _|exact Yf _|exact Z4 _|exact X5 _|exact Ve _ _|exact Y0 _ _|exact Ye _ _|exact Xl _|exact Xc _ _|exact Xd _ _|exact Xb rfl|exact Yx _|exact Y8 _|exact Zs _|exact Xi _|exact Z2 _ _ _ _|exact Yp _|exact Xv _|exact Xa _|exact Y2 _|exact Wi _|exact Xk _|exact Wn _ _ _|exact Xr _|refine Plo.bind ?_ (fun _=>?_)|refine Plo.ite ?_ ?_)|split|dsimp only
theorem Zwf{d t E y0 s0 b0 k1 x1 y1 sz by1 m nn b cap:Nat}{u:Value}{l new:List Value}{x y:Operand}
  (hx:ev ρ x=some (sl b 0 nn cap))(hy:ev ρ y=some u)(ht:Yj S.ty t=some ⟨5,E,y0,s0,b0⟩)(he:Yj S.ty E=some ⟨k1,x1,y1,sz,by1⟩)
  (hn:Nat.blt d n=true)(hs:Src sz ([(b,.cells ⟨l⟩ E)]::L) u m new)(h1:(new.all Value.oneCell')=true)(hroom:nn+m≤cap)(hlen:l.length=cap*sz)
  (h:HO P n ops Q rest ((d,sl b 0 (nn+m) cap)::ρ) ([(b,.cells ⟨l.take (nn*sz)++new++l.drop (nn*sz+new.length)⟩ E)]::L)):
  HO P n ops Q (⟨some d,.call { callee:=.builtin .append,args:=#[x,y],argTypes:=#[t,t] },ty,pos,af,none⟩::rest) ρ ([(b,.cells ⟨l⟩ E)]::L):=by
 refine Ut rfl rfl hn (fun ρe he' k w hsat=>?_) (fun ρe he' N=>?_)
 case refine_2=>
  have e1:=he' x (by simp[Op.operands,Call.operands]) _ hx
  have e2:=he' y (by simp[Op.operands,Call.operands]) _ hy
  simp only[execOp,resolve,Z5g,Z2s,Z3z,e1,e2]
  refine(Plo.bind (Zov ?_) fun _=>trivial:Plo P _ _ _ (Builtin.append_ #[t,t] ty #[sl b 0 nn cap,u] >>= fun v=>pure (Next.value v)))
  rintro a n c' h
  cases h
  exact .inl ⟨_,Zk,rfl⟩
 have hdesc:=Z7 (S.tyI ht) rfl
 obtain⟨de,i,hde,hi,-,hisz,hiby⟩:=X8 (S.tyI he)
 simp only at hisz hiby
 have hsize:(sizeOf E).run P w=.ok sz w:=X9 (S.tyI he) w
 have hone:∀u∈new,u.oneCell'=true:=fun u hu=>Z2u.1 h1 u hu
 have e1:=he' x (by simp[Op.operands,Call.operands]) _ hx
 have e2:=he' y (by simp[Op.operands,Call.operands]) _ hy
 have hb':w.heap[b]?=some (.cells ⟨l⟩ E):=hsat.heap Zk
 suffices ∃w',(Builtin.append_ #[t,t] ty #[sl b 0 nn cap,u]).run P w=.ok (sl b 0 (nn+m) cap) w'∧Nx k w ([(b,.cells ⟨l⟩ E)]::L) w' ([(b,.cells ⟨l.take (nn*sz)++new++l.drop (nn*sz+new.length)⟩ E)]::L) by
  obtain⟨w',hr,hs'⟩:=this
  refine⟨_,w',_,?_,hs',h⟩
  simp[execOp,resolve,invoke,builtin,e1,e2,hr]
 rcases hs with⟨a,cap',rfl,rfl,rfl⟩|⟨b2,j,cap',l2,F,fr,hm,rfl,hb,hg,hlen2⟩
 ·refine⟨w,?_,by simpa using hsat.id⟩
  have:nn≤cap:=by omega
  cases a<;>simp[Builtin.append_,Z2k hdesc,hsize,Builtin.lenOf,Builtin.firstCells,loadCells,loadCellsFrom,this,storeCells]
 ·have hnews:∀(q:Nat) (v:Value),new[q]?=some v→w.cell? ((Addr.mk b2 j none).add q)=some v:=fun q v hq=>by
   rw[Vp,hsat.cell hb];exact hg q v hq
  have hsplit:nn*sz+new.length≤l.length:=by
   rw[hlen2,hlen,← Z32]
   exact Z5e _ hroom
  have hr:=run_append_room (P:=P) w t ty E i hdesc hi b nn cap ⟨l⟩ hb' ⟨b2,j,none⟩ m cap' new (by rw[hisz];exact hlen2) hnews hone hroom (by rw[hisz];simpa using hsplit)
  rw[hisz]at hr
  refine⟨_,hr,hsat.upd (o:=.cells ⟨l⟩ E) (o':=.cells ⟨l.take (nn*sz)++new++l.drop (nn*sz+new.length)⟩ E) Xx rfl rfl rfl (setRow_heap w b _ _ E _ hb') (fun q hq=>?_)⟩
  simp only[World.setRow,Z33]
  rw[Z16 (fun e=>hq e.symm)]
theorem Znw(zs:List Value)(m:Nat)(h:(zs.all Value.oneCell')=true):∀v∈(List.replicate m zs).flatten,v.oneCell'=true:=by
 intro v hv
 obtain⟨l,hl,hv⟩:=Z6x.1 hv
 rw[List.eq_of_mem_replicate hl]at hv
 exact Z2u.1 h v hv
theorem Qf(zs:List Value)(m:Nat):(Builtin.zeroCells ⟨zs⟩ m).toList=(List.replicate m zs).flatten:=by
 have:=Za4 zs m
 have e:Builtin.zeroCells ⟨zs⟩ m=madeCells ⟨zs⟩ (m*zs.length):=rfl
 rw[e,this]
theorem o_clear{t E y0 s0 b0 b i m cap:Nat}{z:Value}{zs l:List Value}{x:Operand}{L':Za}(hx:ev ρ x=some (sl b i m cap))(ht:Yj S.ty t=some ⟨5,E,y0,s0,b0⟩)(hz:Yj S.zr E=some z)(hzs:z.cells=⟨zs⟩)(h1:(zs.all Value.oneCell')=true)
  (hfit:i+m*zs.length≤l.length)(hu:Upd L b (.cells ⟨l⟩ E) (.cells ⟨l.take i++(List.replicate m zs).flatten++l.drop (i+m*zs.length)⟩ E) L')
  (h:HO P n ops Q rest ρ L'):
  HO P n ops Q (⟨none,.call { callee:=.builtin .clear,args:=#[x],argTypes:=#[t] },ty,pos,af,none⟩::rest) ρ L:=by
 refine ho_do rfl rfl (fun ρe he k w hs=>?_) fun ρe he N=>?_
 case refine_2=>
  have hdesc:=Z7 (S.tyI ht) rfl
  have e1:=he x (by simp[Op.operands,Call.operands]) _ hx
  simp only[execOp,resolve,Z5g,Z2s,Z3z,e1]
  refine(Plo.bind ?_ fun _=>trivial:Plo P _ _ _ (Builtin.clear_ #[t] ty #[sl b i m cap] >>= fun v=>pure (Next.value v)))
  unfold Builtin.clear_
  simp only[Z4g,Z38,Z4n]
  refine Zf hdesc ?_
  have hW:InW L b∨N≤b:=.inl ⟨_,hu.has,rfl⟩
  repeat' first|(with_reducible first|exact W9 hW _ _|cases ‹sl b i m cap=_›)|(with_reducible first|assumption|exact Vf _|exact Wy _|exact Xe _|exact Vz _|exact Yq|exact Zg _|exact Yd _|exact Yf _|exact Z4 _|exact X5 _|exact Ve _ _|exact Y0 _ _|exact Ye _ _|exact Xl _|exact Xc _ _|exact Xd _ _|exact Xb rfl|exact Yx _|exact Y8 _|exact Zs _|exact Xi _|exact Z2 _ _ _ _|exact Yp _|exact Xv _|exact Xa _|exact Y2 _|exact Wi _|exact Xk _|exact Wn _ _ _|exact Xr _|refine Plo.bind ?_ (fun _=>?_)|refine Plo.ite ?_ ?_)|split|dsimp only
 have hdesc:=Z7 (S.tyI ht) rfl
 have hzero:=Zbe (S.zeroI hz) w
 have e1:=he x (by simp[Op.operands,Call.operands]) _ hx
 have hfl:((List.replicate m zs).flatten).length=m*zs.length:=by simp[Z7l,Z5p,Z61]
 have hp:Yi l i (List.replicate m zs).flatten (l.take i++(List.replicate m zs).flatten++l.drop (i+m*zs.length)):=by
  have:=Zme (l:=l) (i:=i) (vs:=(List.replicate m zs).flatten) (by rw[hfl];exact hfit)
  rw[hfl]at this
  exact this
 obtain⟨hp1,hp2⟩:=hp
 obtain⟨w',e3,e4,e5,et,e6,e7⟩:=Zc7 (P:=P) (k:=k) ((List.replicate m zs).flatten) i 0 l w (hs.heap hu.has) rfl (by simpa using hp2) (Znw zs m h1)
 by_cases hm:m=0
 ·subst hm
  refine⟨w,L',.inr ⟨.tuple #[],?_⟩,?_,h⟩
  ·simp[execOp,resolve,invoke,builtin,e1,Builtin.clear_,Z2k hdesc]
  ·refine hs.upd hu rfl rfl rfl ?_ (fun _ _=>rfl)
   simpa using hs.heap hu.has
 ·refine⟨w',L',.inr ⟨.tuple #[],?_⟩,hs.upd hu e4 e5 et (by rw[e6,hp1,Z4t]) e7,h⟩
  ·obtain⟨m',rfl⟩:∃m',m=m'+1:=⟨m-1,by omega⟩
   have hr:(Builtin.clear_ #[t] ty #[sl b i (m'+1) cap]).run P w=.ok (.tuple #[]) w':=by
    simp only[Builtin.clear_]
    simp only[Z4g,Z38,Z3q,Z2k hdesc,Z3b]
    simp only[hzero,Z3b,hzs,Qf,e3,Z37,Z3q]
   simp[execOp,resolve,invoke,builtin,e1,hr]
theorem Zkg{d t t2 E y0 s0 b0 k1 x1 y1 sz by1 b i len cap ns cap2 k0:Nat}{a:Option Addr}{l new:List Value}{x y:Operand}{L':Za}(hx:ev ρ x=some (sl b i len cap))(hy:ev ρ y=some (.slice a ns cap2))(ht:Yj S.ty t=some ⟨5,E,y0,s0,b0⟩)(he:Yj S.ty E=some ⟨k1,x1,y1,sz,by1⟩)(hn:Nat.blt d n=true)
  (hk:k0=Nat.min ns len)(hlen:new.length=k0*sz)(h1:(new.all Value.oneCell')=true)(hs:k0=0∨∃b2 j l2 F fr,a=some ⟨b2,j,none⟩∧Has L b2 (.cells ⟨l2⟩ F fr)∧Gets l2 j new)
  (hfit:i+new.length≤l.length)(hu:Upd L b (.cells ⟨l⟩ E) (.cells ⟨l.take i++new++l.drop (i+new.length)⟩ E) L')
  (h:HO P n ops Q rest ((d,iv k0)::ρ) L'):
  HO P n ops Q (⟨some d,.call { callee:=.builtin .copy,args:=#[x,y],argTypes:=#[t,t2] },ty,pos,af,none⟩::rest) ρ L:=
 Ut rfl rfl hn (fun ρe he' kc w hsat=>by
  have hdesc:=Z7 (S.tyI ht) rfl
  have hsize:(sizeOf E).run P w=.ok sz w:=X9 (S.tyI he) w
  have e1:=he' x (by simp[Op.operands,Call.operands]) _ hx
  have e2:=he' y (by simp[Op.operands,Call.operands]) _ hy
  obtain⟨hp1,hp2⟩:=Zme (l:=l) (i:=i) (vs:=new) hfit
  obtain⟨w',e3,e4,e5,et,e6,e7⟩:=Zc7 (P:=P) (k:=kc) new i 0 l w (hsat.heap hu.has) rfl (by simpa using hp2) (fun v hv=>Z2u.1 h1 v hv)
  have hcells:(Builtin.firstCells sz k0 (.slice a ns cap2)).run P w=.ok ⟨new⟩ w:=by
   rcases hs with h0|⟨b2,j,l2,F,fr,rfl,hb,hg⟩
   ·subst h0
    have:new=[]:=Z3v (by simpa using hlen)
    subst this
    cases a<;>simp[Builtin.firstCells,loadCells,loadCellsFrom]
   ·have hnews:∀(q:Nat) (v:Value),new[q]?=some v→w.cell? ((Addr.mk b2 j none).add q)=some v:=fun q v hq=>by
     rw[Vp,hsat.cell hb];exact hg q v hq
    have:=run_firstCells_some (P:=P) w sz k0 ⟨b2,j,none⟩ ns cap2 new hlen hnews
    simpa using this
  refine⟨_,w',L',?_,hsat.upd hu e4 e5 et (by rw[e6,hp1,Z4t]) e7,h⟩
  have hr:(Builtin.copy_ #[t,t2] ty #[sl b i len cap,.slice a ns cap2]).run P w=.ok (iv k0) w':=by
   simp only[Builtin.copy_]
   simp only[Z4g,Z38,Z4n,Z3q,Z2k hdesc,Z3b]
   simp only[Builtin.lenOf,Z37,Z3b,hsize,← hk,hcells,e3,goInt]
  simp[execOp,resolve,invoke,builtin,e1,e2,hr]) fun ρe he' N=>by
  have a1:=he' x (by simp[Op.operands,Call.operands]) _ hx
  have a2:=he' y (by simp[Op.operands,Call.operands]) _ hy
  simp only[execOp,resolve,Z5g,Z2s,Z3z,a1,a2]
  refine(Plo.bind (Zyy ?_) fun _=>trivial:Plo P _ _ _ (Builtin.copy_ #[t,t2] ty #[sl b i len cap,.slice a ns cap2] >>= fun v=>pure (Next.value v)))
  rintro a n c h
  cases h
  exact .inl (⟨_,hu.has,rfl⟩:InW L b)
theorem o_build0{d t E y0 s0 b0 k1 x1 y1 sz by1:Nat}(ht:Yj S.ty t=some ⟨5,E,y0,s0,b0⟩)(he:Yj S.ty E=some ⟨k1,x1,y1,sz,by1⟩)(hn:Nat.blt d n=true)
  (h:∀b,HO P n ops Q rest ((d,sl b 0 0 0)::ρ) ([(b,.cells ⟨[]⟩ E)]::L)):HO P n ops Q (⟨some d,.buildSlice t 0 #[],ty,pos,af,none⟩::rest) ρ L:=by
 refine Ut rfl rfl hn fun ρe he' k w hs=>⟨sl w.heap.size 0 0 0,w.alloc (.cells ⟨[]⟩ E),_,?_,hs.new _,h _⟩
 have hdesc:=Z7 (S.tyI ht) rfl
 have hsize:(sizeOf E).run P w=.ok sz w:=X9 (S.tyI he) w
 have hbs:(Instr.buildSlice t 0 #[]).run P w=.ok (sl w.heap.size 0 0 0) (w.alloc (.cells ⟨[]⟩ E)):=by
  simp only[Instr.buildSlice]
  have e0:Array.range 0=#[]:=rfl
  simp[Z2k hdesc,hsize,Instr.fill,newRow,e0]
 simp[execOp,hbs]
theorem Zwg{d t t2 E y0 s0 b0 k1 x1 y1 sz by1 nn m b cap:Nat}{ti2:TyI}{z:Value}{zs l:List Value}{x y:Operand}
  (hx:ev ρ x=some (sl b 0 nn cap))(hy:ev ρ y=some (iv m))(ht:Yj S.ty t=some ⟨5,E,y0,s0,b0⟩)(he:Yj S.ty E=some ⟨k1,x1,y1,sz,by1⟩)(ht2:Yj S.ty t2=some ti2)(hi2:ti2.kind=2)(hu2:ti2.x=3)(hz:Yj S.zr E=some z)(hzs:z.cells=⟨zs⟩)(hzl:zs.length=sz)
  (hn:Nat.blt d n=true)(hb:Has L b (.cells ⟨l⟩ E))(hnn:nn*sz≤l.length)(hgrow:cap<nn+m)(hby:(nn+m)*by1≤140737488355328)(hmax:nn+m≤9223372036854775807)
  (h:∀b' cap',nn+m≤cap'→HO P n ops Q rest ((d,sl b' 0 (nn+m) cap')::ρ) ([(b',.cells ⟨l.take (nn*sz)++(List.replicate (cap'-nn) zs).flatten⟩ E)]::L)):
  HO P n ops Q (⟨some d,.call { callee:=.builtin .append,args:=#[x,y],argTypes:=#[t,t2] },ty,pos,af,none⟩::rest) ρ L:=by
 refine Ut rfl rfl hn (fun ρe he' k w hsat=>?_) (fun ρe he' N=>?_)
 case refine_2=>
  have e1:=he' x (by simp[Op.operands,Call.operands]) _ hx
  have e2:=he' y (by simp[Op.operands,Call.operands]) _ hy
  simp only[execOp,resolve,Z5g,Z2s,Z3z,e1,e2]
  refine(Plo.bind (Zwj ?_) fun _=>trivial:Plo P _ _ _ (Builtin.append_ #[t,t2] ty #[sl b 0 nn cap,iv m] >>= fun v=>pure (Next.value v)))
  rintro a n c' h
  cases h
  exact .inl (⟨_,hb,rfl⟩:InW L b)
 have hdesc:=Z7 (S.tyI ht) rfl
 have hint:P.underlying t2=some (.int .i64):=by
  obtain⟨a1,a2,a3,a4,a5⟩:=ti2
  subst hi2;subst hu2
  exact Zdc (S.tyI ht2) rfl
 obtain⟨de,i,hde,hi,-,hisz,hiby⟩:=X8 (S.tyI he)
 simp only at hisz hiby
 have hiz:i.zero=some z:=by
  have:=S.zeroI hz
  unfold zeroI at this
  simpa[hi] using this
 have e1:=he' x (by simp[Op.operands,Call.operands]) _ hx
 have e2:=he' y (by simp[Op.operands,Call.operands]) _ hy
 have hcap:=Zdv w (nn+m) cap E
 have holds:∀(q:Nat) (v:Value),(l.take (nn*sz))[q]?=some v→w.cell? ((Addr.mk b 0 none).add q)=some v:=fun q v hq=>by
  rw[Vp,hsat.cell hb,Z3o]
  rw[List.getElem?_take]at hq
  split at hq
  ·exact hq
  ·cases hq
 have hfo:=run_firstCells_some (P:=P) w.drew sz nn ⟨b,0,none⟩ nn cap (l.take (nn*sz)) (by simp;omega) (by simpa using holds)
 have hm1:IntKind.i64.wrap (m:Int)=m:=Ze1 (by omega)
 have hm2:¬ ((m:Int)<0):=by omega
 have hfit:¬ (281474976710656<Builtin.nextslicecap (nn+m) cap*i.bytes):=by
  rw[hiby]
  have:=growslice_fits (need:=nn+m) (old:=cap) (by omega) hby
  omega
 have hmby:¬ (281474976710656<(m:Int)*(i.bytes:Int)):=by
  rw[hiby]
  have:m*by1≤(nn+m)*by1:=Z5e _ (by omega)
  have h3:((m*by1:Nat):Int)=(m:Int)*(by1:Int):=by push_cast;rfl
  omega
 have hn2:¬ (nn+m≤cap):=by omega
 have h63:¬ (9223372036854775807<((nn:Int)+(m:Int))):=by omega
 have hnew:(Builtin.zeroCells ⟨zs⟩ m).toList++(Builtin.zeroCells ⟨zs⟩ (grownCap w (nn+m) cap E-(nn+m))).toList=(List.replicate (grownCap w (nn+m) cap E-nn) zs).flatten:=by
  rw[Qf,Qf,← Z2l,List.replicate_append_replicate]
  congr 2
  omega
 refine⟨sl w.heap.size 0 (nn+m) (grownCap w (nn+m) cap E),w.drew.alloc (.cells ⟨l.take (nn*sz)++(List.replicate (grownCap w (nn+m) cap E-nn) zs).flatten⟩ E),_,?_,(hsat.drew.new (.cells ⟨l.take (nn*sz)++(List.replicate (grownCap w (nn+m) cap E-nn) zs).flatten⟩ E)).base (.refl _),h _ _ hcap⟩
 have hm0:m*sz=0→(Builtin.zeroCells ⟨zs⟩ m)=#[]:=fun h0=>by
  apply Z53
  rw[Qf]
  apply Z3v
  simp[Z7l,Z5p,Z61,hzl,h0]
 have hr:(Builtin.append_ #[t,t2] ty #[sl b 0 nn cap,iv m]).run P w=.ok (sl w.heap.size 0 (nn+m) (grownCap w (nn+m) cap E)) (w.drew.alloc (.cells ⟨l.take (nn*sz)++(List.replicate (grownCap w (nn+m) cap E-nn) zs).flatten⟩ E)):=by
  rw[← hnew]
  by_cases h0:m*i.size=0
  ·have hz0:=hm0 (by rw[← hisz];exact h0)
   simp[Builtin.append_,Z2k hdesc,Z2k hint,sizeOf,typeInfo,zeroValue,hi,hiz,hn2,h63,hfit,hmby,hm1,hm2,Question.forced,hisz,hfo,newRow,grownCap,asInt,asIntOf,iv,hzs,hisz▸h0,hz0]
   congr 2
   apply Z53
   simp[Z18]
  ·simp[Builtin.append_,Z2k hdesc,Z2k hint,sizeOf,typeInfo,zeroValue,hi,hiz,hn2,h63,hfit,hmby,hm1,hm2,Question.forced,hisz,hfo,newRow,grownCap,asInt,asIntOf,iv,hzs,hisz▸h0]
   congr 2
   apply Z53
   simp[Z18]
 simp[execOp,resolve,invoke,builtin,e1,e2,hr]
end q
def Zj3{α:Type}(P:Program):Nat→Sem α→Option α
 | _,.pure a=>some a
 | n+1,.program k=>Zj3 P n (k P)
 | n+1,.mark (.extern _) k=>Zj3 P n k
 | _,_=>none
theorem Zdz{α:Type}{P:Program}:∀{n:Nat} {s:Sem α} {a:α},Zj3 P n s=some a→(∀w,s.run P w=.ok a w)∧∀B W N,Plo P B W N s:=by
 intro n
 induction n with
 | zero=>
  intro s a h
  cases s<;>simp[Zj3]at h
  subst h
  exact⟨fun w=>rfl,fun B W N=>trivial⟩
 | succ n ih=>
  intro s a h
  cases s with
  | pure b=>
   simp[Zj3]at h
   subst h
   exact⟨fun w=>rfl,fun B W N=>trivial⟩
  | program k=>
   simp only[Zj3]at h
   obtain⟨h1,h2⟩:=ih h
   exact⟨fun w=>h1 w,fun B W N=>.inl (h2 B W N)⟩
  | mark m k=>
   cases m with
   | extern f=>
    simp only[Zj3]at h
    obtain⟨h1,h2⟩:=ih h
    exact⟨fun w=>h1 w,fun B W N=>.inl ⟨.inr ⟨f,rfl⟩,h2 B W N⟩⟩
   | _=>simp[Zj3]at h
  | _=>simp[Zj3]at h
theorem nrm_bind{α β:Type}{P:Program}{B W:Nat→Prop}{N:Nat}:∀{n:Nat} {s:Sem α} {a:α} {f:α→Sem β},Zj3 P n s=some a→Plo P B W N (f a)→Plo P B W N (s.bind f):=by
 intro n
 induction n with
 | zero=>
  intro s a f h hf
  cases s<;>simp[Zj3]at h
  subst h
  exact hf
 | succ n ih=>
  intro s a f h hf
  cases s with
  | pure b=>
   simp[Zj3]at h
   subst h
   exact hf
  | program k=>exact .inl (ih (by simpa only[Zj3] using h) hf)
  | mark m k=>
   cases m with
   | extern g=>exact .inl ⟨.inr ⟨g,rfl⟩,ih (by simpa only[Zj3] using h) hf⟩
   | _=>simp[Zj3]at h
  | _=>simp[Zj3]at h
theorem Z0v{α β:Type}{P:Program}{B W:Nat→Prop}{N n:Nat}{s:Sem α}{a:α}{f:α→Sem β}(h:Zj3 P n s=some a)(hf:Plo P B W N (f a)):Plo P B W N (s >>= f):=nrm_bind h hf
def Za0{α:Type}(P:Program)(o:Obj)(u:Nat→α):Nat→Sem α→Prop
 | n+1,.program k=>Za0 P o u n (k P)
 | n+1,.mark (.extern _) k=>Za0 P o u n k
 | n+1,.new o' k=>o'=o∧∀r,Zj3 P n (k r)=some (u r)
 | _,_=>False
def Zxx{α:Type}(o:Obj)(u:Nat→α):Prop:=o=o∧∀r,some (u r)=some (u r)
theorem newIs_ok{α:Type}{P:Program}{o:Obj}{u:Nat→α}{n:Nat}{s:Sem α}(h:Za0 P o u n s=Zxx o u):Za0 P o u n s:=h.mpr ⟨rfl,fun _=>rfl⟩
theorem new_spec{α:Type}{P:Program}{o:Obj}{u:Nat→α}(ho:noView o=true):∀{n:Nat} {s:Sem α},Za0 P o u n s→(∀w,s.run P w=.ok (u w.heap.size) (w.alloc o))∧∀B W N,Plo P B W N s:=by
 intro n
 induction n with
 | zero=>intro s h;cases s<;>simp[Za0]at h
 | succ n ih=>
  intro s h
  cases s with
  | program k=>
   obtain⟨h1,h2⟩:=ih (show Za0 P o u n (k P) from h)
   exact⟨fun w=>h1 w,fun B W N=>.inl (h2 B W N)⟩
  | mark m k=>
   cases m with
   | extern f=>
    obtain⟨h1,h2⟩:=ih (show Za0 P o u n k from h)
    exact⟨fun w=>h1 w,fun B W N=>.inl ⟨.inr ⟨f,rfl⟩,h2 B W N⟩⟩
   | _=>simp[Za0]at h
  | new o' k=>
   obtain⟨rfl,h⟩:=h
   exact⟨fun w=>(Zdz (h _)).1 _,fun B W N=>.inl ⟨ho,fun r _=>(Zdz (h r)).2 B W N⟩⟩
  | _=>simp[Za0]at h
section
variable{P:Program}{n:Nat}{ρ:Z9}{L:Za}{d:Option Tmp}{ty:TypeId}{pos:String}{af:Array Edge}{g:Option (Nat × Bool)}
theorem pl_ext{F:Nat}{vs:Array Value}{fn:Func}{E:Array Value→Sem Value}{B W:Nat→Prop}{N:Nat}(hf:P.funcs[F]?=some fn)(hname:(fn.name == "runtime.NumGoroutine")=false)(hb:fn.body.isNone=true)(hn:Extern.findNext fn=none)(he:Extern.find fn=some E)(hp:Plo P B W N (E vs)):Plo P B W N (callFunc F vs):=by
 have key:(match P.funcs[F]? with
   | none=>stuck "call: no such function"
   | some fn=>
    if fn.name == "runtime.NumGoroutine" then pure .numGoroutine
    else if fn.body.isNone then do
     mark (.extern F)
     if let some e:=Extern.findNext fn then return ← e vs
     match Extern.find fn with
     | some e=>pure (.value (← e vs))
     | none=>
      if fn.name.endsWith ".init" && !fn.name.startsWith "(" && !fn.name.startsWith "gosem." then pure (.value (.tuple #[]))
      else unsupported (.extern fn.name)
    else pure (.enter F vs):Sem Next)=(mark (.extern F) >>= fun _=>E vs >>= fun v=>pure (.value v)):=by
  rw[hf]
  simp only[hname,hb,hn,he,Z2r,Z3h,Z4d]
 have h2:Plo P B W N (mark (.extern F) >>= fun _=>E vs >>= fun v=>(pure (Next.value v):Sem Next)):=.inl ⟨.inr ⟨F,rfl⟩,(Plo.bind hp fun _=>trivial:Plo P B W N (E vs >>= fun v=>(pure (Next.value v):Sem Next)))⟩
 rw[← key]at h2
 exact .inl h2
theorem Zoz{x:Operand}{name:String}{as9:Array Operand}{ats:Array TypeId}{r:Value}{vs:List Value}(u:Value)(hN:Zj3 P 2000 (callMethod r name ⟨vs⟩)=some (.value u))(hx:ev ρ x=some r:=by exact rfl)(hv:evs ρ as9.toList=some vs:=by exact rfl):
  QOp P ⟨d,.call { callee:=.invoke x name,args:=as9,argTypes:=ats },ty,pos,af,g⟩ ρ L u:=by
 have key:∀(ρe:Operand→Value),(∀y∈(Op.call { callee:=.invoke x name,args:=as9,argTypes:=ats }).operands,∀v,ev ρ y=some v→ρe y=v)→execOp ρe ⟨d,.call { callee:=.invoke x name,args:=as9,argTypes:=ats },ty,pos,af,g⟩=callMethod r name ⟨vs⟩:=fun ρe he=>by
  have h1:=he x (by simp[Op.operands,Call.operands]) r hx
  have h2:as9.map ρe=⟨vs⟩:=by
   have:=Zgw (l:=as9.toList) (ρe:=ρe) (fun y hy v hv=>he y (by simp[Op.operands,Call.operands];exact .inr (Z25.1 hy)) v hv) hv
   apply Z4r.1
   simpa using this
  simp only[execOp,resolve,h1,h2]
  simp[invoke]
 obtain⟨h1,h2⟩:=Zdz hN
 exact Vi (fun ρe he N=>by rw[key ρe he];exact h2 _ _ _) fun ρe he k w hs=>by rw[key ρe he];exact h1 w
theorem q_ext{F:Nat}{as9:Array Operand}{ats:Array TypeId}{vs:List Value}(u:Value)(hN:Zj3 P 2000 (callFunc F ⟨vs⟩)=some (.value u))(hv:evs ρ as9.toList=some vs:=by exact rfl):
  QOp P ⟨d,.call { callee:=.value (.func F),args:=as9,argTypes:=ats },ty,pos,af,g⟩ ρ L u:=by
 have key:∀(ρe:Operand→Value),(∀y∈(Op.call { callee:=.value (.func F),args:=as9,argTypes:=ats }).operands,∀v,ev ρ y=some v→ρe y=v)→execOp ρe ⟨d,.call { callee:=.value (.func F),args:=as9,argTypes:=ats },ty,pos,af,g⟩=callFunc F ⟨vs⟩:=fun ρe he=>by
  have h1:ρe (.func F)=.func (.func F) #[] #[]:=he (.func F) (by simp[Op.operands,Call.operands]) _ rfl
  have h2:as9.map ρe=⟨vs⟩:=by
   have:=Zgw (l:=as9.toList) (ρe:=ρe) (fun y hy v hv=>he y (by simp[Op.operands,Call.operands];exact .inr (Z25.1 hy)) v hv) hv
   apply Z4r.1
   simpa using this
  simp only[execOp,resolve,h1,h2]
  simp[invoke,Deferred.ofValue]
 obtain⟨h1,h2⟩:=Zdz hN
 exact Vi (fun ρe he N=>by rw[key ρe he];exact h2 _ _ _) fun ρe he k w hs=>by rw[key ρe he];exact h1 w
theorem Zie{x:Operand}{xT T:TypeId}{r u:Value}(h:∀w,(Instr.typeAssert r xT T true).run P w=.ok u w)(hx:ev ρ x=some r:=by exact rfl):QOp P ⟨d,.typeAssert x xT T true,ty,pos,af,g⟩ ρ L u:=
 Ws fun ρe he k w hs=>by simp[execOp,he x (by simp[Op.operands]) r hx,h w]
theorem Zem{F:Nat}{as9:Array Operand}{ats:Array TypeId}{vs:List Value}(hv:evs ρ as9.toList=some vs)(ρe:Operand→Value)(he:∀y∈(Op.call { callee:=.value (.func F),args:=as9,argTypes:=ats }).operands,∀v,ev ρ y=some v→ρe y=v):
  execOp ρe ⟨d,.call { callee:=.value (.func F),args:=as9,argTypes:=ats },ty,pos,af,g⟩=callFunc F ⟨vs⟩:=by
 have h1:ρe (.func F)=.func (.func F) #[] #[]:=he (.func F) (by simp[Op.operands,Call.operands]) _ rfl
 have h2:as9.map ρe=⟨vs⟩:=by
  have:=Zgw (l:=as9.toList) (ρe:=ρe) (fun y hy v hv=>he y (by simp[Op.operands,Call.operands];exact .inr (Z25.1 hy)) v hv) hv
  apply Z4r.1
  simpa using this
 simp only[execOp,resolve,h1,h2]
 simp[invoke,Deferred.ofValue]
theorem ho_new{m:Nat}{ops rest:List Oper}{Q:Exit→Z9→Za→Prop}{dd F:Nat}{as9:Array Operand}{ats:Array TypeId}{vs:List Value}(o:Obj)(u:Nat→Value)(hN:Za0 P o (fun b=>Next.value (u b)) 2000 (callFunc F ⟨vs⟩))(h:∀b,HO P m ops Q rest ((dd,u b)::ρ) ([(b,o)]::L))(hp:Zet o=true:=by rfl)(hw:noView o=true:=by rfl)
  (hv:evs ρ as9.toList=some vs:=by exact rfl)(hn:Nat.blt dd m=true:=by exact rfl):HO P m ops Q (⟨some dd,.call { callee:=.value (.func F),args:=as9,argTypes:=ats },ty,pos,af,none⟩::rest) ρ L:=by
 obtain⟨h1,h2⟩:=new_spec hw hN
 exact Ut rfl rfl hn (fun ρe he k w hs=>⟨_,_,_,by rw[Zem hv ρe he];exact h1 w,hs.new o hp hw,h _⟩) fun ρe he N=>by rw[Zem hv ρe he];exact h2 _ _ _
theorem q_rd{F:Nat}{as9:Array Operand}{ats:Array TypeId}{vs:List Value}{u:Value}{fn:Func}{E:Array Value→Sem Value}(hf:P.funcs[F]?=some fn)(hname:(fn.name == "runtime.NumGoroutine")=false)(hb:fn.body.isNone=true)(hn:Extern.findNext fn=none)(he:Extern.find fn=some E)
  (hr:∀k w,Sat k w L→(E ⟨vs⟩).run P w=.ok u w)(hp:∀N,Plo P (InB L) (InW L) N (E ⟨vs⟩))(hv:evs ρ as9.toList=some vs:=by exact rfl):QOp P ⟨d,.call { callee:=.value (.func F),args:=as9,argTypes:=ats },ty,pos,af,g⟩ ρ L u:=
 Vi (fun ρe hh N=>by rw[Zem hv ρe hh];exact pl_ext hf hname hb hn he (hp N)) fun ρe hh k w hs=>by rw[Zem hv ρe hh,Z6k hf hname hb hn he,hr k w hs];rfl
end
section
variable{P:Program}{B W:Nat→Prop}{N:Nat}
theorem Zb9{a:Addr}(h:B a.block):Plo P B W N (Go.frozen a):=.inl ⟨.inl h,fun _=>trivial⟩
theorem Zg9{r:Nat}(h:B r):Plo P B W N (Go.shape r):=.inl ⟨.inl h,fun _=>trivial⟩
theorem Zes{r:Nat}(h:B r):Plo P B W N (viewAt r):=by
 unfold viewAt
 repeat' first|(with_reducible first|exact Zg9 h)|(with_reducible first|assumption|exact Vf _|exact Wy _|exact Xe _|exact Vz _|exact Yq|exact Zg _|exact Yd _|exact Yf _|exact Z4 _|exact X5 _|exact Ve _ _|exact Y0 _ _|exact Ye _ _|exact Xl _|exact Xc _ _|exact Xd _ _|exact Xb rfl|exact Yx _|exact Y8 _|exact Zs _|exact Xi _|exact Z2 _ _ _ _|exact Yp _|exact Xv _|exact Xa _|exact Y2 _|exact Wi _|exact Xk _|exact Wn _ _ _|exact Xr _|refine Plo.bind ?_ (fun _=>?_)|refine Plo.ite ?_ ?_)|split|dsimp only
theorem Zhb{a:Addr}(h:B a.block):Plo P B W N (stringish a):=by
 unfold stringish
 repeat' first|(with_reducible first|exact Zg9 h|exact Zb9 h)|(with_reducible first|assumption|exact Vf _|exact Wy _|exact Xe _|exact Vz _|exact Yq|exact Zg _|exact Yd _|exact Yf _|exact Z4 _|exact X5 _|exact Ve _ _|exact Y0 _ _|exact Ye _ _|exact Xl _|exact Xc _ _|exact Xd _ _|exact Xb rfl|exact Yx _|exact Y8 _|exact Zs _|exact Xi _|exact Z2 _ _ _ _|exact Yp _|exact Xv _|exact Xa _|exact Y2 _|exact Wi _|exact Xk _|exact Wn _ _ _|exact Xr _|refine Plo.bind ?_ (fun _=>?_)|refine Plo.ite ?_ ?_)|split|dsimp only
theorem Zjc{a b:Addr}(ha:B a.block)(hb:B b.block):Plo P B W N (mayBeOne a b):=by
 unfold mayBeOne
 repeat' first|(with_reducible first|exact Zg9 ha|exact Zg9 hb|exact Zhb ha|exact Zhb hb)|(with_reducible first|assumption|exact Vf _|exact Wy _|exact Xe _|exact Vz _|exact Yq|exact Zg _|exact Yd _|exact Yf _|exact Z4 _|exact X5 _|exact Ve _ _|exact Y0 _ _|exact Ye _ _|exact Xl _|exact Xc _ _|exact Xd _ _|exact Xb rfl|exact Yx _|exact Y8 _|exact Zs _|exact Xi _|exact Z2 _ _ _ _|exact Yp _|exact Xv _|exact Xa _|exact Y2 _|exact Wi _|exact Xk _|exact Wn _ _ _|exact Xr _|refine Plo.bind ?_ (fun _=>?_)|refine Plo.ite ?_ ?_)|split|dsimp only
theorem Zto{a b:Addr}(ha:B a.block)(hb:B b.block):Plo P B W N (sameAddr a b):=by
 unfold sameAddr Go.noView
 repeat' first|(with_reducible first|exact Zb9 ha|exact Zb9 hb|exact Zes ha|exact Zes hb|exact Zjc ha hb)|(with_reducible first|assumption|exact Vf _|exact Wy _|exact Xe _|exact Vz _|exact Yq|exact Zg _|exact Yd _|exact Yf _|exact Z4 _|exact X5 _|exact Ve _ _|exact Y0 _ _|exact Ye _ _|exact Xl _|exact Xc _ _|exact Xd _ _|exact Xb rfl|exact Yx _|exact Y8 _|exact Zs _|exact Xi _|exact Z2 _ _ _ _|exact Yp _|exact Xv _|exact Xa _|exact Y2 _|exact Wi _|exact Xk _|exact Wn _ _ _|exact Xr _|refine Plo.bind ?_ (fun _=>?_)|refine Plo.ite ?_ ?_)|split|dsimp only
end
def Bk(L:Za)(b:Nat):Prop:=∃c E,Has L b (.cells c E (0,0))∨Has L b (Zr (.cells c E (0,0)))
theorem Bk.cons{L:Za}{b:Nat}(h:Bk L b)(c:List Zp):Bk (c::L) b:=let ⟨x,E,h⟩:=h;⟨x,E,h.imp Zb Zb⟩
theorem Bk.inB{L:Za}{b:Nat}(h:Bk L b):InB L b:=by
 obtain⟨c,E,h|h⟩:=h
 ·exact⟨_,h,rfl⟩
 ·exact⟨_,h,rfl⟩
theorem Bk.heap{L:Za}{b:Nat}{k:Zaz}{w:World}(h:Bk L b)(hs:Sat k w L):∃c E,w.heap[b]?=some (.cells c E (0,0)):=by
 obtain⟨c,E,h|h⟩:=h
 ·have:=hs.has _ h rfl
  exact⟨c,E,by rw[this];simp[act,Nat.blt]⟩
 ·have:=hs.has _ h rfl
  rw[Zgl]at this
  exact⟨c,E,this⟩
section
variable{P:Program}{ρ:Z9}{L:Za}{d:Option Tmp}{ty:TypeId}{pos:String}{af:Array Edge}{g:Option (Nat × Bool)}
theorem q_eqlE{t t' tp te:TypeId}{ms:Array (String × TypeId)}{i j:TypeInfo}{x y:Operand}{a b:Addr}(hi:P.underlying t=some (.interface ms))(hp:P.underlying tp=some (.pointer te))(hinfo:P.info? tp=some i)(hcomp:i.comparable=true)(hte:P.info? te=some j)(hsz:j.size≠0)
  (h:a=b∨(a≠b∧Bk L a.block∧Bk L b.block))(hx:ev ρ x=some (.iface tp (.pointer (some a))))(hy:ev ρ y=some (.iface tp (.pointer (some b)))):
  QOp P ⟨d,.binOp .eql t x y t',ty,pos,af,g⟩ ρ L (.bool (decide (a=b))):=
 Vi (fun ρe he N=>by
  refine Zbs ?_ ?_
  ·rw[he x (by simp[Op.operands]) _ hx,he y (by simp[Op.operands]) _ hy];exact trivial
  ·rw[he x (by simp[Op.operands]) _ hx,he y (by simp[Op.operands]) _ hy]
   refine Plo.bind (Yk fun dd=>?_) fun _=>trivial
   unfold Op.equalIn
   refine Zf hi ?_
   simp only[ne_eq,Z36,Z3h]
   refine Zd2 hinfo ?_
   simp only[hcomp,Bool.not_true,Z2r,Z3h]
   have key:Plo P (InB L) (InW L) N (sameAddr a b):=by
    rcases h with rfl|⟨hne,ha,hb⟩
    ·unfold sameAddr
     simp only[beq_self_eq_true,Z4d]
     exact trivial
    ·exact Zto ha.inB hb.inB
   cases dd with
   | zero=>exact Xe _
   | succ dd=>
    unfold Op.equalIn
    refine Zf hp ?_
    simp only
    repeat' first|(with_reducible first|exact key)|(with_reducible first|assumption|exact Vf _|exact Wy _|exact Xe _|exact Vz _|exact Yq|exact Zg _|exact Yd _|exact Yf _|exact Z4 _|exact X5 _|exact Ve _ _|exact Y0 _ _|exact Ye _ _|exact Xl _|exact Xc _ _|exact Xd _ _|exact Xb rfl|exact Yx _|exact Y8 _|exact Zs _|exact Xi _|exact Z2 _ _ _ _|exact Yp _|exact Xv _|exact Xa _|exact Y2 _|exact Wi _|exact Xk _|exact Wn _ _ _|exact Xr _|refine Plo.bind ?_ (fun _=>?_)|refine Plo.ite ?_ ?_)|split|dsimp only) fun ρe he k w hs=>by
  simp only[execOp,he x (by simp[Op.operands]) _ hx,he y (by simp[Op.operands]) _ hy]
  rcases h with rfl|⟨hne,ha,hb⟩
  ·simp[eqGuard,run_eql_iface_ptr_same (P:=P) w a hi hp hinfo hcomp hte]
  ·obtain⟨ca,ta,ha⟩:=ha.heap hs
   obtain⟨cb,tb,hb⟩:=hb.heap hs
   simp[eqGuard,run_eql_iface_ptr_other (P:=P) w hi hp hinfo hcomp hte hsz hne ha hb,hne]
end
end Go.HL
