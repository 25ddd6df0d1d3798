/- Texts laid into one, without what the claim does not use. Conditions: none. -/
import Derived.Test.YtkookaogdkdegacGreatDoorSPJ
set_option linter.unusedVariables false
set_option linter.unusedSimpArgs false
set_option linter.unusedSectionVars false
set_option maxHeartbeats 4000000
set_option maxRecDepth 100000
namespace Go.HL
open Go Go.Proofs Go.Conc Go.Proofs.Tryz
variable[Tasks]
section
variable{P:Program}{Φ:Goroutine→Za→Prop}{k:Zaz}{γ:Gm}{rs:List Rank}{H:List Gh}{L0:Za}{tm:Tk}{ws:List Gh}{gs:Array Goroutine}{w:World}{t:Trace}{sl:Option (Nat × Nat)}{j:Nat}
theorem Iv.main0(iv:Iv P Φ k γ rs H L0 tm ws gs w t):H[0]?=some (.main L0 tm):=by rw[iv.hd];rfl
theorem Iv.isMain(iv:Iv P Φ k γ rs H L0 tm ws gs w t){L:Za}{tk:Tk}(hj:H[j]?=some (.main L tk)):j=0∧L=L0∧tk=tm:=by
 rw[iv.hd]at hj
 cases j with
 | zero=>simp at hj;exact⟨rfl,hj.1.symm,hj.2.symm⟩
 | succ i=>simp at hj;exact absurd rfl (iv.nl _ (Z3a hj) L tk)
theorem Iv.isWork(iv:Iv P Φ k γ rs H L0 tm ws gs w t){h:Gh}(hj:H[j]?=some h)(hn:∀L tk,h≠.main L tk):∃i,j=i+1∧ws[i]?=some h∧(∀h',H.set j h'=.main L0 tm::ws.set i h')∧h.tk∈ws.map Gh.tk∧(ws.map Gh.tk)[i]?=some h.tk:=by
 rw[iv.hd]at hj
 cases j with
 | zero=>simp at hj;exact absurd hj.symm (hn L0 tm)
 | succ i=>
  simp at hj
  exact⟨i,rfl,hj,fun h'=>by rw[iv.hd];rfl,Z2v.2 ⟨h,Z3a hj,rfl⟩,by simp[hj]⟩
theorem Iv.actor(iv:Iv P Φ k γ rs H L0 tm ws gs w t){main:Bool}{L:Za}{tk:Tk}(hj:H[j]?=some (gh main L tk)):(j == 0)=main∧(main=true→tk=tm)∧(tk.st≠12→tk.st≠25→tm.st≠12∧Ziq tk γ)∧(main=false→tk∈ws.map Gh.tk)∧(main=false→tm.st≠12∨tk.st=25):=by
 cases main with
 | true=>
  obtain⟨rfl,rfl,rfl⟩:=iv.isMain (show H[j]?=some (.main L tk) from hj)
  exact⟨rfl,fun _=>rfl,fun h _=>⟨h,iv.toks.cmpM h⟩,fun h=>(by cases h),fun h=>(by cases h)⟩
 | false=>
  obtain⟨i,rfl,h1,h2,h3,_⟩:=iv.isWork (h:=.live L tk) hj (fun L t e=>by cases e)
  refine⟨rfl,fun h=>(by cases h),fun _ h=>⟨iv.toks.up h3 h,iv.toks.cmpW h3 h⟩,fun _=>h3,fun _=>?_⟩
  by_cases h:tk.st=25
  ·exact .inr h
  ·exact .inl (iv.toks.up h3 h)
theorem Iv.hoStay(iv:Iv P Φ k γ rs H L0 tm ws gs w t){γ':Gm}{tm':Tk}{h h':Gh}{u:Trace}(hl:h'.late=false)(hw:γ'.wg=γ.wg)(h12:tm.st≠12→tm'.st≠12)(hu:∀op∈u,op.g=j):
  ∀(i:Nat) x,(H.set j h')[i]?=some x→x.late=true→HOk (t++u) i∨(tm'.st≠12∧Rl γ' (t++u) i):=by
 intro i x hi hx
 rcases Zj hi with⟨_,rfl⟩|⟨hij,hi'⟩
 ·rw[hl]at hx;cases hx
 ·exact V7 (iv.ho i x hi' hx) hw h12 (Um hij hu)
theorem Iv.ownStep(iv:Iv P Φ k γ rs H L0 tm ws gs w t){main:Bool}{L L':Za}{tk:Tk}{r r':Rank}{g g':Goroutine}{w':World}{es:Array Event}(hj:H[j]?=some (gh main L tk))(hr:rs[j]?=some r)(hg:gs[j]?=some g)
  (hstep:stepG P main g w=.go g' w' es)(hrun:g'.status=.running)(htr:Tr w w' L L' es)(hsat:Sat k w' L')(hk:Rk P Φ r' main g' L'):
  ∃L0' ws',runT P (crowd gs w sl) j=(.next (crowd ((gs.map (woken P g g' w')).setIfInBounds j g') w' sl),MemOp.ofEvents j g.frame.fn g.frame.place es)∧
   Iv P Φ k γ (rs.set j r') (H.set j (gh main L' tk)) L0' tm ws' ((gs.map (woken P g g' w')).setIfInBounds j g') w' (t++MemOp.ofEvents j g.frame.fn g.frame.place es):=by
 obtain⟨hm,hmt,_,_,_⟩:=iv.actor hj
 have hL:(gh main L tk).L=L:=Zp5
 have hshB:∀b,tm.st≠12→Sh γ b→¬ InB L b:=fun b a c hb=>iv.shB a j _ b hj c (by rw[hL];exact hb)
 have hsame:∀b,tm.st≠12→Sh γ b→w'.heap[b]?=w.heap[b]?:=fun b a c=>htr.keep b ((iv.sh a).lt c) fun hw=>hshB b a c hw.b
 obtain⟨L0',ws',hH,htoks⟩:∃L0' ws',H.set j (gh main L' tk)=.main L0' tm::ws'∧ws'.map Gh.tk=ws.map Gh.tk:=by
  cases main with
  | true=>
   obtain⟨rfl,rfl,rfl⟩:=iv.isMain (show H[j]?=some (.main L tk) from hj)
   exact⟨L',ws,by rw[iv.hd];rfl,rfl⟩
  | false=>
   obtain⟨i,rfl,h1,h2,h3,h4⟩:=iv.isWork (h:=.live L tk) hj (fun L t e=>by cases e)
   refine⟨L0,ws.set i (.live L' tk),h2 _,?_⟩
   apply Z3i
   intro n
   rw[Z4h,Z2z]
   split
   ·rename_i e;subst e
    split
    ·rw[h4];rfl
    ·rename_i hx;simp at hx;rw[Z4s (by simpa using hx)]
   ·rfl
 refine⟨L0',ws',iv.goStep (γ':=γ) (r':=r') (h':=gh main L' tk) hj hr hg (by rw[hm];exact hstep) hH (fun L t hj0 e=>?_) htr.size (fun b hb hw _=>htr.keep b hb (by rw[hL]at hw;exact hw)) ⟨hsat.os,hsat.out,hsat.tape,by simp,by simp,by simp,by simp⟩ (by rw[Zp5];exact hsat) ?_ (by rw[Zp5,Zp5];exact htr.gr.zero) ⟨rfl,rfl,rfl⟩ (fun h=>h) (fun a=>(iv.sh a).keep fun b c=>hsame b a c) (by rw[htoks];exact iv.toks) (by rw[Ziz,Ziz];exact fun h=>h) ?_ ?_ ?_ (.inl (by rw[hrun];simp)) (.inr (.inl hrun)) .refl (by have:=iv.ok j _ hj;cases main<;>exact this) ?_⟩
 ·cases main with
  | true=>simp at hm;exact absurd hm hj0
  | false=>cases e
 ·rw[Zp5,Ziz]
  intro p hp hgp
  have:=iv.tok j _ hj p (by rw[hL];exact htr.gr.tok p hp hgp) hgp
  rwa [Ziz]at this
 ·intro op hop
  obtain⟨e,he,rfl⟩:=Y6 hop
  rw[hL]
  exact okT_ev (htr.evs e he).1 (htr.evs e he).2
 ·rw[Zjs fun e he=>(htr.evs e he).1.noDeaf]
  cases main<;>rfl
 ·refine iv.hoStay (h:=gh main L tk) gh_late rfl (fun h=>h) fun op hop=>?_
  obtain⟨e,_,rfl⟩:=Y6 hop
  rfl
 ·cases main with
  | true=>exact .inl ⟨hrun,hk⟩
  | false=>exact .inl ⟨hrun,hk⟩
end
theorem Mv.same{t t':Tk}{γ γ':Gm}{es:Array Event}(h:Mv t γ t' γ' es):(t'.todo=t.todo∧t'.back=t.back∧t'.wg=t.wg∧t'.tag=t.tag∧t'.many=t.many)∧(γ'.todo=γ.todo∧γ'.back=γ.back∧γ'.wg=γ.wg):=by
 cases h<;>exact⟨⟨rfl,rfl,rfl,rfl,rfl⟩,rfl,rfl,rfl⟩
theorem Mv.deaf{t t':Tk}{γ γ':Gm}{es:Array Event}(h:Mv t γ t' γ' es)(hl:t.st≤12):deafBehind (Zvm t.st) es=Zvm t'.st∧t'.st≤12:=by
  cases h<;>(try (exfalso;omega))<;>(first
    | (constructor
       · simp_all [deafBehind,Wt,Zel,Zob,Zvm]
       · first|exact hl|(simp only[];omega))
    | (rename_i a;rcases a with a|a<;>exact⟨by simp_all [deafBehind,Wt,Zel,Zob,Zvm],by simp⟩))
theorem Mv.deafT{t t':Tk}{γ γ':Gm}{es:Array Event}(h:Mv t γ t' γ' es)(hl:23≤t.st)(h25:t.st≠25):deafBehind (if t.st=23 then 0 else 1) es=(if t'.st=23 then 0 else 1)∧23≤t'.st:=by
 cases h<;>(try (exfalso;omega))<;>refine⟨?_,?_⟩<;>first|exact hl|(simp only[];omega)|(simp_all [deafBehind,Wt,Zel,Zob];done)|simp[deafBehind]
theorem Only.sat{γ:Gm}{k:Zaz}{w w':World}{L:Za}(h:Only γ w w')(hs:Sat k w L)(hb:∀b,Sh γ b→¬ InB L b):Sat k w' L:=
 hs.keep ⟨h.os.trans hs.os,h.out.trans hs.out,h.tape.trans hs.tape,by simp,by simp,by simp,by simp⟩ (by rw[h.size];exact Z21 _) fun b hx=>h.keep b (fun e=>hb b (.inl e) hx) fun e=>hb b (.inr (.inr e)) hx
theorem join_ho{γ:Gm}{t:Trace}{i:Nat}{y:MemOp}(h:Rl γ t i)(hy:y.act=.mark (.acquire (stA γ.wg)))(hg:y.g=0)(hd:Deaf t 0=0)(hi:i≠0)(hr:∀i a,t.act? i≠some (.mark (.release a))):HOk (t++#[y]) i:=by
 obtain⟨r,hr1⟩:=h
 have hrl:r<t.size:=lt_of_act? hr1.act
 have hq:(t++#[y])[t.size]?=some y:=by rw[Z55 (Z21 _)];simp
 have hh:(t++#[y]).heard t.size:=⟨0,by simp[Trace.g?,hq,hg],by rw[deaf_old (Z21 _)];exact hd⟩
 have e1:(t++#[y]).act? r=some (.mark (.releaseMerge (stA γ.wg))):=by rw[act?_old hrl];exact hr1.act
 have edge:HappensBefore (t++#[y]) r t.size:=.single (.inr ⟨.marked hrl (.inr e1) (by rw[act?_of hq,hy]) (fun k _ hk=>by rw[act?_old hk];exact hr k _),(heard_old hrl).2 hr1.heard,hh⟩)
 intro n hn hc
 have hnl:n<t.size:=by
  apply Z4e
  intro hge
  obtain⟨op,h1,h2,h3⟩:=Zf7 (by omega) hn
  simp at h1
  subst h1
  exact hi (h3.symm.trans hg)
 rw[g?_old hnl]at hn
 rw[counts_old hnl]at hc
 refine⟨t.size,by simp[Trace.g?,hq,hg],?_⟩
 rcases Nat.lt_trichotomy n r with hlt|rfl|hgt
 ·exact .trans (.single (.inl ⟨hlt,i,by rw[g?_old hnl];exact hn,by rw[g?_old hrl];exact hr1.g⟩)) edge
 ·exact edge
 ·exact absurd hc (hr1.after n hgt hn)
section
variable{P:Program}{Φ:Goroutine→Za→Prop}{k:Zaz}{γ:Gm}{rs:List Rank}{H:List Gh}{L0:Za}{tm:Tk}{ws:List Gh}{gs:Array Goroutine}{w:World}{t:Trace}{sl:Option (Nat × Nat)}{j:Nat}
theorem Iv.put(iv:Iv P Φ k γ rs H L0 tm ws gs w t){h h':Gh}(hj:H[j]?=some h)(hn:∀L tk,h≠.main L tk):∃i,j=i+1∧H.set j h'=.main L0 tm::ws.set i h'∧(ws.map Gh.tk)[i]?=some h.tk∧(ws.set i h').map Gh.tk=(ws.map Gh.tk).set i h'.tk:=by
 obtain⟨i,rfl,h1,h2,h3,h4⟩:=iv.isWork hj hn
 exact⟨i,rfl,h2 _,h4,by rw[Z4h]⟩
theorem Iv.sharedStep(iv:Iv P Φ k γ rs H L0 tm ws gs w t){main:Bool}{L L':Za}{tk tk':Tk}{γ':Gm}{r r':Rank}{g g':Goroutine}{w':World}{es:Array Event}(hj:H[j]?=some (gh main L tk))(hr:rs[j]?=some r)(hg:gs[j]?=some g)
  (hstep:stepG P main g w=.go g' w' es)(hrun:g'.status=.running)(hmv:Mv tk γ tk' γ' es)(hwak:Wak P g γ γ')(hshr:Shr γ' w')(ho:Only γ w w')(hu:Upd L tk.todo tk.obj tk'.obj L')(h12:tk.st≠12)(hk:Rk P Φ r' main g' L'):
  ∃L0' tm' ws',runT P (crowd gs w sl) j=(.next (crowd ((gs.map (woken P g g' w')).setIfInBounds j g') w' sl),MemOp.ofEvents j g.frame.fn g.frame.place es)∧
   Iv P Φ k γ' (rs.set j r') (H.set j (gh main L' tk')) L0' tm' ws' ((gs.map (woken P g g' w')).setIfInBounds j g') w' (t++MemOp.ofEvents j g.frame.fn g.frame.place es):=by
 obtain⟨hm,hmt,hcm,hin,_⟩:=iv.actor hj
 have hok0:=iv.ok j _ hj
 have h25:tk.st≠25:=by cases main<;>simp only[gh,cond_true,Z7c,Gh.ok]at hok0<;>omega
 obtain⟨ht12,hcmp⟩:=hcm h12 h25
 obtain⟨hsame,hγ⟩:=hmv.same
 have hL:(gh main L tk).L=L:=Zp5
 have hshB:∀b,Sh γ b→¬ InB L b:=fun b c hb=>iv.shB ht12 j _ b hj c (by rw[hL];exact hb)
 have hsat:Sat k w L:=by have:=iv.sat j _ hj;rwa [hL]at this
 have hsat':Sat k w' L':=hu.sat rfl rfl rfl (ho.sat hsat hshB)
 have htok:=hu.gtok (tk:=tk) hsame.1 (fun p hp hgp=>by have:=iv.tok j _ hj p (by rw[hL];exact hp) hgp;rwa [Ziz]at this) hsat.nodup
 have ug:∀op∈MemOp.ofEvents j g.frame.fn g.frame.place es,op.g=j:=fun op hop=>by obtain⟨e,_,rfl⟩:=Y6 hop;rfl
 have hg0:Gr0 w.heap.size L L':=⟨fun b hb=>.inl ((hu.gW rfl rfl b).1 hb),fun b hb=>.inl ((hu.gB rfl rfl b).1 hb)⟩
 have hpth:PtH H j:=⟨_,hj,by rw[Ziz];exact h25⟩
 have hev:∀op∈MemOp.ofEvents j g.frame.fn g.frame.place es,OkT (gh main L tk).L w.heap.size w'.heap.size (fun b=>(tm.st≠12∧Sh γ b)∧PtH H j) j op:=
  okT_mv hmv ⟨⟨ht12,.inr (.inr rfl)⟩,hpth⟩ ⟨⟨ht12,.inl rfl⟩,hpth⟩ (by rw[ho.size];exact(iv.sh ht12).lt (.inr (.inr rfl))) (by rw[ho.size];exact(iv.sh ht12).lt (.inl rfl)) fun hle=>by
   cases main with
   | true=>simpa using hm
   | false=>have:20≤tk.st:=hok0.1;omega
 cases main with
 | true=>
  obtain⟨rfl,rfl,rfl⟩:=iv.isMain (show H[j]?=some (.main L tk) from hj)
  have hd:=hmv.deaf hok0
  refine⟨L',tk',ws,iv.goStep (γ':=γ') (r':=r') (h':=.main L' tk') hj hr hg hstep (by rw[iv.hd];rfl) (fun L t hj0 e=>absurd rfl hj0) (by rw[ho.size];exact Z21 _)
   (fun b hb hw hs=>ho.keep b (fun e=>hs ⟨ht12,.inl e⟩) fun e=>hs ⟨ht12,.inr (.inr e)⟩) ⟨hsat'.os,hsat'.out,hsat'.tape,by simp,by simp,by simp,by simp⟩ hsat' htok.2 hg0 hγ (fun a=>absurd a h12) (fun _=>hshr) (iv.toks.mainMv h12 hmv) (fun _=>h25) hev hd.1 ?_ (.inl (by rw[hrun];simp)) (.inr (.inl hrun)) hwak hd.2 (.inl ⟨hrun,hk⟩)⟩
  intro i x hi hx
  rcases Zj hi with⟨_,rfl⟩|⟨hij,hi'⟩
  ·cases hx
  ·have h0:=iv.ho i x hi' hx
   by_cases hj12:tk'.st=12
   ·left
    rcases h0 with h0|⟨_,h0⟩
    ·exact h0.app (Um hij ug)
    ·cases hmv<;>(first|(exfalso;simp at hj12;done)|(exact absurd hj12 h12)|skip)
     rename_i h11
     have hdf:Deaf t 0=0:=by rw[iv.deaf 0 _ iv.main0];simp[Gh.df,Zvm,h11]
     have:=join_ho (y:={ g:=0,fn:=g.frame.fn,pos:=g.frame.place,act:=.mark (.acquire (stA γ.wg)) }) h0 rfl rfl hdf hij iv.ti.rel
     simpa[Z43,MemAct.ofEvent,Wt] using this
   ·exact V7 h0 hγ.2.2 (fun _=>hj12) (Um hij ug)
 | false=>
  have h20:20≤tk.st∧tk.st≤22:=hok0
  have hidle:tk'=tk∧γ'=γ∧es=#[]:=by
   cases hmv<;>(try (exfalso;omega))
   exact⟨rfl,rfl,rfl⟩
  obtain⟨rfl,rfl,rfl⟩:=hidle
  obtain⟨i,rfl,hH,hi4,hmap⟩:=iv.put (h':=.live L' tk') (show H[j]?=some (.live L tk') from hj) (fun L t e=>by cases e)
  refine⟨L0,tm,_,iv.goStep (γ':=γ') (r':=r') (h':=.live L' tk') hj hr hg hstep hH (fun L t _ e=>by cases e) (by rw[ho.size];exact Z21 _)
   (fun b hb hw hs=>ho.keep b (fun e=>hs ⟨ht12,.inl e⟩) fun e=>hs ⟨ht12,.inr (.inr e)⟩) ⟨hsat'.os,hsat'.out,hsat'.tape,by simp,by simp,by simp,by simp⟩ hsat' htok.2 hg0 hγ (fun a=>a) (fun _=>hshr) (by rw[hmap];exact iv.toks.late hi4 h25 (.inl .idle)) (fun _=>h25) hev rfl ?_ (.inl (by rw[hrun];simp)) (.inr (.inl hrun)) hwak h20 (.inl ⟨hrun,hk⟩)⟩
  exact iv.hoStay (h:=.live L tk') rfl rfl (fun a=>a) ug
theorem Iv.blockStep(iv:Iv P Φ k γ rs H L0 tm ws gs w t){L:Za}{tk:Tk}{r:Rank}{g:Goroutine}(hj:H[j]?=some (.main L tk))(hr:rs[j]?=some r)(hg:gs[j]?=some g)(hrun:g.status=.running)
  (hstep:stepG P true g w=.go { g with status:=.blocked } w #[])(h9:tk.st=9)(hs:γ.sem=0)(hof:g.offers=none)(hk:Rk P Φ r true g L):
  runT P (crowd gs w sl) j=(.next (crowd (gs.setIfInBounds j { g with status:=.blocked }) w sl),#[])∧Iv P Φ k γ rs H L0 tm ws (gs.setIfInBounds j { g with status:=.blocked }) w t:=by
 obtain⟨rfl,rfl,rfl⟩:=iv.isMain hj
 have hHs:H.set 0 (.main L tk)=H:=by rw[iv.hd];rfl
 have hrs:rs.set 0 r=rs:=by
  cases rs with
  | nil=>simp at hr
  | cons a b=>simp at hr;subst hr;rfl
 have hsat:=iv.sat 0 _ hj
 have key:=iv.goStep (sl:=sl) (γ':=γ) (r':=r) (h':=.main L tk) (es:=#[]) hj hr hg hstep (by rw[hHs];exact iv.hd) (fun L t hj0 e=>absurd rfl hj0) (Z21 _) (fun _ _ _ _=>rfl) iv.sat0 hsat (iv.tok 0 _ hj) ⟨fun _ h=>.inl h,fun _ h=>.inl h⟩ ⟨rfl,rfl,rfl⟩ (fun a=>a) iv.sh iv.toks (fun h=>h)
  (fun op hop=>by obtain⟨e,he,_⟩:=Y6 hop;simp at he) rfl (by rw[hHs];exact fun i x hi hx=>by simpa[Z43] using iv.ho i x hi hx) (.inr ⟨rfl,h9⟩) (.inl rfl) .refl (iv.ok 0 _ hj) (.inr (.inr ⟨h9,hs,g,rfl,hrun,hof,hk⟩))
 rw[hHs,hrs]at key
 have e:MemOp.ofEvents 0 g.frame.fn g.frame.place #[]=#[]:=by simp[Z43]
 have hid:gs.map (woken P g { g with status:=.blocked } w)=gs:=by
  have:woken P g { g with status:=.blocked } w=id:=by funext o;simp[woken]
  rw[this,Array.map_id]
 rw[e,Array.append_empty,hid]at key
 exact key
end
theorem Zx3{t:Trace}{j:Nat}{u:List MemOp}{m:Nat}(hm:m≤u.length):(t++u.toArray).deaf j (t.size+m)=(u.take m).foldl (deafStep j) (Deaf t j):=by
 have h1:=Deaf_append t j (u.take m)
 have hs:(t++(u.take m).toArray).size=t.size+m:=by simp;omega
 have e:t++u.toArray=(t++(u.take m).toArray)++(u.drop m).toArray:=by
  apply Z53;simp
 rw[e,deaf_old (by rw[hs];exact Z21 _),← h1]
 unfold Deaf
 rw[hs]
theorem Zuq{t:Trace}{tk tk':Tk}{γ γ':Gm}{es:Array Event}{j:Nat}{fn:FuncId}{pos:String}(hmv:Mv tk γ tk' γ' es)(hl:23≤tk.st)(h25:tk.st≠25)(hd:Deaf t j=if tk.st=23 then 0 else 1):
  ∀n,t.size≤n→(t++MemOp.ofEvents j fn pos es).g? n=some j→¬ (t++MemOp.ofEvents j fn pos es).counts n:=by
 intro n hn hg
 obtain⟨op,h1,h2,h3⟩:=Zf7 hn hg
 rintro⟨x,hx,hmem,hk⟩
 have hact:(t++MemOp.ofEvents j fn pos es).act? n=some op.act:=act?_of h2
 rw[hact]at hx
 have hx:op.act.touch?=some x:=hx
 obtain⟨e,he,rfl⟩:=Y6 h1
 have hat:x.kind=.atomic∧tk.st≠23:=by
  cases hmv<;>(try (exfalso;omega))<;>simp only[Z50,Z2h,Z4m,Z6j]at he
  all_goals (first|(rcases he with rfl|rfl|rfl|rfl)|(rcases he with rfl|rfl)|subst he|exact absurd he (by simp))
  all_goals (first|(simp[Wt,MemAct.ofEvent,MemAct.touch?]at hx;done)|(simp[Zel,Zob,MemAct.ofEvent,MemAct.touch?]at hx;subst hx;exact⟨rfl,by omega⟩))
 obtain⟨g',hg',h0⟩:=hk.resolve_left fun a=>a hat.1
 rw[hg]at hg'
 cases hg'
 rw[Z16 hat.2]at hd
 have hsz:n<(t++MemOp.ofEvents j fn pos es).size:=lt_size_of_getElem? h2
 obtain⟨m,rfl⟩:∃m,n=t.size+m:=⟨n-t.size,by omega⟩
 have key:∀(l:List Event),es=⟨l⟩→m≤l.length→(t++MemOp.ofEvents j fn pos es).deaf j (t.size+m)=((l.map fun e=>({ g:=j,fn:=fn,pos:=pos,act:=.ofEvent e }:MemOp)).take m).foldl (deafStep j) 1:=by
  rintro l rfl hm
  rw[Z43,← hd]
  simpa using Zx3 (t:=t) (j:=j) (u:=l.map fun e=>({ g:=j,fn:=fn,pos:=pos,act:=.ofEvent e }:MemOp)) (m:=m) (by simpa using hm)
 have hm:m<es.size:=by
  rw[Array.size_append,Z43,Array.size_map]at hsz
  omega
 rw[key es.toList rfl (by simp;omega)]at h0
 cases hmv<;>(try (exfalso;omega))<;>simp only[Z31,Z2y,Z23]at hm
 all_goals (match m,hm with
  | 0,_=>simp at h0
  | 1,_=>simp[deafStep,Zel,Zob,Wt,MemAct.ofEvent]at h0
  | 2,_=>simp[deafStep,Zel,Zob,Wt,MemAct.ofEvent]at h0
  | 3,_=>simp[deafStep,Zel,Zob,Wt,MemAct.ofEvent]at h0
  | m+4,hm=>omega)
section
variable{P:Program}{Φ:Goroutine→Za→Prop}{k:Zaz}{γ:Gm}{rs:List Rank}{H:List Gh}{L0:Za}{tm:Tk}{ws:List Gh}{gs:Array Goroutine}{w:World}{t:Trace}{sl:Option (Nat × Nat)}{j:Nat}
theorem noW{b:Nat}:¬ InW [] b:=fun⟨o,h,_⟩=>by simp at h
theorem noB{b:Nat}:¬ InB [] b:=fun⟨o,h,_⟩=>by simp at h
theorem Iv.hoOwn(iv:Iv P Φ k γ rs H L0 tm ws gs w t){γ':Gm}{h':Gh}{u:Trace}(hw:γ'.wg=γ.wg)(hu:∀op∈u,op.g=j)(hown:HOk (t++u) j∨(tm.st≠12∧Rl γ' (t++u) j)):
  ∀(i:Nat) x,(H.set j h')[i]?=some x→x.late=true→HOk (t++u) i∨(tm.st≠12∧Rl γ' (t++u) i):=by
 intro i x hi hx
 rcases Zj hi with⟨rfl,rfl⟩|⟨hij,hi'⟩
 ·exact hown
 ·exact V7 (iv.ho i x hi' hx) hw (fun a=>a) (Um hij hu)
theorem Iv.relStep(iv:Iv P Φ k γ rs H L0 tm ws gs w t){L:Za}{tk:Tk}{r r':Rank}{g g':Goroutine}(hj:H[j]?=some (.live L tk))(hr:rs[j]?=some r)(hg:gs[j]?=some g)
  (hstep:stepG P false g w=.go g' w #[Wt (.releaseMerge (stA tk.wg))])(hrun:g'.status=.running)(h22:tk.st=22)(hk:TlR P r' g' { tk with st:=23 }):
  ∃gs' ws' ops,runT P (crowd gs w sl) j=(.next (crowd gs' w sl),ops)∧Iv P Φ k γ (rs.set j r') (H.set j (.tail { tk with st:=23 })) L0 tm ws' gs' w (t++ops):=by
 obtain⟨i,rfl,hH,hi4,hmap⟩:=iv.put (h':=.tail { tk with st:=23 }) hj (fun L t e=>by cases e)
 have hmem:tk∈ws.map Gh.tk:=Z3a hi4
 have hcmp:=iv.toks.cmpW hmem (by omega)
 have h12:=iv.toks.up hmem (by omega)
 have hd:Deaf t (i+1)=0:=iv.deaf _ _ hj
 have eu:MemOp.ofEvents (i+1) g.frame.fn g.frame.place #[Wt (.releaseMerge (stA tk.wg))]=#[{ g:=i+1,fn:=g.frame.fn,pos:=g.frame.place,act:=.mark (.releaseMerge (stA tk.wg)) }]:=by simp[Z43,MemAct.ofEvent,Wt]
 have ug:∀op∈MemOp.ofEvents (i+1) g.frame.fn g.frame.place #[Wt (.releaseMerge (stA tk.wg))],op.g=i+1:=fun op hop=>by obtain⟨e,_,rfl⟩:=Y6 hop;rfl
 refine⟨_,_,_,iv.goStep (γ':=γ) (r':=r') (h':=.tail { tk with st:=23 }) hj hr hg hstep hH (fun L t _ e=>by cases e) (Z21 _) (fun _ _ _ _=>rfl) iv.sat0 iv.sat0 (by simp[Gh.L]) ⟨fun b h=>absurd h noW,fun b h=>absurd h noB⟩ ⟨rfl,rfl,rfl⟩ (fun a=>a) iv.sh
  (by rw[hmap];exact iv.toks.late (es:=#[]) hi4 (by show tk.st≠25;omega) (.inr ⟨h22,rfl,rfl⟩)) (fun _=>by show tk.st≠25;omega) (fun op hop=>?_) ?_ ?_ (.inl (by rw[hrun];simp)) (.inr (.inl hrun)) .refl (by show 23≤23;omega) hk⟩
 ·obtain⟨e,he,rfl⟩:=Y6 hop
  simp at he
  subst he
  exact Zti rfl fun a e=>by cases e
 ·simp[Gh.df,deafBehind,Wt]
 ·refine iv.hoOwn rfl ug (.inr ⟨h12,t.size,?_⟩)
  rw[eu]
  have hq:(t++#[({ g:=i+1,fn:=g.frame.fn,pos:=g.frame.place,act:=.mark (.releaseMerge (stA tk.wg)) }:MemOp)])[t.size]?=some { g:=i+1,fn:=g.frame.fn,pos:=g.frame.place,act:=.mark (.releaseMerge (stA tk.wg)) }:=by rw[Z55 (Z21 _)];simp
  refine⟨by rw[act?_of hq,hcmp.2.2.1],by simp[Trace.g?],⟨i+1,by simp[Trace.g?],by rw[deaf_old (Z21 _)];exact hd⟩,fun n hn hgn=>?_⟩
  exfalso
  obtain⟨op,h1,_⟩:=Z28.1 hgn
  have:=lt_size_of_getElem? h1
  simp at this
  omega
theorem Iv.tailStep(iv:Iv P Φ k γ rs H L0 tm ws gs w t){tk tk':Tk}{γ':Gm}{r r':Rank}{g g':Goroutine}{w':World}{es:Array Event}(hj:H[j]?=some (.tail tk))(hr:rs[j]?=some r)(hg:gs[j]?=some g)
  (hstep:stepG P false g w=.go g' w' es)(hrun:g'.status=.running)(hmv:Mv tk γ tk' γ' es)(hwak:Wak P g γ γ')(hshr:Shr γ' w')(ho:Only γ w w')(h25:tk.st≠25)(hk:TlR P r' g' tk'):
  ∃gs' ws' ops,runT P (crowd gs w sl) j=(.next (crowd gs' w' sl),ops)∧Iv P Φ k γ' (rs.set j r') (H.set j (.tail tk')) L0 tm ws' gs' w' (t++ops):=by
 obtain⟨i,rfl,hH,hi4,hmap⟩:=iv.put (h':=.tail tk') hj (fun L t e=>by cases e)
 have hmem:tk∈ws.map Gh.tk:=Z3a hi4
 have h12:=iv.toks.up hmem h25
 have hok:23≤tk.st:=iv.ok _ _ hj
 have hd:=hmv.deafT hok h25
 have hdf:Deaf t (i+1)=if tk.st=23 then 0 else 1:=iv.deaf _ _ hj
 have hpth:PtH H (i+1):=⟨_,hj,h25⟩
 have ug:∀op∈MemOp.ofEvents (i+1) g.frame.fn g.frame.place es,op.g=i+1:=fun op hop=>by obtain⟨e,_,rfl⟩:=Y6 hop;rfl
 refine⟨_,_,_,iv.goStep (γ':=γ') (r':=r') (h':=.tail tk') hj hr hg hstep hH (fun L t _ e=>by cases e) (by rw[ho.size];exact Z21 _) (fun b hb hw hs=>ho.keep b (fun e=>hs ⟨h12,.inl e⟩) fun e=>hs ⟨h12,.inr (.inr e)⟩)
  (ho.sat iv.sat0 fun _ _=>noB) (ho.sat iv.sat0 fun _ _=>noB) (by simp[Gh.L]) ⟨fun b h=>absurd h noW,fun b h=>absurd h noB⟩ hmv.same.2 (fun a=>a) (fun _=>hshr)
  (by rw[hmap];exact iv.toks.late hi4 h25 (.inl hmv)) (fun _=>h25) (okT_mv hmv ⟨⟨h12,.inr (.inr rfl)⟩,hpth⟩ ⟨⟨h12,.inl rfl⟩,hpth⟩ (by rw[ho.size];exact(iv.sh h12).lt (.inr (.inr rfl))) (by rw[ho.size];exact(iv.sh h12).lt (.inl rfl)) fun hle=>by omega) hd.1 ?_ (.inl (by rw[hrun];simp)) (.inr (.inl hrun)) hwak hd.2 hk⟩
 exact iv.hoOwn hmv.same.2.2.2 ug (V7 (iv.ho _ _ hj rfl) hmv.same.2.2.2 (fun a=>a) (Zuq hmv hok h25 hdf))
theorem Iv.goneStep(iv:Iv P Φ k γ rs H L0 tm ws gs w t){tk:Tk}{d n:Nat}{r r':Rank}{g g':Goroutine}{es:Array Event}(hj:H[j]?=some (.gone tk d))(hr:rs[j]?=some r)(hg:gs[j]?=some g)
  (hstep:stepG P false g w=.go g' w es)(hmu:∀e∈es,e.mute=true)(hq:QuitsD P n (deafBehind d es) g')(hr':r'=Tn n):
  ∃gs' ws' ops,runT P (crowd gs w sl) j=(.next (crowd gs' w sl),ops)∧Iv P Φ k γ (rs.set j r') (H.set j (.gone tk (deafBehind d es))) L0 tm ws' gs' w (t++ops):=by
 obtain⟨i,rfl,hH,hi4,hmap⟩:=iv.put (h':=.gone tk (deafBehind d es)) hj (fun L t e=>by cases e)
 have h25:tk.st=25:=iv.ok _ _ hj
 have hmm:∀e∈es,e.loc=.mark .disable∨e.loc=.mark .enable:=fun e he=>by
  have:=hmu e he
  unfold Event.mute at this
  split at this
  ·exact .inl rfl
  ·exact .inr rfl
  ·cases this
 have hno:∀op∈MemOp.ofEvents (i+1) g.frame.fn g.frame.place es,op.g=i+1∧op.act.touch?=none∧∀a,op.act≠.mark (.release a):=fun op hop=>by
  obtain⟨e,he,rfl⟩:=Y6 hop
  obtain⟨loc,wr,sy⟩:=e
  rcases hmm _ he with h|h<;>simp only at h<;>subst h<;>exact⟨rfl,rfl,fun a e=>by cases e⟩
 refine⟨_,_,_,iv.goStep (γ':=γ) (r':=r') (h':=.gone tk (deafBehind d es)) hj hr hg hstep hH (fun L t _ e=>by cases e) (Z21 _) (fun _ _ _ _=>rfl) iv.sat0 iv.sat0 (by simp[Gh.L]) ⟨fun b h=>absurd h noW,fun b h=>absurd h noB⟩ ⟨rfl,rfl,rfl⟩ (fun a=>a) iv.sh
  (by
   rw[hmap,show (ws.map Gh.tk).set i (Gh.gone tk (deafBehind d es)).tk=ws.map Gh.tk from ?_]
   ·exact iv.toks
   ·apply Z3i
    intro n
    rw[Z2z]
    split
    ·rename_i e;subst e
     split
     ·rw[hi4];rfl
     ·rename_i hx;rw[Z4s (by omega)]
    ·rfl) (fun h=>absurd h25 h) (fun op hop=>⟨(hno op hop).1,(hno op hop).2.2,fun a ha=>by rw[(hno op hop).2.1]at ha;cases ha⟩) rfl ?_ (.inl ?_) (hq.status.elim (fun a=>.inr (.inl a)) fun a=>.inr (.inr ⟨a,rfl⟩)) .refl h25 ⟨h25,n,hr',hq⟩⟩
 ·refine iv.hoOwn rfl (fun op hop=>(hno op hop).1) (V7 (iv.ho _ _ hj rfl) rfl (fun a=>a) fun m hm hgm=>?_)
  obtain⟨op,h1,h2,h3⟩:=Zf7 hm hgm
  exact Uo h2 (hno op h1).2.1
 ·rcases hq.status with a|a<;>rw[a]<;>simp
end
section
variable{P:Program}{Φ:Goroutine→Za→Prop}{k:Zaz}{γ:Gm}{rs:List Rank}{H:List Gh}{L0:Za}{tm:Tk}{ws:List Gh}{gs:Array Goroutine}{w:World}{t:Trace}{sl:Option (Nat × Nat)}{j:Nat}
theorem Zlx{ws:List Gh}{i:Nat}{h h':Gh}(hi:ws[i]?=some h)(he:h'.tk=h.tk):(ws.set i h').map Gh.tk=ws.map Gh.tk:=by
 apply Z3i
 intro n
 rw[Z4h,Z2z]
 split
 ·rename_i e;subst e
  split
  ·simp[hi,he]
  ·rename_i hx;rw[Z4s (by omega)]
 ·rfl
theorem Iv.ghost(iv:Iv P Φ k γ rs H L0 tm ws gs w t){h h':Gh}{r':Rank}{g:Goroutine}{L0':Za}{ws':List Gh}(hj:H[j]?=some h)(hg:gs[j]?=some g)(hH:H.set j h'=.main L0' tm::ws')(hnl:∀L t,j≠0→h'≠.main L t)(hmap:ws'.map Gh.tk=ws.map Gh.tk)
  (hw:∀b,InW h'.L b→InW h.L b)(hb:∀b,InB h'.L b→InB h.L b)(hsat:Sat k w h'.L)(htok:∀p∈h'.L.flatten,gho p.2=true→p=h'.tk.at_)(htk:h'.tk=h.tk)(hdf:h'.df=h.df)(hlate:h'.late=true→h.late=true)(hok:h'.ok)(hst:StG P Φ γ r' g h'):
  Iv P Φ k γ (rs.set j r') (H.set j h') L0' tm ws' gs w t:=by
 have hlen:(H.set j h').length=H.length:=by simp
 refine⟨hH,?_,by simp[iv.gsz],by simp[iv.rsz],?_,iv.sat0,?_,?_,?_,iv.sh,?_,by rw[hmap];exact iv.toks,?_,?_,?_,?_,?_,⟨iv.old.same,fun i x b hi hwx ho=>?_,iv.old.sh,iv.old.lt⟩⟩
 ·intro x hx L t' e
  obtain⟨i,hi⟩:=Z7d hx
  have:(H.set j h')[i+1]?=some x:=by rw[hH];simpa using hi
  rcases Zj this with⟨a,rfl⟩|⟨a,b⟩
  ·exact hnl L t' (by omega) e
  ·rw[iv.hd]at b;simp at b
   exact iv.nl x (Z3a b) L t' e
 ·intro i x y o hi hri ho
  rcases Zj hi with⟨rfl,rfl⟩|⟨hij,hi'⟩
  ·rcases Zj hri with⟨_,rfl⟩|⟨a,_⟩
   ·rw[hg]at ho;cases ho;exact hst
   ·exact absurd rfl a
  ·exact iv.st i x y o hi' ((Zj hri).resolve_left (fun a=>hij a.1)).2 ho
 ·intro i x hi
  rcases Zj hi with⟨rfl,rfl⟩|⟨_,hi'⟩
  ·exact hsat
  ·exact iv.sat i x hi'
 ·intro i x hi
  rcases Zj hi with⟨rfl,rfl⟩|⟨_,hi'⟩
  ·exact htok
  ·exact iv.tok i x hi'
 ·intro i i' a b x hii ha hb' hwx hbx
  rcases Zj ha with⟨rfl,rfl⟩|⟨_,ha'⟩
  ·exact iv.dis i i' h b x hii hj ((Zj hb').resolve_left (fun q=>hii q.1.symm)).2 (hw x hwx) hbx
  ·rcases Zj hb' with⟨rfl,rfl⟩|⟨_,hb2⟩
   ·exact iv.dis i i' a h x hii ha' hj hwx (hb x hbx)
   ·exact iv.dis i i' a b x hii ha' hb2 hwx hbx
 ·intro h12 i x b hi hs hbx
  rcases Zj hi with⟨rfl,rfl⟩|⟨_,hi'⟩
  ·exact iv.shB h12 i h b hj hs (hb b hbx)
  ·exact iv.shB h12 i x b hi' hs hbx
 ·rw[hlen]
  obtain⟨hl1,hl2⟩:=Zj2 (h':=h') hj
  refine(iv.ti.heap (Lf':=Zng (H.set j h')) (fun i b hx=>?_) fun i b hx=>?_).less (fun _ a=>a) fun i ⟨x,hx,hp⟩=>?_
  ·by_cases e:i=j
   ·subst e;rw[hl1]at hx;rw[Yo hj];exact hw b hx
   ·rw[hl2 i e]at hx;exact hx
  ·by_cases e:i=j
   ·subst e;rw[hl1]at hx;rw[Yo hj];exact hb b hx
   ·rw[hl2 i e]at hx;exact hx
  ·rcases Zj hx with⟨rfl,rfl⟩|⟨_,hi'⟩
   ·exact⟨h,hj,by rw[← htk];exact hp⟩
   ·exact⟨x,hi',hp⟩
 ·intro i x hi
  rcases Zj hi with⟨rfl,rfl⟩|⟨_,hi'⟩
  ·rw[hdf];exact iv.deaf i h hj
  ·exact iv.deaf i x hi'
 ·intro i x hi hx
  rcases Zj hi with⟨rfl,rfl⟩|⟨_,hi'⟩
  ·exact iv.ho i h hj (hlate hx)
  ·exact iv.ho i x hi' hx
 ·intro i x hi
  rcases Zj hi with⟨rfl,rfl⟩|⟨_,hi'⟩
  ·exact hok
  ·exact iv.ok i x hi'
 ·intro o ho hbl h0 i y hi hy hyb
  obtain⟨h3,x,h4,h5⟩:=iv.nm o ho hbl h0 i y hi hy hyb
  refine⟨h3,?_⟩
  by_cases e:i=j
  ·subst e
   rw[hj]at h4;cases h4
   exact⟨h',by rw[Z2z];simp[(Z2j.1 hj).1],by rw[htk];exact h5⟩
  ·exact⟨x,by rw[Z4a (fun q=>e q.symm)];exact h4,h5⟩
 ·rcases Zj hi with⟨rfl,rfl⟩|⟨_,hi'⟩
  ·exact iv.old.own i h b hj (hw b hwx) ho
  ·exact iv.old.own i x b hi' hwx ho
theorem Iv.weakStep(iv:Iv P Φ k γ rs H L0 tm ws gs w t){main:Bool}{L L':Za}{tk:Tk}{r':Rank}{g:Goroutine}(hj:H[j]?=some (gh main L tk))(hg:gs[j]?=some g)(hrun:g.status=.running)(hw:Wk L L')(hk:Rk P Φ r' main g L'):
  ∃L0' ws',Iv P Φ k γ (rs.set j r') (H.set j (gh main L' tk)) L0' tm ws' gs w t:=by
 have hL:(gh main L tk).L=L:=Zp5
 have hs:=iv.sat j _ hj
 rw[hL]at hs
 have ht:=iv.tok j _ hj
 rw[hL,Ziz]at ht
 cases main with
 | true=>
  obtain⟨rfl,rfl,rfl⟩:=iv.isMain (show H[j]?=some (.main L tk) from hj)
  exact⟨L',ws,iv.ghost (h':=.main L' tk) hj hg (by rw[iv.hd];rfl) (fun L t hj0 e=>absurd rfl hj0) rfl hw.w hw.b (hw.sat k w hs) (fun p hp hgp=>ht p (hw.tok p hp hgp) hgp) rfl rfl (fun h=>h) (show Gh.ok (.main L' tk) from iv.ok 0 (.main L tk) hj) (.inl ⟨hrun,hk⟩)⟩
 | false=>
  obtain⟨i,rfl,h1,h2,h3,h4⟩:=iv.isWork (show H[j]?=some (.live L tk) from hj) (fun L t e=>by cases e)
  exact⟨L0,_,iv.ghost (h':=.live L' tk) hj hg (h2 _) (fun L t hj0 e=>by cases e) (Zlx h1 rfl) hw.w hw.b (hw.sat k w hs) (fun p hp hgp=>ht p (hw.tok p hp hgp) hgp) rfl rfl (fun h=>h) (show Gh.ok (.live L' tk) from iv.ok _ (.live L tk) hj) (.inl ⟨hrun,hk⟩)⟩
theorem Iv.quitStep(iv:Iv P Φ k γ rs H L0 tm ws gs w t){tk:Tk}{n:Nat}{g:Goroutine}(hj:H[j]?=some (.tail tk))(hg:gs[j]?=some g)(h25:tk.st=25)(hq:QuitsD P n 1 g):
  ∃ws',Iv P Φ k γ (rs.set j (Tn n)) (H.set j (.gone tk 1)) L0 tm ws' gs w t:=by
 obtain⟨i,rfl,h1,h2,h3,h4⟩:=iv.isWork hj (fun L t e=>by cases e)
 exact⟨_,iv.ghost (h':=.gone tk 1) hj hg (h2 _) (fun L t hj0 e=>by cases e) (Zlx h1 rfl) (fun b h=>h) (fun b h=>h) iv.sat0 (by simp[Gh.L]) rfl (by simp[Gh.df,h25]) (fun _=>rfl) h25 ⟨h25,n,rfl,hq⟩⟩
theorem Iv.beginStep(iv:Iv P Φ k γ rs H L0 tm ws gs w t){L:Za}{rest:List Zp}{tk t':Tk}{r':Rank}{g:Goroutine}{c d u E:Nat}(hj:H[j]?=some (.main L tk))(hr:∃r,rs[j]?=some r)(hg:gs[j]?=some g)(hrun:g.status=.running)(h12:tk.st=12)(h0:t'.st=0)(e1:t'.todo=c)(e2:t'.back=d)(e3:t'.wg=u)(e4:t'.n=0)(e5:t'.a=0)(e6:t'.b=0)(e7:t'.l=[])
  (hls:LS (tk.at_::(c,.chan 0 #[] false 0 0 false)::(d,.chan 0 #[] false 0 0 false)::(u,Un Tasks.T 0 0 0)::rest) L.flatten)(hk:Rk P Φ r' true g [t'.at_::rest]):
  ∃γ' L0' tm' ws',Iv P Φ k γ' (rs.set j r') (H.set j (.main [t'.at_::rest] t')) L0' tm' ws' gs w t:=by
 obtain⟨rfl,rfl,rfl⟩:=iv.isMain hj
 have hs:Sat k w L:=iv.sat 0 _ hj
 have hfl:([t'.at_::rest]:Za).flatten=t'.at_::rest:=by simp
 have hs2:Sat k w [tk.at_::(c,.chan 0 #[] false 0 0 false)::(d,.chan 0 #[] false 0 0 false)::(u,Un Tasks.T 0 0 0)::rest]:=hs.sp (by simpa using hls)
 have hnd:=hs2.nodup
 simp only[Z17,Z22,Z2p,Z2s,Z3w,Z2h,not_or]at hnd
 have hpc:Zet (.chan 0 #[] false 0 0 false)=true:=rfl
 have hpu:Zet (Un Tasks.T 0 0 0)=true:=by
  have:Nat.blt Tasks.m 0=false:=by
   cases h:Nat.blt Tasks.m 0 with
   | false=>rfl
   | true=>exact absurd (Z2m h) (by omega)
  simp[Zet,gho,Zq1,Un,this]
 have inL:∀p∈(c,Obj.chan 0 #[] false 0 0 false)::(d,.chan 0 #[] false 0 0 false)::(u,Un Tasks.T 0 0 0)::rest,p∈L.flatten:=fun p hp=>hls.mem (Z5d _ hp)
 have mc:(c,Obj.chan 0 #[] false 0 0 false)∈L.flatten:=inL _ (by simp)
 have md:(d,Obj.chan 0 #[] false 0 0 false)∈L.flatten:=inL _ (by simp)
 have mu:(u,Un Tasks.T 0 0 0)∈L.flatten:=inL _ (by simp)
 let γ':Gm:=⟨c,d,u,E,0,0,0,false⟩
 have hSh:∀b,Sh γ' b→InW L b:=by
  intro b hb
  have hb:b=c∨b=d∨b=u:=hb
  rcases hb with e|e|e<;>rw[e]
  ·exact⟨_,mc,hpc⟩
  ·exact⟨_,md,hpc⟩
  ·exact⟨_,mu,hpu⟩
 have hSh2:∀b,Sh γ' b→¬ InB ([t'.at_::rest]:Za) b:=by
  rintro b hb ⟨o,h1,h2⟩
  rw[hfl]at h1
  rcases Z2h.1 h1 with h1|h1
  ·cases h1;cases h2
  ·have hm:b∈rest.map (·.1):=Z2v.2 ⟨_,h1,rfl⟩
   have hb:b=c∨b=d∨b=u:=hb
   rcases hb with e|e|e<;>rw[e]at hm
   ·exact hnd.2.1.2.2 hm
   ·exact hnd.2.2.1.2 hm
   ·exact hnd.2.2.2.1 hm
 have h25:∀x∈ws.map Gh.tk,x.st=25:=by
  rcases iv.toks.ph with⟨a,_⟩|⟨a,_⟩|⟨a,_⟩|⟨a,_⟩|⟨_,a⟩<;>(try (exfalso;omega))
  exact a
 have hw:∀b,InW ([t'.at_::rest]:Za) b→InW L b:=fun b ⟨o,h1,h2⟩=>by
  rw[hfl]at h1
  rcases Z2h.1 h1 with h1|h1
  ·cases h1;cases h2
  ·exact⟨o,inL _ (by simp[h1]),h2⟩
 have hb:∀b,InB ([t'.at_::rest]:Za) b→InB L b:=fun b ⟨o,h1,h2⟩=>by
  rw[hfl]at h1
  rcases Z2h.1 h1 with h1|h1
  ·cases h1;cases h2
  ·exact⟨o,inL _ (by simp[h1]),h2⟩
 have hat:∀p∈L.flatten,gho p.2=true→p=tk.at_:=iv.tok 0 _ hj
 have hnr:∀p∈rest,gho p.2=false:=fun p hp=>by
  cases hgp:gho p.2 with
  | false=>rfl
  | true=>
   exfalso
   have:=hat p (inL p (by simp[hp])) hgp
   subst this
   exact hnd.1.2.2.2 (Z2v.2 ⟨_,hp,rfl⟩)
 have hsN:Sat k w [t'.at_::rest]:=by
  refine⟨hs.os,hs.out,hs.tape,fun p hp hgp=>?_,?_,fun p hp=>?_,fun p hp=>?_⟩<;>rw[hfl] at*
  ·rcases Z2h.1 hp with rfl|hp
   ·cases hgp
   ·exact hs.has p (inL p (by simp[hp])) hgp
  ·rw[Z2s,Z3w]
   refine⟨?_,hnd.2.2.2.2⟩
   show t'.todo ∉ _
   rw[e1];exact hnd.2.1.2.2
  ·rcases Z2h.1 hp with rfl|hp
   ·rfl
   ·exact hs.nv p (inL p (by simp[hp]))
  ·rcases Z2h.1 hp with rfl|hp
   ·show t'.todo<_
    rw[e1];exact hs.lt _ mc
   ·exact hs.lt p (inL p (by simp[hp]))
 refine⟨γ',[t'.at_::rest],t',ws,?_⟩
 have hH:H.set 0 (.main [t'.at_::rest] t')=.main [t'.at_::rest] t'::ws:=by rw[iv.hd];rfl
 have hw25:∀(i:Nat) x,i≠0→H[i]?=some x→x.tk.st=25:=fun i x hi hx=>by
  rw[iv.hd]at hx
  cases i with
  | zero=>exact absurd rfl hi
  | succ i=>simp at hx;exact h25 _ (Z2v.2 ⟨x,Z3a hx,rfl⟩)
 refine⟨hH,iv.nl,by simp[iv.gsz],by simp[iv.rsz],?_,iv.sat0,?_,?_,?_,fun _=>?_,?_,iv.toks.begin h12 h0 e4 e5 e6 e7 ⟨e1,e2,e3⟩ ⟨rfl,rfl,rfl,rfl⟩,?_,?_,?_,?_,?_,⟨iv.old.same,fun i x b hi hwx ho=>?_,fun _ b hs ho=>iv.old.own 0 _ b hj (hSh b hs) ho,iv.old.lt⟩⟩
 ·intro i x y o hi hri ho
  rcases Zj hi with⟨rfl,rfl⟩|⟨hij,hi'⟩
  ·rcases Zj hri with⟨_,rfl⟩|⟨a,_⟩
   ·rw[hg]at ho;cases ho;exact .inl ⟨hrun,hk⟩
   ·exact absurd rfl a
  ·have hso:=iv.st i x y o hi' ((Zj hri).resolve_left (fun a=>hij a.1)).2 ho
   have h5:=hw25 i x hij hi'
   cases x with
   | main L t=>exact absurd (iv.isMain hi').1 hij
   | live L t=>have h6:20≤t.st∧t.st≤22:=iv.ok i _ hi';simp only[Gh.tk]at h5;omega
   | tail t=>exact hso
   | gone t d=>exact hso
 ·intro i x hi
  rcases Zj hi with⟨rfl,rfl⟩|⟨_,hi'⟩
  ·exact hsN
  ·exact iv.sat i x hi'
 ·intro i x hi
  rcases Zj hi with⟨rfl,rfl⟩|⟨_,hi'⟩
  ·intro p hp hgp
   simp only[Gh.L,hfl]at hp
   rcases Z2h.1 hp with rfl|hp
   ·rfl
   ·rw[hnr p hp]at hgp;cases hgp
  ·exact iv.tok i x hi'
 ·intro i i' a b x hii ha hb' hwx hbx
  rcases Zj ha with⟨rfl,rfl⟩|⟨_,ha'⟩
  ·exact iv.dis 0 i' _ b x hii hj ((Zj hb').resolve_left (fun q=>hii q.1.symm)).2 (hw x hwx) hbx
  ·rcases Zj hb' with⟨rfl,rfl⟩|⟨_,hb2⟩
   ·exact iv.dis i 0 a _ x hii ha' hj hwx (hb x hbx)
   ·exact iv.dis i i' a b x hii ha' hb2 hwx hbx
 ·refine⟨⟨0,?_⟩,⟨0,?_⟩,?_,?_⟩
  ·exact hs.has _ mc rfl
  ·exact hs.has _ md rfl
  ·have:=hs.has _ mu rfl
   rw[Zgm hpu]at this;exact this
  ·exact⟨fun e=>hnd.2.1.1 e,fun e=>hnd.2.1.2.1 e,fun e=>hnd.2.2.1.1 e⟩
 ·intro _ i x b hi hsb hbx
  rcases Zj hi with⟨rfl,rfl⟩|⟨hij,hi'⟩
  ·exact hSh2 b hsb hbx
  ·exact iv.dis 0 i _ x b (fun e=>hij e.symm) hj hi' (hSh b hsb) hbx
 ·have hlen:(H.set 0 (.main [t'.at_::rest] t')).length=H.length:=by simp
  rw[hlen]
  obtain⟨hl1,hl2⟩:=Zj2 (h':=.main [t'.at_::rest] t') hj
  have hti:=iv.ti
  refine⟨hti.nr,hti.g,hti.lt,fun i b hx=>?_,fun i b hx=>?_,fun i b hp hsb=>?_,hti.shs,hti.rel⟩
  ·by_cases e:i=0
   ·subst e;rw[hl1]at hx
    exact hti.own 0 b (by rw[Yo hj];exact hw b hx)
   ·rw[hl2 i e]at hx;exact hti.own i b hx
  ·by_cases e:i=0
   ·subst e;rw[hl1]at hx
    exact hti.rd 0 b (by rw[Yo hj];exact hb b hx)
   ·rw[hl2 i e]at hx;exact hti.rd i b hx
  ·obtain⟨x,hx,hp⟩:=hp
   rcases Zj hx with⟨rfl,rfl⟩|⟨hij,hi'⟩
   ·exact(hti.own 0 b (by rw[Yo hj];exact hSh b hsb.2)).imp fun _ _=>trivial
   ·exact absurd (hw25 i x hij hi') hp
 ·intro i x hi
  rcases Zj hi with⟨rfl,rfl⟩|⟨_,hi'⟩
  ·have:=iv.deaf 0 _ hj
   simp only[Gh.df,h12,h0,Zvm]at this ⊢
   simpa using this
  ·exact iv.deaf i x hi'
 ·intro i x hi hx
  rcases Zj hi with⟨rfl,rfl⟩|⟨_,hi'⟩
  ·cases hx
  ·rcases iv.ho i x hi' hx with a|⟨a,_⟩
   ·exact .inl a
   ·exact absurd h12 a
 ·intro i x hi
  rcases Zj hi with⟨rfl,rfl⟩|⟨_,hi'⟩
  ·show t'.st≤12;omega
  ·exact iv.ok i x hi'
 ·intro o ho hbl
  rw[hg]at ho;cases ho
  rw[hrun]at hbl;cases hbl
 ·rcases Zj hi with⟨rfl,rfl⟩|⟨_,hi'⟩
  ·exact iv.old.own 0 _ b hj (hw b hwx) ho
  ·exact iv.old.own i x b hi' hwx ho
end
theorem Zwe{l:List Zp}(h:(l.map (·.1)).Nodup){b:Nat}{o o':Obj}(h1:(b,o)∈l)(h2:(b,o')∈l):o=o':=by
 induction l with
 | nil=>cases h1
 | cons x l ih=>
  rw[Z2s,Z3w]at h
  rcases Z2h.1 h1 with e1|e1<;>rcases Z2h.1 h2 with e2|e2
  ·rw[← e1]at e2;cases e2;rfl
  ·subst e1;exact absurd (show b∈l.map (·.1) from Z2v.2 ⟨(b,o'),e2,rfl⟩) h.1
  ·subst e2;exact absurd (show b∈l.map (·.1) from Z2v.2 ⟨(b,o),e1,rfl⟩) h.1
  ·exact ih h.2 e1 e2
theorem LS.nodup{a b:List Zp}(h:LS a b)(hb:(b.map (·.1)).Nodup):(a.map (·.1)).Nodup:=by
 obtain⟨l,h1,h2⟩:=h
 exact(h1.map _).nodup_iff.1 (hb.sublist (h2.map _))
section
variable{P:Program}{Φ:Goroutine→Za→Prop}{k:Zaz}{γ:Gm}{rs:List Rank}{H:List Gh}{L0:Za}{tm:Tk}{ws:List Gh}{gs:Array Goroutine}{w:World}{t:Trace}{sl:Option (Nat × Nat)}{j:Nat}
theorem Iv.spawnStep(iv:Iv P Φ k γ rs H L0 tm ws gs w t){L L1 L' Lc:Za}{tk:Tk}{d:Deferred}{r' rc:Rank}{g g':Goroutine}(hj:H[j]?=some (.main L tk))(hg:gs[j]?=some g)(hstep:stepG P true g w=.spawn g' (born P d) w #[])(hrun':g'.status=.running)(h3:tk.st=3)
  (hu:Upd L tk.todo tk.obj ({ tk with st:=0,n:=tk.n+1 }:Tk).obj L1)(hgv:Give L1 L' Lc { tk with st:=20 })(hk:Rk P Φ r' true g' L')(hkc:Rk P Φ rc false (born P d) Lc):
  ∃gs' ops,runT P (crowd gs w sl) j=(.next (crowd gs' w sl),ops)∧Iv P Φ k γ (rs.set j r'++[rc]) (H.set j (.main L' { tk with st:=0,n:=tk.n+1 })++[Gh.live Lc { tk with st:=20 }]) L' { tk with st:=0,n:=tk.n+1 } (ws++[Gh.live Lc { tk with st:=20 }]) gs' w (t++ops):=by
 obtain⟨rfl,rfl,rfl⟩:=iv.isMain hj
 have h12:tk.st≠12:=by omega
 have hs:Sat k w L:=iv.sat 0 _ hj
 have hs1:Sat k w L1:=hu.sat rfl rfl rfl hs
 have htok1:=hu.gtok (tk:=tk) (t':={ tk with st:=0,n:=tk.n+1 }) rfl (iv.tok 0 _ hj) hs.nodup
 obtain⟨⟨own,ro,hp,hls,hpl,hro⟩,hnd⟩:=hgv
 have hLc:∀p∈Lc.flatten,p=({ tk with st:=20 }:Tk).at_∨p∈own∨p∈ro:=fun p hm=>by
  have:=hp.mem_iff.1 hm
  simpa using this
 have own1:∀p∈own,p∈L1.flatten:=fun p hm=>hls.mem (Z2x _ hm)
 have L'1:∀p∈L'.flatten,p∈L1.flatten:=fun p hm=>hls.mem (Z2q _ hm)
 have Zy5:∀p∈ro,p∈L1.flatten:=fun p hm=>L'1 p (hro p hm).2
 have hnd2:=hls.nodup hs1.nodup
 have apart:∀b o o',(b,o)∈own→(b,o')∈L'.flatten→False:=fun b o o' h1 h2=>by
  rw[Z20,Z4o]at hnd2
  exact hnd2.2.2 b (Z2v.2 ⟨_,h1,rfl⟩) b (Z2v.2 ⟨_,h2,rfl⟩) rfl
 have hrog:∀o,Zq1 o=true→gho o=false:=fun o h=>by cases o<;>first|rfl|cases h
 have F1:∀x,InW L' x→InW L x:=fun x ⟨o,h1,h2⟩=>(hu.gW rfl rfl x).1 ⟨o,L'1 _ h1,h2⟩
 have F2:∀x,InB L' x→InB L x:=fun x ⟨o,h1,h2⟩=>(hu.gB rfl rfl x).1 ⟨o,L'1 _ h1,h2⟩
 have F3:∀x,InW Lc x→InW L x∧¬ InB L' x:=fun x ⟨o,h1,h2⟩=>by
  rcases hLc _ h1 with h1|h1|h1
  ·cases h1;cases h2
  ·exact⟨(hu.gW rfl rfl x).1 ⟨o,own1 _ h1,h2⟩,fun⟨o',h3,_⟩=>apart x o o' h1 h3⟩
  ·have:=(hro _ h1).1;rw[Zqp h2]at this;cases this
 have F4:∀x,InB Lc x→InB L x:=fun x ⟨o,h1,h2⟩=>by
  rcases hLc _ h1 with h1|h1|h1
  ·cases h1;cases h2
  ·exact(hu.gB rfl rfl x).1 ⟨o,own1 _ h1,h2⟩
  ·exact(hu.gB rfl rfl x).1 ⟨o,Zy5 _ h1,h2⟩
 have F5:∀x,InW L' x→¬ InB Lc x:=fun x ⟨o,h1,h2⟩ ⟨o',h3,h4⟩=>by
  rcases hLc _ h3 with h3|h3|h3
  ·cases h3;cases h4
  ·exact apart x o' o h3 h1
  ·obtain⟨h5,h6⟩:=hro _ h3
   have:=Zwe (hs1.nodup) (L'1 _ h1) (L'1 _ h6)
   subst this
   rw[Zqp h2]at h5;cases h5
 have hsL':Sat k w L':=hs1.sp (by
  obtain⟨l,h1,h2⟩:=hls
  exact LS.trans ⟨L'.flatten,.refl _,Z4f _ _⟩ ⟨l,h1,h2⟩)
 have hsc:Sat k w Lc:=by
  refine⟨hs.os,hs.out,hs.tape,fun p hm hgp=>?_,hnd,fun p hm=>?_,fun p hm=>?_⟩<;>rcases hLc p hm with rfl|h1|h1
  ·cases hgp
  ·exact hs1.has p (own1 p h1) hgp
  ·exact hs1.has p (Zy5 p h1) hgp
  ·rfl
  ·exact hs1.nv p (own1 p h1)
  ·exact hs1.nv p (Zy5 p h1)
  ·exact hs.lt (tk.todo,tk.obj) hu.mem
  ·exact hs1.lt p (own1 p h1)
  ·exact hs1.lt p (Zy5 p h1)
 have hn0:0<H.length:=(Z2j.1 hj).1
 have hH':∀{i:Nat} {x:Gh},(H.set 0 (Gh.main L' { tk with st:=0,n:=tk.n+1 })++[Gh.live Lc { tk with st:=20 }])[i]?=some x→(i=0∧x=.main L' { tk with st:=0,n:=tk.n+1 })∨(i≠0∧i<H.length∧H[i]?=some x)∨(i=H.length∧x=.live Lc { tk with st:=20 }):=by
  intro i x hi
  rcases Nat.lt_trichotomy i H.length with hlt|rfl|hgt
  ·rw[Z3n (by simpa using hlt)]at hi
   rcases Zj hi with⟨a,b⟩|⟨a,b⟩
   ·exact .inl ⟨a,b⟩
   ·exact .inr (.inl ⟨a,hlt,b⟩)
  ·rw[Z3f (by simp)]at hi
   simp at hi
   exact .inr (.inr ⟨rfl,hi.symm⟩)
  ·rw[Z4s (by simp;omega)]at hi;cases hi
 have hgs:∀{i:Nat} {o:Goroutine},((gs.setIfInBounds 0 g').push (born P d))[i]?=some o→(i=0∧o=g')∨(i≠0∧i<H.length∧gs[i]?=some o)∨(i=H.length∧o=born P d):=by
  intro i o hi
  rw[Z5j]at hi
  split at hi
  ·rename_i e
   cases hi
   rw[Array.size_setIfInBounds,iv.gsz]at e
   exact .inr (.inr ⟨e,rfl⟩)
  ·by_cases e:i=0
   ·subst e
    rw[Z2o (by rw[iv.gsz];exact hn0)]at hi
    cases hi;exact .inl ⟨rfl,rfl⟩
   ·rw[Z2e (fun q=>e q.symm)]at hi
    exact .inr (.inl ⟨e,by rw[← iv.gsz];exact(Z2g.1 hi).1,hi⟩)
 have hrs:∀{i:Nat} {y:Rank},(rs.set 0 r'++[rc])[i]?=some y→(i=0∧y=r')∨(i≠0∧i<H.length∧rs[i]?=some y)∨(i=H.length∧y=rc):=by
  intro i y hi
  rcases Nat.lt_trichotomy i H.length with hlt|rfl|hgt
  ·rw[Z3n (by rw[List.length_set,iv.rsz];exact hlt)]at hi
   rcases Zj hi with⟨a,b⟩|⟨a,b⟩
   ·exact .inl ⟨a,b⟩
   ·exact .inr (.inl ⟨a,hlt,b⟩)
  ·rw[Z3f (by simp[iv.rsz])]at hi
   simp[iv.rsz]at hi
   exact .inr (.inr ⟨rfl,hi.symm⟩)
  ·rw[Z4s (by simp[iv.rsz];omega)]at hi;cases hi
 have hrt:=runT_crowd_spawn (sl:=sl) hg hstep
 generalize hx:({ g:=0,fn:=g.frame.fn,pos:=g.frame.place,act:=.go gs.size }:MemOp)=x at hrt
 generalize hy:({ g:=gs.size,fn:=(born P d).frame.fn,pos:=g.frame.place,act:=.start }:MemOp)=y at hrt
 have hop:((MemOp.ofEvents 0 g.frame.fn g.frame.place #[]).push x).push y=#[x,y]:=by simp[Z43]
 rw[hop]at hrt
 refine⟨_,_,hrt,?_⟩
 have xg:x.g=0∧x.act=.go H.length:=by subst hx;exact⟨rfl,by rw[← iv.gsz]⟩
 have yg:y.g=H.length∧y.act=.start:=by subst hy;exact⟨iv.gsz,rfl⟩
 have hmute:∀op∈(#[x,y]:Trace),op.act.touch?=none∧op.g<H.length+1∧∀a,op.act≠.mark (.release a):=fun op ho=>by
  simp only[Z50,Z2h,Z4m,Z6j]at ho
  rcases ho with rfl|rfl
  ·exact⟨by rw[xg.2];rfl,by rw[xg.1];omega,fun a e=>by rw[xg.2]at e;cases e⟩
  ·exact⟨by rw[yg.2];rfl,by rw[yg.1];omega,fun a e=>by rw[yg.2]at e;cases e⟩
 have d0:Deaf t 0=0:=by rw[iv.deaf 0 _ hj];simp[Gh.df,Zvm,h3]
 have dn:Deaf t H.length=0:=ConcN.Deaf_absent fun i op hi e=>by have:=iv.ti.g i op hi;omega
 have fk:∀i,Knows t 0 i→Knows (t++#[x,y]) H.length i:=fun i h=>ConcN.fork_knows xg yg d0 dn h
 have dpush:∀i,Deaf (t++#[x,y]) i=Deaf t i:=fun i=>by
  have e:t++#[x,y]=(t++#[x])++#[y]:=by apply Z53;simp
  rw[e,Deaf_push,Deaf_push]
  simp[deafStep,xg.2,yg.2]
 have main':Zng (H.set 0 (Gh.main L' { tk with st:=0,n:=tk.n+1 })++[Gh.live Lc { tk with st:=20 }]) 0=L':=by
  simp[Zng,Z3n (show 0<(H.set 0 (Gh.main L' { tk with st:=0,n:=tk.n+1 })).length by simpa using hn0),hn0,Gh.L]
 have lfh:∀{i b},(InB (Zng (H.set 0 (Gh.main L' { tk with st:=0,n:=tk.n+1 })++[Gh.live Lc { tk with st:=20 }]) i) b)→∃z,(H.set 0 (Gh.main L' { tk with st:=0,n:=tk.n+1 })++[Gh.live Lc { tk with st:=20 }])[i]?=some z:=fun {i b} hb=>by
  cases hi:(H.set 0 (Gh.main L' { tk with st:=0,n:=tk.n+1 })++[Gh.live Lc { tk with st:=20 }])[i]? with
  | none=>rw[Zng,hi]at hb;exact absurd hb noB
  | some z=>exact⟨z,rfl⟩
 refine⟨by rw[iv.hd];rfl,?_,by simp[iv.gsz],by simp[iv.rsz],?_,iv.sat0,?_,?_,?_,fun _=>iv.sh h12,?_,?_,?_,?_,?_,?_,?_,⟨iv.old.same,fun i z b hi hwx ho=>?_,fun _ b hs ho=>iv.old.sh h12 b hs ho,iv.old.lt⟩⟩
 ·intro z hz L t e
  rcases Z2f.1 hz with hz|hz
  ·exact iv.nl z hz L t e
  ·simp at hz;subst hz;cases e
 ·intro i z yy o hi hri ho
  rcases hH' hi with⟨rfl,rfl⟩|⟨h0,hlt,hi'⟩|⟨rfl,rfl⟩
  ·obtain⟨_,rfl⟩:=(hrs hri).resolve_right (by rintro(⟨a,_⟩|⟨a,_⟩);exact a rfl;omega)
   obtain⟨_,rfl⟩:=(hgs ho).resolve_right (by rintro(⟨a,_⟩|⟨a,_⟩);exact a rfl;omega)
   exact .inl ⟨hrun',hk⟩
  ·have hri':=((hrs hri).resolve_left (fun a=>h0 a.1)).resolve_right (fun a=>by omega)
   have ho':=((hgs ho).resolve_left (fun a=>h0 a.1)).resolve_right (fun a=>by omega)
   exact iv.st i z yy o hi' hri'.2.2 ho'.2.2
  ·obtain⟨_,rfl⟩:=((hrs hri).resolve_left (fun a=>by omega)).resolve_left (fun a=>by omega)
   obtain⟨_,rfl⟩:=((hgs ho).resolve_left (fun a=>by omega)).resolve_left (fun a=>by omega)
   exact .inl ⟨rfl,hkc⟩
 ·intro i z hi
  rcases hH' hi with⟨rfl,rfl⟩|⟨h0,hlt,hi'⟩|⟨rfl,rfl⟩
  ·exact hsL'
  ·exact iv.sat i z hi'
  ·exact hsc
 ·intro i z hi
  rcases hH' hi with⟨rfl,rfl⟩|⟨h0,hlt,hi'⟩|⟨rfl,rfl⟩
  ·exact fun p hp hg=>htok1.2 p (L'1 p hp) hg
  ·exact iv.tok i z hi'
  ·intro p hm hgp
   rcases hLc p hm with h1|h1|h1
   ·exact h1
   ·rw[Zas (hpl p h1)]at hgp;cases hgp
   ·rw[hrog _ (hro p h1).1]at hgp;cases hgp
 ·intro i i' a b z hii ha hb hw hbz
  rcases hH' ha with⟨rfl,rfl⟩|⟨h0,hlt,ha'⟩|⟨rfl,rfl⟩<;>rcases hH' hb with⟨rfl,rfl⟩|⟨h0',hlt',hb'⟩|⟨rfl,rfl⟩
  ·exact hii rfl
  ·exact iv.dis 0 i' _ b z hii hj hb' (F1 z hw) hbz
  ·exact F5 z hw hbz
  ·exact iv.dis i 0 a _ z hii ha' hj hw (F2 z hbz)
  ·exact iv.dis i i' a b z hii ha' hb' hw hbz
  ·exact iv.dis i 0 a _ z h0 ha' hj hw (F4 z hbz)
  ·exact(F3 z hw).2 hbz
  ·exact iv.dis 0 i' _ b z (fun e=>h0' e.symm) hj hb' (F3 z hw).1 hbz
  ·exact hii rfl
 ·intro _ i z b hi hsb hb
  rcases hH' hi with⟨rfl,rfl⟩|⟨h0,hlt,hi'⟩|⟨rfl,rfl⟩
  ·exact iv.shB h12 0 _ b hj hsb (F2 b hb)
  ·exact iv.shB h12 i z b hi' hsb hb
  ·exact iv.shB h12 0 _ b hj hsb (F4 b hb)
 ·rw[Z20];exact iv.toks.born h3
 ·have hlen:(H.set 0 (Gh.main L' { tk with st:=0,n:=tk.n+1 })++[Gh.live Lc { tk with st:=20 }]).length=H.length+1:=by simp
  rw[hlen]
  refine iv.ti.mute (Nat.le_succ _) hmute (fun i b hb=>?_) (fun i b hb=>?_) (fun i b hp hsb=>?_)
  ·obtain⟨z,hz⟩:=lfh hb.b
   rw[Yo hz]at hb
   rcases hH' hz with⟨rfl,rfl⟩|⟨h0,hlt,hi'⟩|⟨rfl,rfl⟩
   ·exact(iv.ti.own 0 b (by rw[Yo hj];exact F1 b hb)).mute fun op ho=>(hmute op ho).1
   ·exact(iv.ti.own i b (by rw[Yo hi'];exact hb)).mute fun op ho=>(hmute op ho).1
   ·exact(iv.ti.own 0 b (by rw[Yo hj];exact(F3 b hb).1)).pass fk fun op ho=>(hmute op ho).1
  ·obtain⟨z,hz⟩:=lfh hb
   rw[Yo hz]at hb
   rcases hH' hz with⟨rfl,rfl⟩|⟨h0,hlt,hi'⟩|⟨rfl,rfl⟩
   ·exact(iv.ti.rd 0 b (by rw[Yo hj];exact F2 b hb)).mute fun op ho=>(hmute op ho).1
   ·exact(iv.ti.rd i b (by rw[Yo hi'];exact hb)).mute fun op ho=>(hmute op ho).1
   ·exact(iv.ti.rd 0 b (by rw[Yo hj];exact F4 b hb)).pass fk fun op ho=>(hmute op ho).1
  ·obtain⟨z,hz,hp⟩:=hp
   have hs0:=iv.ti.shp 0 b ⟨_,hj,by show tk.st≠25;omega⟩ ⟨h12,hsb.2⟩
   rcases hH' hz with⟨rfl,rfl⟩|⟨h0,hlt,hi'⟩|⟨rfl,rfl⟩
   ·exact hs0.mute fun op ho=>(hmute op ho).1
   ·exact(iv.ti.shp i b ⟨z,hi',hp⟩ ⟨h12,hsb.2⟩).mute fun op ho=>(hmute op ho).1
   ·exact hs0.pass fk fun op ho=>(hmute op ho).1
 ·intro i z hi
  rw[dpush]
  rcases hH' hi with⟨rfl,rfl⟩|⟨h0,hlt,hi'⟩|⟨rfl,rfl⟩
  ·rw[d0];simp[Gh.df,Zvm]
  ·exact iv.deaf i z hi'
  ·rw[dn];rfl
 ·intro i z hi hz
  rcases hH' hi with⟨rfl,rfl⟩|⟨h0,hlt,hi'⟩|⟨rfl,rfl⟩
  ·cases hz
  ·refine V7 (iv.ho i z hi' hz) rfl (fun _=>by simp) fun n hn hgn=>?_
   obtain⟨op,h1,h2,_⟩:=Zf7 hn hgn
   exact Uo h2 (hmute op h1).1
  ·cases hz
 ·intro i z hi
  rcases hH' hi with⟨rfl,rfl⟩|⟨h0,hlt,hi'⟩|⟨rfl,rfl⟩
  ·show 0≤12;omega
  ·exact iv.ok i z hi'
  ·show 20≤20∧20≤22;omega
 ·intro o ho hb
  obtain⟨_,rfl⟩:=(hgs ho).resolve_right (by rintro(⟨a,_⟩|⟨a,_⟩);exact a rfl;omega)
  rw[hrun']at hb;cases hb
 ·rcases hH' hi with⟨rfl,rfl⟩|⟨h0,hlt,hi'⟩|⟨rfl,rfl⟩
  ·exact iv.old.own 0 _ b hj (F1 b hwx) ho
  ·exact iv.old.own i z b hi' hwx ho
  ·exact iv.old.own 0 _ b hj (F3 b hwx).1 ho
end
end Go.HL
