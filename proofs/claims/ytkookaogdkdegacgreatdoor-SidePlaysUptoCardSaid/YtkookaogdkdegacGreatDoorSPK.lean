/- Texts laid into one, without what the claim does not use. Conditions: none. -/
import Derived.Test.YtkookaogdkdegacGreatDoorSPO
import Derived.Conc.Pipeline3
import Derived.Listen
import Derived.RunNT
import Derived.Conc.LeavingOf
set_option linter.unusedVariables false
set_option linter.unusedSimpArgs false
set_option linter.unusedSectionVars false
set_option maxHeartbeats 4000000
set_option maxRecDepth 100000
namespace Go.HL
open Go Go.Proofs Go.Conc Go.Proofs.Tryz
variable[Tasks]
theorem Zrk{L:Za}{b:Nat}{o:Obj}(h:(b,o)∈L.flatten)(o':Obj):∃L',Upd L b o o' L':=by
 obtain⟨l,r,e⟩:=Z49 h
 exact⟨[l++(b,o')::r],l,r,e,by simp⟩
structure Cnt(γ:Gm)(w w':World):Prop where
 size:w'.heap.size=w.heap.size
 os:w'.os=w.os
 out:w'.output=w.output
 tape:w'.tape=w.tape
 keep:∀b,¬ Sh γ b→w'.heap[b]?=w.heap[b]?
theorem Cnt.sat{γ:Gm}{k:Zaz}{w w':World}{L:Za}(h:Cnt γ w w')(hs:Sat k w L)(hb:∀b,Sh γ b→¬ InB L b):Sat k w' L:=
 hs.keep ⟨h.os.trans hs.os,h.out.trans hs.out,h.tape.trans hs.tape,by simp,by simp,by simp,by simp⟩ (by rw[h.size];exact Z21 _) fun b hx=>h.keep b fun e=>hb b e hx
def Zu5(op:MemOp):Prop:=op.act.touch?=none∧∀m,op.act≠.mark m
theorem Zhw(t:Trace)(g:Nat)(u:Trace)(hu:∀op∈u,Zu5 op):Deaf (t++u) g=Deaf t g:=by
 obtain⟨l⟩:=u
 rw[Deaf_append]
 induction l generalizing t with
 | nil=>rfl
 | cons y l ih=>
  have hy:deafStep g (Deaf t g) y=Deaf t g:=by
   have:=(hu y (by simp)).2
   unfold deafStep
   split
   ·rename_i e;exact absurd e (this _)
   ·rename_i e;exact absurd e (this _)
   ·rfl
  rw[Z3y,hy]
  exact ih t fun op ho=>hu op (by simp at ho ⊢;exact .inr ho)
theorem Zzt(t:Trace)(g:Nat)(l:List MemOp)(hu:∀op∈l,Zu5 op){m:Nat}(hm:m≤l.length):(t++l.toArray).deaf g (t.size+m)=Deaf t g:=by
 rw[Zx3 hm]
 have:=Zhw t g (l.take m).toArray fun op ho=>hu op (Z4x (by simpa using ho))
 rw[Deaf_append]at this
 exact this
section
variable{P:Program}{Φ:Goroutine→Za→Prop}{k:Zaz}{γ:Gm}{rs:List Rank}{H:List Gh}{L0:Za}{tm:Tk}{ws:List Gh}{gs:Array Goroutine}{w:World}{t:Trace}{sl:Option (Nat × Nat)}{j:Nat}
theorem Iv.meet(iv:Iv P Φ k γ rs H L0 tm ws gs w t){i:Nat}{Lw Lm' Lw':Za}{tw tm' tw':Tk}{rm rw':Rank}{gs':Array Goroutine}{w':World}{u:Trace}{gm gw:Goroutine}(hw:H[i+1]?=some (.live Lw tw))(h12:tm.st≠12)(h0:tm'.st=0)(hdm:Zvm tm.st=0)(h20:20≤tw'.st∧tw'.st≤22)
  (hsz:gs'.size=gs.size)(g0:gs'[0]?=some gm)(g1:gs'[i+1]?=some gw)(go:∀n,n≠0→n≠i+1→gs'[n]?=gs[n]?)(rm0:gm.status=.running)(rw0:gw.status=.running)(hc:Cnt γ w w')(hshr:Shr γ w')
  (hsm:Sat k w Lm')(hsw:Sat k w Lw')(htm:∀p∈Lm'.flatten,gho p.2=true→p=tm'.at_)(htw:∀p∈Lw'.flatten,gho p.2=true→p=tw'.at_)
  (mW:∀x,InW Lm' x→InW L0 x∨InW Lw x)(mB:∀x,InB Lm' x→InB L0 x∨InB Lw x)(wW:∀x,InW Lw' x→InW Lw x)(wB:∀x,InB Lw' x→InB Lw x)(d1:∀x,InW Lm' x→¬ InB Lw' x)(d2:∀x,InW Lw' x→¬ InB Lm' x)
  (htoks:Toks γ tm' ((ws.map Gh.tk).set i tw'))(hkm:Rk P Φ rm true gm Lm')(hkw:Rk P Φ rw' false gw Lw')(hu:∀op∈u,Zu5 op∧op.g<H.length)
  (kW:∀b,InW Lm' b→KAll (t++u) 0 b)(kB:∀b,InB Lm' b→KWr (t++u) 0 b):
  Iv P Φ k γ ((rs.set 0 rm).set (i+1) rw') ((H.set 0 (.main Lm' tm')).set (i+1) (.live Lw' tw')) Lm' tm' (ws.set i (.live Lw' tw')) gs' w' (t++u):=by
 have hm:=iv.main0
 have hwi:ws[i]?=some (.live Lw tw):=by rw[iv.hd]at hw;simpa using hw
 have hlen:((H.set 0 (.main Lm' tm')).set (i+1) (.live Lw' tw')).length=H.length:=by simp
 have h25:tw.st≠25:=by have:20≤tw.st∧tw.st≤22:=iv.ok _ _ hw;omega
 have hH:∀{n:Nat} {x:Gh},((H.set 0 (.main Lm' tm')).set (i+1) (.live Lw' tw'))[n]?=some x→(n=0∧x=.main Lm' tm')∨(n=i+1∧x=.live Lw' tw')∨(n≠0∧n≠i+1∧H[n]?=some x):=by
  intro n x hn
  rcases Zj hn with⟨a,b⟩|⟨a,b⟩
  ·exact .inr (.inl ⟨a,b⟩)
  ·rcases Zj b with⟨c,d⟩|⟨c,d⟩
   ·exact .inl ⟨c,d⟩
   ·exact .inr (.inr ⟨c,a,d⟩)
 have hR:∀{n:Nat} {x:Rank},((rs.set 0 rm).set (i+1) rw')[n]?=some x→(n=0∧x=rm)∨(n=i+1∧x=rw')∨(n≠0∧n≠i+1∧rs[n]?=some x):=by
  intro n x hn
  rcases Zj hn with⟨a,b⟩|⟨a,b⟩
  ·exact .inr (.inl ⟨a,b⟩)
  ·rcases Zj b with⟨c,d⟩|⟨c,d⟩
   ·exact .inl ⟨c,d⟩
   ·exact .inr (.inr ⟨c,a,d⟩)
 have hmute:∀op∈u,op.act.touch?=none:=fun op ho=>(hu op ho).1.1
 have shm:∀b,Sh γ b→¬ InB Lm' b:=fun b hs hb=>by
  rcases mB b hb with hb|hb
  ·exact iv.shB h12 0 _ b hm hs hb
  ·exact iv.shB h12 (i+1) _ b hw hs hb
 have shw:∀b,Sh γ b→¬ InB Lw' b:=fun b hs hb=>iv.shB h12 (i+1) _ b hw hs (wB b hb)
 have lfh:∀{n b},(InB (Zng ((H.set 0 (.main Lm' tm')).set (i+1) (.live Lw' tw')) n) b)→∃z,((H.set 0 (.main Lm' tm')).set (i+1) (.live Lw' tw'))[n]?=some z:=fun {n b} hb=>by
  cases hi:((H.set 0 (Gh.main Lm' tm')).set (i+1) (Gh.live Lw' tw'))[n]? with
  | none=>rw[Zng,hi]at hb;exact absurd hb noB
  | some z=>exact⟨z,rfl⟩
 refine⟨by rw[iv.hd];rfl,?_,by simp[hsz,iv.gsz],by simp[iv.rsz],?_,hc.sat iv.sat0 fun _ _=>noB,?_,?_,?_,fun _=>hshr,?_,by rw[Z4h];exact htoks,?_,?_,?_,?_,?_,⟨fun b hb=>by rw[hc.keep b fun hs=>iv.old.sh h12 b hs hb];exact iv.old.same b hb,fun n x b hn hwx ho=>?_,fun _ b hs ho=>iv.old.sh h12 b hs ho,fun b hb=>by rw[hc.size];exact iv.old.lt b hb⟩⟩
 ·intro x hx L t e
  rcases Z4v hx with hx|rfl
  ·exact iv.nl x hx L t e
  ·cases e
 ·intro n x y o hn hr ho
  rcases hH hn with⟨rfl,rfl⟩|⟨rfl,rfl⟩|⟨a,b,c⟩
  ·obtain⟨_,rfl⟩:=(hR hr).resolve_right (by rintro(⟨a,_⟩|⟨a,_⟩);omega;exact a rfl)
   rw[g0]at ho;cases ho
   exact .inl ⟨rm0,hkm⟩
  ·obtain⟨_,rfl⟩:=((hR hr).resolve_left (fun a=>by omega)).resolve_right (fun a=>a.2.1 rfl)
   rw[g1]at ho;cases ho
   exact .inl ⟨rw0,hkw⟩
  ·rw[go n a b]at ho
   have hr':=((hR hr).resolve_left (fun q=>a q.1)).resolve_left (fun q=>b q.1)
   exact iv.st n x y o c hr'.2.2 ho
 ·intro n x hn
  rcases hH hn with⟨rfl,rfl⟩|⟨rfl,rfl⟩|⟨a,b,c⟩
  ·exact hc.sat hsm shm
  ·exact hc.sat hsw shw
  ·exact hc.sat (iv.sat n x c) fun q hq=>iv.shB h12 n x q c hq
 ·intro n x hn
  rcases hH hn with⟨rfl,rfl⟩|⟨rfl,rfl⟩|⟨a,b,c⟩
  ·exact htm
  ·exact htw
  ·exact iv.tok n x c
 ·intro n n' x y z hnn hx hy hwz hbz
  rcases hH hx with⟨rfl,rfl⟩|⟨rfl,rfl⟩|⟨a,b,c⟩<;>rcases hH hy with⟨rfl,rfl⟩|⟨rfl,rfl⟩|⟨a',b',c'⟩
  ·exact hnn rfl
  ·exact d1 z hwz hbz
  ·rcases mW z hwz with h|h
   ·exact iv.dis 0 n' _ y z hnn hm c' h hbz
   ·exact iv.dis (i+1) n' _ y z (fun e=>b' e.symm) hw c' h hbz
  ·exact d2 z hwz hbz
  ·exact hnn rfl
  ·exact iv.dis (i+1) n' _ y z hnn hw c' (wW z hwz) hbz
  ·rcases mB z hbz with h|h
   ·exact iv.dis n 0 x _ z hnn c hm hwz h
   ·exact iv.dis n (i+1) x _ z b c hw hwz h
  ·exact iv.dis n (i+1) x _ z hnn c hw hwz (wB z hbz)
  ·exact iv.dis n n' x y z hnn c c' hwz hbz
 ·intro _ n x b hn hs hb
  rcases hH hn with⟨rfl,rfl⟩|⟨rfl,rfl⟩|⟨a,b',c⟩
  ·exact shm b hs hb
  ·exact shw b hs hb
  ·exact iv.shB h12 n x b c hs hb
 ·rw[hlen,hc.size]
  refine iv.ti.mute (Z21 _) (fun op ho=>⟨hmute op ho,(hu op ho).2,fun a=>(hu op ho).1.2 _⟩) (fun n b hb=>?_) (fun n b hb=>?_) (fun n b hp hsb=>?_)
  ·obtain⟨z,hz⟩:=lfh hb.b
   rw[Yo hz]at hb
   rcases hH hz with⟨rfl,rfl⟩|⟨rfl,rfl⟩|⟨a,b',c⟩
   ·exact kW b hb
   ·exact(iv.ti.own (i+1) b (by rw[Yo hw];exact wW b hb)).mute hmute
   ·exact(iv.ti.own n b (by rw[Yo c];exact hb)).mute hmute
  ·obtain⟨z,hz⟩:=lfh hb
   rw[Yo hz]at hb
   rcases hH hz with⟨rfl,rfl⟩|⟨rfl,rfl⟩|⟨a,b',c⟩
   ·exact kB b hb
   ·exact(iv.ti.rd (i+1) b (by rw[Yo hw];exact wB b hb)).mute hmute
   ·exact(iv.ti.rd n b (by rw[Yo c];exact hb)).mute hmute
  ·obtain⟨z,hz,hp⟩:=hp
   refine(iv.ti.shp n b ?_ ⟨h12,hsb.2⟩).mute hmute
   rcases hH hz with⟨rfl,rfl⟩|⟨rfl,rfl⟩|⟨a,b',c⟩
   ·have:tm.st≤12:=iv.ok 0 _ hm
    exact⟨_,hm,by show tm.st≠25;omega⟩
   ·exact⟨_,hw,h25⟩
   ·exact⟨z,c,hp⟩
 ·intro n x hn
  rw[Zhw t n u fun op ho=>(hu op ho).1]
  rcases hH hn with⟨rfl,rfl⟩|⟨rfl,rfl⟩|⟨a,b,c⟩
  ·rw[iv.deaf 0 _ hm];simp only[Gh.df,hdm,h0];rfl
  ·exact(show Deaf t (i+1)=0 from iv.deaf _ (.live Lw tw) hw)
  ·exact iv.deaf n x c
 ·intro n x hn hx
  rcases hH hn with⟨rfl,rfl⟩|⟨rfl,rfl⟩|⟨a,b,c⟩
  ·cases hx
  ·cases hx
  ·refine V7 (iv.ho n x c hx) rfl (fun _=>by omega) fun m hm hgm=>?_
   obtain⟨op,q1,q2,_⟩:=Zf7 hm hgm
   exact Uo q2 (hmute op q1)
 ·intro n x hn
  rcases hH hn with⟨rfl,rfl⟩|⟨rfl,rfl⟩|⟨a,b,c⟩
  ·show tm'.st≤12;omega
  ·exact h20
  ·exact iv.ok n x c
 ·intro o ho hb
  rw[g0]at ho;cases ho
  rw[rm0]at hb;cases hb
 ·rcases hH hn with⟨rfl,rfl⟩|⟨rfl,rfl⟩|⟨a,b',c⟩
  ·rcases mW b hwx with h|h
   ·exact iv.old.own 0 _ b hm h ho
   ·exact iv.old.own (i+1) _ b hw h ho
  ·exact iv.old.own (i+1) _ b hw (wW b hwx) ho
  ·exact iv.old.own n x b c hwx ho
theorem Iv.task(iv:Iv P Φ k γ rs H L0 tm ws gs w t){i:Nat}{Lw:Za}{tw:Tk}{fm fw:Nat→Goroutine→Za→Rank}{gs':Array Goroutine}{w':World}{u:Trace}{gm gw:Goroutine}(hw:H[i+1]?=some (.live Lw tw))(h0:tm.st=0)(h20:tw.st=20)(ha:tm.a<tm.many)(hat:tm.at_∈L0.flatten)(haw:tw.at_∈Lw.flatten)
  (hsz:gs'.size=gs.size)(g0:gs'[0]?=some gm)(g1:gs'[i+1]?=some gw)(go:∀n,n≠0→n≠i+1→gs'[n]?=gs[n]?)(rm0:gm.status=.running)(rw0:gw.status=.running)(hc:Cnt γ w w')(hshr:Shr γ w')(hu:∀op∈u,Zu5 op∧op.g<H.length)
  (hkm:∀L',Upd L0 tm.todo tm.obj ({ tm with a:=tm.a+1,l:=tm.a::tm.l }:Tk).obj L'→Rk P Φ (fm 0 gm L') true gm L')(hkw:∀L',Upd Lw tw.todo tw.obj ({ tw with st:=21,a:=tm.a,b:=tm.a+1 }:Tk).obj L'→Rk P Φ (fw 1 gw L') false gw L'):
  ∃n1 L1 n2 L2 H' L0' tm' ws',Iv P Φ k γ ((rs.set 0 (fm n1 gm L1)).set (i+1) (fw n2 gw L2)) H' L0' tm' ws' gs' w' (t++u):=by
 obtain⟨L1,hu1⟩:=Zrk hat ({ tm with a:=tm.a+1,l:=tm.a::tm.l }:Tk).obj
 obtain⟨L2,hu2⟩:=Zrk haw ({ tw with st:=21,a:=tm.a,b:=tm.a+1 }:Tk).obj
 have hm:=iv.main0
 have hsm:Sat k w L0:=iv.sat 0 _ hm
 have hsw:Sat k w Lw:=iv.sat _ _ hw
 have t1:=hu1.gtok (t:=tm) (t':={ tm with a:=tm.a+1,l:=tm.a::tm.l }) rfl (iv.tok 0 _ hm) hsm.nodup
 have t2:=hu2.gtok (t:=tw) (t':={ tw with st:=21,a:=tm.a,b:=tm.a+1 }) rfl (iv.tok _ _ hw) hsw.nodup
 have hi4:(ws.map Gh.tk)[i]?=some tw:=by rw[iv.hd]at hw;simp at hw;simp[hw,Gh.tk]
 have hmute:∀op∈u,op.act.touch?=none:=fun op ho=>(hu op ho).1.1
 have ne:(0:Nat)≠i+1:=by omega
 refine⟨0,L1,1,L2,_,L1,_,_,iv.meet hw (by omega) (tm':={ tm with a:=tm.a+1,l:=tm.a::tm.l }) (tw':={ tw with st:=21,a:=tm.a,b:=tm.a+1 }) (Lm':=L1) (Lw':=L2) h0 (by simp[Zvm,h0]) (by simp) hsz g0 g1 go rm0 rw0 hc hshr (hu1.sat rfl rfl rfl hsm) (hu2.sat rfl rfl rfl hsw) t1.2 t2.2
  (fun x h=>.inl ((hu1.gW rfl rfl x).1 h)) (fun x h=>.inl ((hu1.gB rfl rfl x).1 h)) (fun x h=>(hu2.gW rfl rfl x).1 h) (fun x h=>(hu2.gB rfl rfl x).1 h)
  (fun x h h'=>iv.dis 0 (i+1) _ _ x ne hm hw ((hu1.gW rfl rfl x).1 h) ((hu2.gB rfl rfl x).1 h')) (fun x h h'=>iv.dis (i+1) 0 _ _ x ne.symm hw hm ((hu2.gW rfl rfl x).1 h) ((hu1.gB rfl rfl x).1 h'))
  (iv.toks.take h0 hi4 h20 ha) (hkm L1 hu1) (hkw L2 hu2) hu (fun b h=>(iv.ti.own 0 b (by rw[Yo hm];exact(hu1.gW rfl rfl b).1 h)).mute hmute) (fun b h=>(iv.ti.rd 0 b (by rw[Yo hm];exact(hu1.gB rfl rfl b).1 h)).mute hmute)⟩
theorem Iv.done(iv:Iv P Φ k γ rs H L0 tm ws gs w t){i:Nat}{Lw L1 L':Za}{tw:Tk}{v:Value}{bl:List Zp}{fm fw:Nat→Goroutine→Za→Rank}{gs':Array Goroutine}{w':World}{u:Trace}{gm gw:Goroutine}(hw:H[i+1]?=some (.live Lw tw))(h0:tm.st=0)(h21:tw.st=21)(hat:tm.at_∈L0.flatten)
  (hu1:Upd Lw tw.todo tw.obj ({ tw with st:=20 }:Tk).obj L1)(hls:LS (bl++L'.flatten) L1.flatten)(hbl:∀p∈bl,Zet p.2=true)(hR:Tasks.R tw.tag tw.a v bl)
  (hsz:gs'.size=gs.size)(g0:gs'[0]?=some gm)(g1:gs'[i+1]?=some gw)(go:∀n,n≠0→n≠i+1→gs'[n]?=gs[n]?)(rm0:gm.status=.running)(rw0:gw.status=.running)(hc:Cnt γ w w')(hshr:Shr γ w')(hu:∀op∈u,Zu5 op∧op.g<H.length)
  (hkm:∀i bl L',i∈tm.l→Tasks.R tm.tag i v bl→Upd L0 tm.todo tm.obj ({ tm with b:=tm.b+1,l:=tm.l.erase i }:Tk).obj L'→Rk P Φ (fm 0 gm (bl::L')) true gm (bl::L'))(hkw:Rk P Φ (fw 1 gw L') false gw L')(hkn:∀n,Knows t (i+1) n→Knows (t++u) 0 n):
  ∃n1 L1 n2 L2 H' L0' tm' ws',Iv P Φ k γ ((rs.set 0 (fm n1 gm L1)).set (i+1) (fw n2 gw L2)) H' L0' tm' ws' gs' w' (t++u):=by
 have hm:=iv.main0
 have hi4:(ws.map Gh.tk)[i]?=some tw:=by rw[iv.hd]at hw;simp at hw;simp[hw,Gh.tk]
 have hsame:=iv.toks.same tw (Z3a hi4) (by omega)
 obtain⟨hal,htk⟩:=iv.toks.give h0 hi4 h21
 obtain⟨L2,hu2⟩:=Zrk hat ({ tm with b:=tm.b+1,l:=tm.l.erase tw.a }:Tk).obj
 have hsm:Sat k w L0:=iv.sat 0 _ hm
 have hsw:Sat k w Lw:=iv.sat _ _ hw
 have hs1:Sat k w L1:=hu1.sat rfl rfl rfl hsw
 have hsN:Sat k w L2:=hu2.sat rfl rfl rfl hsm
 have t1:=hu1.gtok (t:=tw) (t':={ tw with st:=20 }) rfl (iv.tok _ _ hw) hsw.nodup
 have t2:=hu2.gtok (t:=tm) (t':={ tm with b:=tm.b+1,l:=tm.l.erase tw.a }) rfl (iv.tok 0 _ hm) hsm.nodup
 have hmute:∀op∈u,op.act.touch?=none:=fun op ho=>(hu op ho).1.1
 have ne:(0:Nat)≠i+1:=by omega
 have bl1:∀p∈bl,p∈L1.flatten:=fun p hp=>hls.mem (Z2x _ hp)
 have L'1:∀p∈L'.flatten,p∈L1.flatten:=fun p hp=>hls.mem (Z2q _ hp)
 have hnd:=hls.nodup hs1.nodup
 rw[Z20,Z4o]at hnd
 have apart:∀b o o',(b,o)∈bl→(b,o')∈L'.flatten→False:=fun b o o' a c=>hnd.2.2 b (Z2v.2 ⟨_,a,rfl⟩) b (Z2v.2 ⟨_,c,rfl⟩) rfl
 have blW:∀p∈bl,InW Lw p.1:=fun p hp=>(hu1.gW rfl rfl p.1).1 ⟨p.2,bl1 p hp,hbl p hp⟩
 have W':∀x,InW L' x→InW Lw x:=fun x ⟨o,a,c⟩=>(hu1.gW rfl rfl x).1 ⟨o,L'1 _ a,c⟩
 have B':∀x,InB L' x→InB Lw x:=fun x ⟨o,a,c⟩=>(hu1.gB rfl rfl x).1 ⟨o,L'1 _ a,c⟩
 have mW:∀x,InW (bl::L2) x→InW L0 x∨(InW Lw x∧¬ InB L' x):=fun x ⟨o,a,c⟩=>by
  rw[Z17]at a
  rcases Z2f.1 a with a|a
  ·exact .inr ⟨blW _ a,fun⟨o',q,_⟩=>apart x o o' a q⟩
  ·exact .inl ((hu2.gW rfl rfl x).1 ⟨o,a,c⟩)
 have mB:∀x,InB (bl::L2) x→InB L0 x∨(InW Lw x∧¬ InB L' x):=fun x ⟨o,a,c⟩=>by
  rw[Z17]at a
  rcases Z2f.1 a with a|a
  ·exact .inr ⟨blW _ a,fun⟨o',q,_⟩=>apart x o o' a q⟩
  ·exact .inl ((hu2.gB rfl rfl x).1 ⟨o,a,c⟩)
 have shk:∀p∈bl,∀q∈L2.flatten,p.1≠q.1:=fun p hp q hq e=>by
  cases hgq:gho q.2 with
  | true=>
   have:=t2.2 q hq hgq
   subst this
   have h12:tm.st≠12:=by omega
   have e':p.1=γ.todo:=e.trans (iv.toks.main h12).1
   exact iv.shB h12 _ _ p.1 hw (.inl e') (blW p hp).b
  | false=>
   have:InB L0 q.1:=(hu2.gB rfl rfl q.1).1 ⟨q.2,hq,hgq⟩
   exact iv.dis (i+1) 0 _ _ p.1 ne.symm hw hm (blW p hp) (e▸this)
 have hsm':Sat k w (bl::L2):=by
  have hb:Sat k w [bl]:=hs1.sp (by
   obtain⟨l,a,c⟩:=hls
   exact LS.trans (b:=bl++L'.flatten) ⟨bl,by simp,List.sublist_append_left _ _⟩ ⟨l,a,c⟩)
  refine⟨hsN.os,hsN.out,hsN.tape,fun p hp hg=>?_,?_,fun p hp=>?_,fun p hp=>?_⟩<;>rw[Z17] at*
  ·rcases Z2f.1 hp with hp|hp
   ·exact hs1.has p (bl1 p hp) hg
   ·exact hsN.has p hp hg
  ·rw[Z20,Z4o]
   refine⟨hnd.1,hsN.nodup,fun a ha b hb=>?_⟩
   obtain⟨p,hp,rfl⟩:=Z2v.1 ha
   obtain⟨q,hq,rfl⟩:=Z2v.1 hb
   exact shk p hp q hq
  ·rcases Z2f.1 hp with hp|hp
   ·exact hs1.nv p (bl1 p hp)
   ·exact hsN.nv p hp
  ·rcases Z2f.1 hp with hp|hp
   ·exact hs1.lt p (bl1 p hp)
   ·exact hsN.lt p hp
 have hsw':Sat k w L':=hs1.sp (by
  obtain⟨l,a,c⟩:=hls
  exact LS.trans (b:=bl++L'.flatten) ⟨L'.flatten,.refl _,Z4f _ _⟩ ⟨l,a,c⟩)
 refine⟨0,bl::L2,1,L',_,bl::L2,_,_,iv.meet hw (by omega) (tm':={ tm with b:=tm.b+1,l:=tm.l.erase tw.a }) (tw':={ tw with st:=20 }) (Lm':=bl::L2) (Lw':=L') h0 (by simp[Zvm,h0]) (by simp) hsz g0 g1 go rm0 rw0 hc hshr hsm' hsw'
  (fun p hp hg=>?_) (fun p hp hg=>t1.2 p (L'1 p hp) hg) (fun x h=>(mW x h).imp id (·.1)) (fun x h=>(mB x h).imp id (·.1.b)) W' B' (fun x h h'=>?_) (fun x h h'=>?_) htk (hkm tw.a bl L2 hal (hsame.2.2.2.1▸hR) hu2) hkw hu (fun b h=>?_) (fun b h=>?_)⟩
 ·rw[Z17]at hp
  rcases Z2f.1 hp with hp|hp
  ·rw[Zas (hbl p hp)]at hg;cases hg
  ·exact t2.2 p hp hg
 ·rcases mW x h with h|h
  ·exact iv.dis 0 (i+1) _ _ x ne hm hw h (B' x h')
  ·exact h.2 h'
 ·rcases mB x h' with h'|h'
  ·exact iv.dis (i+1) 0 _ _ x ne.symm hw hm (W' x h) h'
  ·exact h'.2 h.b
 ·rcases mW b h with h|h
  ·exact(iv.ti.own 0 b (by rw[Yo hm];exact h)).mute hmute
  ·exact(iv.ti.own (i+1) b (by rw[Yo hw];exact h.1)).pass hkn hmute
 ·rcases mB b h with h|h
  ·exact(iv.ti.rd 0 b (by rw[Yo hm];exact h)).mute hmute
  ·exact(iv.ti.rd (i+1) b (by rw[Yo hw];exact h.1.b)).pass hkn hmute
end
inductive Down:List Rank→List Rank→Prop
 | main {l l':List Rank} {f:Nat→Goroutine→Za→Rank} (n:Nat) (g:Goroutine) (L:Za):Down (f n g L::l') (.mk f::l)
 | work {r:Rank} {l:List Rank} {i:Nat} {f:Nat→Goroutine→Za→Rank} (n:Nat) (g:Goroutine) (L:Za):l[i]?=some (.mk f)→Down (r::l.set i (f n g L)) (r::l)
theorem Down.at0{rs:List Rank}{f:Nat→Goroutine→Za→Rank}(h:rs[0]?=some (.mk f))(n:Nat)(g:Goroutine)(L:Za)(l':List Rank):Down (f n g L::l') rs:=by
 cases rs with
 | nil=>simp at h
 | cons a l=>simp at h;subst h;exact .main n g L
theorem Down.set{rs:List Rank}{j:Nat}{f:Nat→Goroutine→Za→Rank}(h:rs[j]?=some (.mk f))(n:Nat)(g:Goroutine)(L:Za):Down (rs.set j (f n g L)) rs:=by
 cases rs with
 | nil=>simp at h
 | cons a l=>
  cases j with
  | zero=>simp at h;subst h;exact .main n g L
  | succ i=>exact .work n g L (by simpa using h)
theorem offers_mem{g:Goroutine}{cs:Array CommCase}{sh:CommShape}{r k:Nat}{snd:Bool}:k∈offersAt (parked g cs sh) r snd↔∃cc,cs[k]?=some cc∧cc.send.isSome=snd∧cc.chan=.chan (some r):=by
 simp only[offersAt,parked,Z2v,Z3s,Z7m,exists_eq_right,Z27,beq_iff_eq]
 constructor
 ·rintro⟨cc,hm,h1,h2⟩
  have:=Z44.1 (Z25.1 hm)
  refine⟨cc,by simpa using this,h1,?_⟩
  split at h2
  ·rename_i h;rw[h];simp at h2;rw[h2]
  ·cases h2
 ·rintro⟨cc,hm,h1,h2⟩
  exact⟨cc,Z25.2 (Z44.2 (by simpa using hm)),h1,by simp[h2]⟩
theorem Xu{g:Goroutine}{r k:Nat}{snd:Bool}(h:k∈offersAt g r snd):g.status=.blocked:=by
 apply Z4e
 intro hs
 rw[offersAt_of_not_blocked hs]at h
 cases h
section
variable{P:Program}{Φ:Goroutine→Za→Prop}{k:Zaz}{γ:Gm}{rs:List Rank}{H:List Gh}{L0:Za}{tm:Tk}{ws:List Gh}{gs:Array Goroutine}{w:World}{t:Trace}{sl:Option (Nat × Nat)}{j:Nat}
theorem Iv.got(iv:Iv P Φ k γ rs H L0 tm ws gs w t){i:Nat}{g:Goroutine}(hg:gs[i]?=some g):∃h r,H[i]?=some h∧rs[i]?=some r∧StG P Φ γ r g h:=by
 have hlt:i<H.length:=by rw[← iv.gsz];exact(Z2g.1 hg).1
 have h1:=Z2c hlt
 have h2:=Z2c (show i<rs.length by rw[iv.rsz];exact hlt)
 exact⟨_,_,h1,h2,iv.st i _ _ g h1 h2 hg⟩
theorem Iv.blockedW(iv:Iv P Φ k γ rs H L0 tm ws gs w t){i:Nat}{g:Goroutine}(hi:i≠0)(hg:gs[i]?=some g)(hb:g.status=.blocked):
  ∃n L tk f g1 cases shape,i=n+1∧H[i]?=some (.live L tk)∧rs[i]?=some (.mk f)∧g=parked g1 cases shape∧g1.status=.running∧CmL (fun m g' L'=>Rk P Φ (f (cond m 0 1) g' L') m g' L') false g1 L cases shape:=by
 obtain⟨h,r,h1,h2,h3⟩:=iv.got hg
 cases h with
 | main L tk=>exact absurd (iv.isMain h1).1 hi
 | live L tk=>
  rcases h3 with⟨a,_⟩|⟨_,f,g1,cs,sh,rfl,rfl,a,_,b⟩
  ·rw[a]at hb;cases hb
  ·obtain⟨n,rfl⟩:=Nat.exists_eq_succ_of_ne_zero hi
   exact⟨n,L,tk,f,g1,cs,sh,rfl,h1,h2,rfl,a,b⟩
 | tail tk=>
  have:=TlR.status h3
  rw[hb]at this
  rcases this with a|a<;>cases a
 | gone tk d=>
  obtain⟨_,n,_,hq⟩:=h3
  have:=hq.status
  rw[hb]at this
  rcases this with a|a<;>cases a
theorem Iv.blockedM(iv:Iv P Φ k γ rs H L0 tm ws gs w t){g:Goroutine}(hg:gs[0]?=some g)(hb:g.status=.blocked):
  (∃f g1 cases shape,rs[0]?=some (.mk f)∧g=parked g1 cases shape∧g1.status=.running∧CmL (fun m g' L'=>Rk P Φ (f (cond m 0 1) g' L') m g' L') true g1 L0 cases shape)∨tm.st=9∧γ.sem=0∧∃g0:Goroutine,g={ g0 with status:=.blocked }∧g0.offers=none:=by
 obtain⟨h,r,h1,h2,h3⟩:=iv.got hg
 rw[iv.main0]at h1
 cases h1
 rcases h3 with⟨a,_⟩|⟨_,f,g1,cs,sh,rfl,rfl,a,_,b⟩|⟨a,b,g0,c,_,d,_⟩
 ·rw[a]at hb;cases hb
 ·exact .inl ⟨f,g1,cs,sh,h2,rfl,a,b⟩
 ·exact .inr ⟨a,b,g0,c,d⟩
theorem Iv.setG(iv:Iv P Φ k γ rs H L0 tm ws gs w t){h:Gh}{r:Rank}{g':Goroutine}(hj:H[j]?=some h)(hr:rs[j]?=some r)(hst:StG P Φ γ r g' h)
  (nm:∀g,(gs.setIfInBounds j g')[0]?=some g→g.status=.blocked→tm.st=0→∀(i:Nat) gi,i≠0→(gs.setIfInBounds j g')[i]?=some gi→gi.status=.blocked→tm.a=tm.many∧∃h,H[i]?=some h∧h.tk.st=20):
  Iv P Φ k γ rs H L0 tm ws (gs.setIfInBounds j g') w t:=by
 refine⟨iv.hd,iv.nl,by simp[iv.gsz],iv.rsz,fun i x y o hi hr' ho=>?_,iv.sat0,iv.sat,iv.tok,iv.dis,iv.sh,iv.shB,iv.toks,iv.ti,iv.deaf,iv.ho,iv.ok,nm,iv.old⟩
 by_cases e:i=j
 ·subst e
  have hlt:=(Z2j.1 hj).1
  rw[Z2o (by rw[iv.gsz];exact hlt)]at ho
  cases ho
  rw[hj]at hi;cases hi
  rw[hr]at hr';cases hr'
  exact hst
 ·rw[Z2e (fun q=>e q.symm)]at ho
  exact iv.st i x y o hi hr' ho
theorem Iv.at(iv:Iv P Φ k γ rs H L0 tm ws gs w t)(d:Nat):Iv P Φ k γ rs H L0 tm ws gs (w.at d) t:=by
 have sat:∀L,Sat k w L→Sat k (w.at d) L:=fun L h=>⟨h.os,h.out,h.tape,h.has,h.nodup,h.nv,h.lt⟩
 exact⟨iv.hd,iv.nl,iv.gsz,iv.rsz,iv.st,sat _ iv.sat0,fun j h hj=>sat _ (iv.sat j h hj),iv.tok,iv.dis,fun a=>⟨(iv.sh a).todo,(iv.sh a).back,(iv.sh a).wg,(iv.sh a).apart⟩,iv.shB,iv.toks,iv.ti,iv.deaf,iv.ho,iv.ok,iv.nm,⟨iv.old.same,iv.old.own,iv.old.sh,iv.old.lt⟩⟩
theorem Iv.shutStep(iv:Iv P Φ k γ rs H L0 tm ws gs w t){L:Za}{tk:Tk}{f:Nat→Goroutine→Za→Rank}{g g':Goroutine}{u:Trace}(hj:H[j]?=some (.live L tk))(hr:rs[j]?=some (.mk f))(hg:gs[j]?=some g)(h20:tk.st=20)(hcl:γ.closed=true)(hat:tk.at_∈L.flatten)(hrun:g'.status=.running)
  (hu:∀op∈u,Zu5 op∧op.g<H.length)(hk:∀L',Upd L tk.todo tk.obj ({ tk with st:=22 }:Tk).obj L'→Rk P Φ (f 1 g' L') false g' L'):
  ∃L' ws',Iv P Φ k γ (rs.set j (f 1 g' L')) (H.set j (.live L' { tk with st:=22 })) L0 tm ws' (gs.setIfInBounds j g') w (t++u):=by
 obtain⟨L',hU⟩:=Zrk hat ({ tk with st:=22 }:Tk).obj
 obtain⟨i,rfl,hH,hi4,hmap⟩:=iv.put (h':=.live L' { tk with st:=22 }) hj (fun L t e=>by cases e)
 have hs:Sat k w L:=iv.sat _ _ hj
 have htk:=hU.gtok (t:=tk) (t':={ tk with st:=22 }) rfl (iv.tok _ _ hj) hs.nodup
 have hlt:=(Z2j.1 hj).1
 have hmute:∀op∈u,op.act.touch?=none:=fun op ho=>(hu op ho).1.1
 have hne:tm.st≠0:=by
  intro e
  rcases iv.toks.ph with⟨_,a,_⟩|⟨a,_⟩|⟨a,_⟩|⟨a,_⟩|⟨a,_⟩
  ·rw[a]at hcl;cases hcl
  ·omega
  ·omega
  ·omega
  ·omega
 refine⟨L',_,hH,?_,by simp[iv.gsz],by simp[iv.rsz],?_,iv.sat0,?_,?_,?_,iv.sh,?_,by rw[hmap];exact iv.toks.shut hcl hi4 h20,?_,?_,?_,?_,fun g _ _ e=>absurd e hne,⟨iv.old.same,fun n x b hn hwx ho=>?_,iv.old.sh,iv.old.lt⟩⟩
 ·intro x hx L t' e
  rcases Z4v hx with hx|rfl
  ·exact iv.nl x hx L t' e
  ·cases e
 ·intro n x y o hn hr' ho
  rcases Zj hn with⟨rfl,rfl⟩|⟨a,b⟩
  ·rcases Zj hr' with⟨_,rfl⟩|⟨a,_⟩
   ·rw[Z2o (by rw[iv.gsz];exact hlt)]at ho
    cases ho
    exact .inl ⟨hrun,hk L' hU⟩
   ·exact absurd rfl a
  ·rw[Z2e (fun q=>a q.symm)]at ho
   exact iv.st n x y o b ((Zj hr').resolve_left (fun q=>a q.1)).2 ho
 ·intro n x hn
  rcases Zj hn with⟨rfl,rfl⟩|⟨a,b⟩
  ·exact hU.sat rfl rfl rfl hs
  ·exact iv.sat n x b
 ·intro n x hn
  rcases Zj hn with⟨rfl,rfl⟩|⟨a,b⟩
  ·exact htk.2
  ·exact iv.tok n x b
 ·intro n n' x y z hnn hx hy hwz hbz
  rcases Zj hx with⟨rfl,rfl⟩|⟨_,b⟩
  ·exact iv.dis _ n' _ y z hnn hj ((Zj hy).resolve_left (fun q=>hnn q.1.symm)).2 ((hU.gW rfl rfl z).1 hwz) hbz
  ·rcases Zj hy with⟨rfl,rfl⟩|⟨_,c⟩
   ·exact iv.dis n _ x _ z hnn b hj hwz ((hU.gB rfl rfl z).1 hbz)
   ·exact iv.dis n n' x y z hnn b c hwz hbz
 ·intro h12 n x b hn hsb hb
  rcases Zj hn with⟨rfl,rfl⟩|⟨_,c⟩
  ·exact iv.shB h12 _ _ b hj hsb ((hU.gB rfl rfl b).1 hb)
  ·exact iv.shB h12 n x b c hsb hb
 ·have hlen:(H.set (i+1) (Gh.live L' { tk with st:=22 })).length=H.length:=by simp
  rw[hlen]
  obtain⟨hl1,hl2⟩:=Zj2 (h':=Gh.live L' { tk with st:=22 }) hj
  refine iv.ti.mute (Z21 _) (fun op ho=>⟨hmute op ho,(hu op ho).2,fun a=>(hu op ho).1.2 _⟩) (fun n b hb=>?_) (fun n b hb=>?_) (fun n b hp hsb=>?_)
  ·by_cases e:n=i+1
   ·subst e;rw[hl1]at hb
    exact(iv.ti.own _ b (by rw[Yo hj];exact(hU.gW rfl rfl b).1 hb)).mute hmute
   ·rw[hl2 n e]at hb;exact(iv.ti.own n b hb).mute hmute
  ·by_cases e:n=i+1
   ·subst e;rw[hl1]at hb
    exact(iv.ti.rd _ b (by rw[Yo hj];exact(hU.gB rfl rfl b).1 hb)).mute hmute
   ·rw[hl2 n e]at hb;exact(iv.ti.rd n b hb).mute hmute
  ·obtain⟨x,hx,hp⟩:=hp
   refine(iv.ti.shp n b ?_ hsb).mute hmute
   rcases Zj hx with⟨rfl,rfl⟩|⟨_,c⟩
   ·exact⟨_,hj,by show tk.st≠25;omega⟩
   ·exact⟨x,c,hp⟩
 ·intro n x hn
  rw[Zhw t n u fun op ho=>(hu op ho).1]
  rcases Zj hn with⟨rfl,rfl⟩|⟨_,c⟩
  ·exact(show Deaf t (i+1)=0 from iv.deaf _ (.live L tk) hj)
  ·exact iv.deaf n x c
 ·intro n x hn hx
  rcases Zj hn with⟨rfl,rfl⟩|⟨_,c⟩
  ·cases hx
  ·refine V7 (iv.ho n x c hx) rfl (fun a=>a) fun m hm hgm=>?_
   obtain⟨op,q1,q2,_⟩:=Zf7 hm hgm
   exact Uo q2 (hmute op q1)
 ·intro n x hn
  rcases Zj hn with⟨rfl,rfl⟩|⟨_,c⟩
  ·show 20≤22∧22≤22;omega
  ·exact iv.ok n x c
 ·rcases Zj hn with⟨rfl,rfl⟩|⟨_,c⟩
  ·exact iv.old.own _ _ b hj ((hU.gW rfl rfl b).1 hwx) ho
  ·exact iv.old.own n x b c hwx ho
end
theorem Zd5{gs:Array Goroutine}{i j:Nat}{x:Goroutine}(h:(gs.setIfInBounds j ph)[i]?=some x)(hb:x.status=.blocked):i≠j∧gs[i]?=some x:=by
 rcases getElem?_stand gs j i x h with⟨rfl,rfl⟩|⟨a,b⟩
 ·cases hb
 ·exact⟨a,b⟩
section
variable{P:Program}{Φ:Goroutine→Za→Prop}{k:Zaz}{γ:Gm}{rs:List Rank}{H:List Gh}{L0:Za}{tm:Tk}{ws:List Gh}{gs:Array Goroutine}{w:World}{t:Trace}{sl:Option (Nat × Nat)}{j:Nat}
theorem Zau{X:Bool→Goroutine→Za→Prop}{g:Goroutine}{L:Za}{cases:Array CommCase}{shape:CommShape}(h:CmL X true g L cases shape):∃(t:Tk) (c0:CommCase) (z:Value),cases=#[c0,rcase t.back z]∧shape=.select∧t.st=0∧t.at_∈L.flatten∧t.b<t.many∧1≤t.n∧
  (c0=(if t.a=t.many then { chan:=.chan none,send:=some (.int .i64 (t.a:Nat)),zero:=.int .i64 0 } else scase t.todo (.int .i64 (t.a:Nat)) (.int .i64 0)))∧
  (t.a<t.many→∀L',Upd L t.todo t.obj ({ t with a:=t.a+1,l:=t.a::t.l }:Tk).obj L'→X true (Conc.served g (.tuple #[goInt 0,.bool false,z])) L')∧
  (∀i v bl L',i∈t.l→Tasks.R t.tag i v bl→Upd L t.todo t.obj ({ t with b:=t.b+1,l:=t.l.erase i }:Tk).obj L'→X true (Conc.served g (.tuple #[goInt 1,.bool true,v])) (bl::L')):=by
 cases h with
 | select t c0 z a b c d e f g=>exact⟨t,c0,z,rfl,rfl,a,b,c,d,e,f,g⟩
theorem Zei{X:Bool→Goroutine→Za→Prop}{g:Goroutine}{L:Za}{cases:Array CommCase}{shape:CommShape}(h:CmL X false g L cases shape):(∃(t:Tk) (z:Value),cases=#[rcase t.todo z]∧shape=.recv true∧t.st=20∧t.at_∈L.flatten∧
      (∀i L',t.b≤i→i<t.many→Upd L t.todo t.obj ({ t with st:=21,a:=i,b:=i+1 }:Tk).obj L'→X false (Conc.served g (.tuple #[.int .i64 (i:Nat),.bool true])) L')∧
      (∀L',Upd L t.todo t.obj ({ t with st:=22 }:Tk).obj L'→X false (Conc.served g (.tuple #[z,.bool false])) L'))∨
    ∃(t:Tk) (v z:Value) (bl:List Zp) (L1 L':Za),cases=#[scase t.back v z]∧shape=.send∧t.st=21∧Upd L t.todo t.obj ({ t with st:=20 }:Tk).obj L1∧LS (bl++L'.flatten) L1.flatten∧(∀p∈bl,Zet p.2=true)∧Tasks.R t.tag t.a v bl∧X false (Conc.served g undef) L':=by
  cases h with
  | recv t z a b c d=>exact .inl ⟨t,z,rfl,rfl,a,b,c,d⟩
  | send t v z bl a b c d e f=>exact .inr ⟨t,v,z,bl,_,_,rfl,rfl,a,b,c,d,e,f⟩
theorem Q4(P:Program)(g:Goroutine)(c0:CommCase)(c:Nat)(z v:Value)(hc:c0.send.isSome=true):g.finishComm P #[c0,rcase c z] .select 0 undef false=Conc.served g (.tuple #[goInt 0,.bool false,z])∧g.finishComm P #[c0,rcase c z] .select 1 v true=Conc.served g (.tuple #[goInt 1,.bool true,v]):=by
 have hn:c0.send.isNone=false:=by cases h:c0.send<;>simp_all
 constructor<;>simp[Goroutine.finishComm,commResult,Conc.served,hn,rcase]
theorem Zgp{γ:Gm}{w:World}(h:Shr γ w){c s d:Nat}{closed:Bool}(hc:c=γ.todo∧closed=γ.closed∨c=γ.back∧closed=false):Cnt γ w ((w.at d).setChan c 0 #[] closed (s+1) (s+1) false)∧Shr γ ((w.at d).setChan c 0 #[] closed (s+1) (s+1) false):=by
 have hlt:c<w.heap.size:=by rcases hc with⟨rfl,_⟩|⟨rfl,_⟩;exact h.lt (.inl rfl);exact h.lt (.inr (.inl rfl))
 have hat:((w.at d).setChan c 0 #[] closed (s+1) (s+1) false).heap[c]?=some (.chan 0 #[] closed (s+1) (s+1) false):=by
  show (w.heap.setIfInBounds c _)[c]?=_
  rw[Z2o hlt]
 have hne:∀b,b≠c→((w.at d).setChan c 0 #[] closed (s+1) (s+1) false).heap[b]?=w.heap[b]?:=fun b hb=>by
  show (w.heap.setIfInBounds c _)[b]?=_
  rw[Z2e (fun q=>hb q.symm)]
 refine⟨⟨by show (w.heap.setIfInBounds c _).size=_;simp,rfl,rfl,rfl,fun b hb=>hne b fun e=>hb ?_⟩,?_⟩
 ·rcases hc with⟨rfl,_⟩|⟨rfl,_⟩
  ·exact .inl e
  ·exact .inr (.inl e)
 ·obtain⟨⟨a,h1⟩,⟨b,h2⟩,h3,h4,h5,h6⟩:=h
  rcases hc with⟨rfl,rfl⟩|⟨rfl,rfl⟩
  ·exact⟨⟨s+1,hat⟩,⟨b,by rw[hne _ h4.symm];exact h2⟩,by rw[hne _ h5.symm];exact h3,h4,h5,h6⟩
  ·exact⟨⟨a,by rw[hne _ h4];exact h1⟩,⟨s+1,hat⟩,by rw[hne _ h6.symm];exact h3,h4,h5,h6⟩
theorem Zb7{a b c s n:Nat}{fa fb:FuncId}{pa pb:String}{snd:Bool}(ha:a<n)(hb:b<n):∀op∈Qa (fun x=>{ g:=a,fn:=fa,pos:=pa,act:=x }) (fun x=>{ g:=b,fn:=fb,pos:=pb,act:=x }) c s snd,Zu5 op∧op.g<n:=by
 intro op ho
 unfold Qa at ho
 split at ho<;>simp only[Z50,Z2h,Z4m,Z6j]at ho<;>rcases ho with rfl|rfl|rfl|rfl<;>exact⟨⟨rfl,fun m e=>by cases e⟩,by assumption⟩
theorem Zly{t:Trace}{a b c s n:Nat}{fa fb:FuncId}{pa pb:String}{snd:Bool}(ha:a<n)(hb:b<n)(h1:Deaf t a=0)(h2:Deaf t b=0){i:Nat}(hk:Knows t (if snd then a else b) i):
  Knows (t++Qa (fun x=>{ g:=a,fn:=fa,pos:=pa,act:=x }) (fun x=>{ g:=b,fn:=fb,pos:=pb,act:=x }) c s snd) (if snd then b else a) i:=by
 have hno:=Zb7 (c:=c) (s:=s) (fa:=fa) (fb:=fb) (pa:=pa) (pb:=pb) (snd:=snd) ha hb
 generalize hu:Qa (fun x=>({ g:=a,fn:=fa,pos:=pa,act:=x }:MemOp)) (fun x=>{ g:=b,fn:=fb,pos:=pb,act:=x }) c s snd=u at*
 have hl:u.toList.length=4:=by subst hu;unfold Qa;split<;>rfl
 have dd:∀m,m≤4→∀x,(t++u).deaf x (t.size+m)=Deaf t x:=fun m hm x=>by
  have:=Zzt t x u.toList (fun op ho=>(hno op (by simpa using ho)).1) (m:=m) (by omega)
  simpa using this
 have hget:∀m (hm:m<4),(t++u)[t.size+m]?=u[m]?:=fun m hm=>by rw[Z55 (by omega)];congr 1;omega
 cases snd with
 | true=>
  simp only[Z4d]at hk ⊢
  have e0:(t++u)[t.size+0]?=some { g:=a,fn:=fa,pos:=pa,act:=.send c s }:=by rw[hget 0 (by omega)];subst hu;rfl
  have e3:(t++u)[t.size+3]?=some { g:=b,fn:=fb,pos:=pb,act:=.recvDone c s }:=by rw[hget 3 (by omega)];subst hu;rfl
  exact Zld (by omega) e0 rfl rfl e3 rfl rfl ⟨a,by unfold Trace.g?;rw[e0];rfl,by rw[dd 0 (by omega)];exact h1⟩ ⟨b,by unfold Trace.g?;rw[e3];rfl,by rw[dd 3 (by omega)];exact h2⟩ hk
 | false=>
  simp only[Z2r,Z3h]at hk ⊢
  have e0:(t++u)[t.size+0]?=some { g:=b,fn:=fb,pos:=pb,act:=.send c s }:=by rw[hget 0 (by omega)];subst hu;rfl
  have e3:(t++u)[t.size+3]?=some { g:=a,fn:=fa,pos:=pa,act:=.recvDone c s }:=by rw[hget 3 (by omega)];subst hu;rfl
  exact Zld (by omega) e0 rfl rfl e3 rfl rfl ⟨b,by unfold Trace.g?;rw[e0];rfl,by rw[dd 0 (by omega)];exact h2⟩ ⟨a,by unfold Trace.g?;rw[e3];rfl,by rw[dd 3 (by omega)];exact h1⟩ hk
def Came(P:Program)(Φ:Goroutine→Za→Prop)(k:Zaz)(rs:List Rank)(gs:Array Goroutine)(w:World)(t:Trace)(sl:Option (Nat × Nat))(j:Nat):Prop:=
 (∃(γ:Gm) (H:List Gh) (L0:Za) (tm:Tk) (ws:List Gh) (g':Goroutine),runT P (crowd gs w sl) j=(.next (crowd (gs.setIfInBounds j g') w sl),#[])∧g'.status=.blocked∧Iv P Φ k γ rs H L0 tm ws (gs.setIfInBounds j g') w t)∨
 ∃γ' rs' H' L0' tm' ws' gs' w' ops,runT P (crowd gs w sl) j=(.next (crowd gs' w' sl),ops)∧Down rs' rs∧Iv P Φ k γ' rs' H' L0' tm' ws' gs' w' (t++ops)
theorem Down.meet{rs:List Rank}{i:Nat}{f:Nat→Goroutine→Za→Rank}(h:rs[0]?=some (.mk f))(n:Nat)(g:Goroutine)(L:Za)(y:Rank):Down ((rs.set 0 (f n g L)).set (i+1) y) rs:=by
 cases rs with
 | nil=>simp at h
 | cons a l=>simp at h;subst h;exact .main n g L
theorem Iv.parkStep(iv:Iv P Φ k γ rs H L0 tm ws gs w t){main:Bool}{L:Za}{tk:Tk}{f:Nat→Goroutine→Za→Rank}{g0:Goroutine}{cases:Array CommCase}{shape:CommShape}(hj:H[j]?=some (gh main L tk))(hr:rs[j]?=some (.mk f))(hr0:g0.status=.running)(hcl:γ.closed=false)
  (hst:∀k w,Sat k w L→stepG P main g0 w=.comm g0 cases true shape w #[])(hcm:CmL (fun m g' L'=>Rk P Φ (f (cond m 0 1) g' L') m g' L') main g0 L cases shape)
  (nm:∀g,(gs.setIfInBounds j (parked g0 cases shape))[0]?=some g→g.status=.blocked→tm.st=0→∀(i:Nat) gi,i≠0→(gs.setIfInBounds j (parked g0 cases shape))[i]?=some gi→gi.status=.blocked→tm.a=tm.many∧∃h,H[i]?=some h∧h.tk.st=20):
  Iv P Φ k γ rs H L0 tm ws (gs.setIfInBounds j (parked g0 cases shape)) w t:=by
 refine iv.setG hj hr ?_ nm
 cases main with
 | true=>exact .inr (.inl ⟨hcl,f,g0,cases,shape,rfl,rfl,hr0,hst,hcm⟩)
 | false=>exact .inr ⟨hcl,f,g0,cases,shape,rfl,rfl,hr0,hst,hcm⟩
theorem Zbm{i:Nat}{g' x:Goroutine}(h:(gs.setIfInBounds j g')[i]?=some x):(i=j∧x=g')∨(i≠j∧gs[i]?=some x):=by
 by_cases e:i=j
 ·subst e
  by_cases hlt:i<gs.size
  ·rw[Z2o hlt]at h;cases h;exact .inl ⟨rfl,rfl⟩
  ·rw[Z3u (by simpa using hlt)]at h;cases h
 ·rw[Z2e (fun q=>e q.symm)]at h
  exact .inr ⟨e,h⟩
theorem Zpg{w:World}{st:Array Goroutine}{c s:Nat}{closed:Bool}{z:Value}(hc:w.heap[c]?=some (.chan 0 #[] closed s s false))(h:ways w st (rcase c z)=[]):closed=false∧partners st c true=[]:=by
 simp only[ways,rcase,hc,Z31,Z23,gt_iff_lt,Nat.lt_irrefl,Z3h]at h
 cases hp:partners st c true with
 | nil=>rw[hp]at h;cases closed<;>simp_all
 | cons p ps=>rw[hp]at h;simp at h
theorem Zph{w:World}{st:Array Goroutine}{c s:Nat}{v z:Value}(hc:w.heap[c]?=some (.chan 0 #[] false s s false))(h:ways w st (scase c v z)=[]):partners st c false=[]:=by
 simp only[ways,scase,hc,Z2r,Z3h]at h
 cases hp:partners st c false with
 | nil=>rfl
 | cons p ps=>rw[hp]at h;simp at h
theorem Zc0{st:Array Goroutine}{c i n:Nat}{snd:Bool}{x:Goroutine}(h:partners st c snd=[])(hx:st[i]?=some x)(ho:n∈offersAt x c snd):False:=by
 have:(i,n)∈partners st c snd:=mem_partners.2 ⟨x,hx,ho⟩
 rw[h]at this;cases this
end
theorem gs3{gs:Array Goroutine}{a b:Nat}{x y:Goroutine}(hab:a≠b)(ha:a<gs.size)(hb:b<gs.size):(((gs.setIfInBounds a ph).setIfInBounds b y).setIfInBounds a x)[a]?=some x∧(((gs.setIfInBounds a ph).setIfInBounds b y).setIfInBounds a x)[b]?=some y∧
  (∀n,n≠a→n≠b→(((gs.setIfInBounds a ph).setIfInBounds b y).setIfInBounds a x)[n]?=gs[n]?)∧(((gs.setIfInBounds a ph).setIfInBounds b y).setIfInBounds a x).size=gs.size:=by
 refine⟨Z2o (by simpa using ha),?_,fun n h1 h2=>?_,by simp⟩
 ·rw[Z2e hab,Z2o (by simpa using hb)]
 ·rw[Z2e (fun q=>h1 q.symm),Z2e (fun q=>h2 q.symm),Z2e (fun q=>h1 q.symm)]
theorem Toks.open0{γ:Gm}{tm:Tk}{ts:List Tk}(h:Toks γ tm ts)(h0:tm.st=0):γ.closed=false∧tm.a≤tm.many∧tm.a=tm.b+tm.l.length∧List.Perm (Zdk ts) tm.l∧ts.countP Vw=tm.n∧∀t∈ts,t.st=20∨t.st=21∨t.st=25:=by
 rcases h.ph with⟨_,a,_,_,d,e,_,g1,g2,g3⟩|⟨a,_⟩|⟨a,_⟩|⟨a,_⟩|⟨a,_⟩<;>(try (exfalso;omega))
 exact⟨a,g3.1,g2,g1,e,d⟩
theorem Toks.open21{γ:Gm}{tm:Tk}{ts:List Tk}(h:Toks γ tm ts){t:Tk}(ht:t∈ts)(h21:t.st=21):γ.closed=false:=by
 rcases h.ph with⟨_,a,_⟩|⟨_,_,_,_,d,_⟩|⟨_,_,d,_⟩|⟨_,_,_,_,_,d⟩|⟨_,d⟩
 ·exact a
 ·have:=d t ht;omega
 ·exact absurd h21 (d t ht)
 ·have:=d t ht;omega
 ·have:=d t ht;omega
theorem Zi5{g:Goroutine}{r n:Nat}{snd:Bool}(h:n∈offersAt { g with status:=.blocked } r snd)(ho:g.offers=none):False:=by
 simp[offersAt,ho]at h
section
variable{P:Program}{Φ:Goroutine→Za→Prop}{k:Zaz}{γ:Gm}{rs:List Rank}{H:List Gh}{L0:Za}{tm:Tk}{ws:List Gh}{gs:Array Goroutine}{w:World}{t:Trace}{sl:Option (Nat × Nat)}{j:Nat}
theorem Iv.tkOf(iv:Iv P Φ k γ rs H L0 tm ws gs w t){h:Gh}{t2:Tk}(hj:H[j]?=some h)(ha:t2.at_∈h.L.flatten):t2=h.tk:=Tk.inj (iv.tok j h hj _ ha rfl)
theorem Iv.commWork(iv:Iv P Φ k γ rs H L0 tm ws gs w t){L:Za}{tk:Tk}{f:Nat→Goroutine→Za→Rank}{g g0:Goroutine}{cases:Array CommCase}{shape:CommShape}(hj:H[j]?=some (.live L tk))(hr:rs[j]?=some (.mk f))(hg:gs[j]?=some g)(hr0:g0.status=.running)
  (hst:∀k w,Sat k w L→stepG P false g w=.comm g0 cases true shape w #[])(hst0:∀k w,Sat k w L→stepG P false g0 w=.comm g0 cases true shape w #[])(hcm:CmL (fun m g' L'=>Rk P Φ (f (cond m 0 1) g' L') m g' L') false g0 L cases shape):Came P Φ k rs gs w t sl j:=by
 obtain⟨i,rfl,hwi,_,hmem,hi4⟩:=iv.isWork hj (fun L t e=>by cases e)
 have hmem:tk∈ws.map Gh.tk:=hmem
 have hok:20≤tk.st∧tk.st≤22:=iv.ok _ _ hj
 have h12:tm.st≠12:=iv.toks.up hmem (by omega)
 have hcmp:=iv.toks.cmpW hmem (by omega)
 have hshr:=iv.sh h12
 obtain⟨⟨s1,e1⟩,⟨s2,e2⟩,_,hap⟩:=iv.sh h12
 have hs:Sat k w L:=iv.sat _ _ hj
 have hlen:gs.size=H.length:=iv.gsz
 have hlt:i+1<H.length:=(Z2j.1 hj).1
 have hl0:0<H.length:=by omega
 have hstep:stepG P (i+1 == 0) g w=.comm g0 cases true shape w #[]:=hst k w hs
 have hcm0:=hcm
 have ne:(i+1)≠0:=by omega
 rcases Zei hcm with⟨t2,z,rfl,rfl,h20,hat,n1,n2⟩|⟨t2,v,z,bl,L1,L',rfl,rfl,h21,hU,hls,hbl,hR,hX⟩
 ·obtain rfl:t2=tk:=iv.tkOf hj hat
  have hch:(rcase t2.todo z).chan=.chan (some t2.todo):=rfl
  have etd:w.heap[t2.todo]?=some (.chan 0 #[] γ.closed s1 s1 false):=by rw[hcmp.1];exact e1
  have hunb:∀cc∈#[rcase t2.todo z],Unb w cc:=fun cc hc=>by
   simp at hc;subst hc
   exact .inr ⟨_,s1,γ.closed,rfl,etd,fun h=>by cases h⟩
  rcases Zhy (sl:=sl) hg hstep hunb with⟨hw,hrt⟩|⟨kk,cc,c,s,d,hk,hsn,hch2,hh,hp,hrt⟩|⟨kk,cc,c,s,closed,i',ki,d,v,v',ok,hk,hch2,hh,hp,hv,hrt⟩
  ·obtain⟨hcl,hp⟩:=Zpg etd (hw (rcase t2.todo z) (by simp))
   refine .inl ⟨γ,H,L0,tm,ws,_,hrt,rfl,iv.parkStep (main:=false) hj hr hr0 hcl hst0 hcm0 fun gg hg0 hb h00 n gn hn hgn hbn=>?_⟩
   have hg0':=(Zbm hg0).resolve_left (fun q=>ne q.1.symm) |>.2
   have hab:tm.a=tm.many:=by
    rcases iv.blockedM hg0' hb with⟨fm,g1,cs,sh,_,rfl,_,hc2⟩|⟨a,_⟩
    ·obtain⟨t3,c0,z0,rfl,rfl,_,hat3,_,_,hc0,_⟩:=Zau hc2
     obtain rfl:t3=tm:=iv.tkOf iv.main0 hat3
     apply Z4e
     intro hne
     rw[Z16 hne]at hc0
     refine Zc0 (i:=0) (n:=0) hp (by rw[Z2e ne];exact hg0') (offers_mem.2 ⟨c0,rfl,by rw[hc0];rfl,?_⟩)
     rw[hc0,hcmp.1,← (iv.toks.main h12).1];rfl
    ·omega
   refine⟨hab,?_⟩
   by_cases e:n=i+1
   ·subst e;exact⟨_,hj,h20⟩
   ·exact(iv.nm gg hg0' hb h00 n gn hn ((Zbm hgn).resolve_left (fun q=>e q.1) |>.2) hbn).2
  ·have hk':cc=rcase t2.todo z∧kk=0:=by
    have:=(Z2g.1 hk)
    obtain⟨h1,h2⟩:=this
    simp at h1;subst h1;exact⟨h2.symm,rfl⟩
   obtain⟨rfl,rfl⟩:=hk'
   have hc2:t2.todo=c:=by cases hch2;rfl
   subst hc2
   have hcl:γ.closed=true:=by
    have:=etd.symm.trans hh
    simp only[Z5u,Obj.chan.injEq]at this
    exact this.2.2.1
   have hfin:g0.finishComm P #[rcase t2.todo z] (.recv true) ((0:Nat):Int) (rcase t2.todo z).zero false=Conc.served g0 (.tuple #[z,.bool false]):=rfl
   rw[hfin]at hrt
   obtain⟨L2,ws',hiv⟩:=(iv.at d).shutStep (u:=#[{ g:=i+1,fn:=g0.frame.fn,pos:=g0.frame.place,act:=.recvClosed t2.todo }]) hj hr hg h20 hcl hat (g':=Conc.served g0 (.tuple #[z,.bool false])) rfl (fun op ho=>by
    simp at ho;subst ho;exact⟨⟨rfl,fun m e=>by cases e⟩,hlt⟩) n2
   exact .inr ⟨_,_,_,_,_,_,_,_,_,hrt,.set hr _ _ _,hiv⟩
  ·have hk':cc=rcase t2.todo z∧kk=0:=by
    obtain⟨h1,h2⟩:=(Z2g.1 hk)
    simp at h1;subst h1;exact⟨h2.symm,rfl⟩
   obtain⟨rfl,rfl⟩:=hk'
   have hc2:t2.todo=c:=by cases hch2;rfl
   subst hc2
   obtain⟨x,hx,ho⟩:=mem_partners.1 hp
   obtain⟨hij,hxg⟩:=Zd5 hx (Xu ho)
   have ho:ki∈offersAt x t2.todo true:=ho
   by_cases hi0:i'=0
   ·subst hi0
    rcases iv.blockedM hxg (Xu ho)with⟨fm,g1,cs,sh,hrm,rfl,hr1,hc2⟩|⟨_,_,g1,rfl,hof⟩
    ·obtain⟨t3,c0,z0,rfl,rfl,h30,hat3,_,_,hc0,hN1,_⟩:=Zau hc2
     obtain rfl:t3=tm:=iv.tkOf iv.main0 hat3
     obtain⟨cc,hcc,hss,hcch⟩:=offers_mem.1 ho
     have hki:ki=0∧cc=c0:=by
      obtain⟨h1,h2⟩:=(Z2g.1 hcc)
      simp at h1
      rcases (show ki=0∨ki=1 by omega)with rfl|rfl
      ·exact⟨rfl,h2.symm⟩
      ·simp at h2;subst h2;cases hss
     obtain⟨rfl,rfl⟩:=hki
     have hlo:=iv.toks.open0 h30
     have hne:t3.a≠t3.many:=fun e=>by rw[Z2d e]at hc0;rw[hc0]at hcch;cases hcch
     rw[Z16 hne]at hc0
     have hlt3:t3.a<t3.many:=by omega
     have hsome:cc.send.isSome=true:=by rw[hc0];rfl
     obtain⟨hv1,hv2,hv3⟩:=hv
     have hov:offeredValue (gs.setIfInBounds (i+1) ph) 0 0=.int .i64 (t3.a:Nat):=by
      simp[offeredValue,hx,parked,hc0,scase]
     have hfp:=finishPartner_at P (gs.setIfInBounds (i+1) ph) hx (cs:=#[cc,rcase t3.back z0]) (sh:=.select) rfl 0 undef
     have hgm:(parked g1 #[cc,rcase t3.back z0] .select).finishComm P #[cc,rcase t3.back z0] .select ((0:Nat):Int) undef ((((#[cc,rcase t3.back z0]:Array CommCase)[0]?).map (·.send.isNone)).getD false)=Conc.served g1 (.tuple #[goInt 0,.bool false,z0]):=by
      have:((((#[cc,rcase t3.back z0]:Array CommCase)[0]?).map (·.send.isNone)).getD false)=false:=by simp[hc0,scase]
      rw[this]
      exact(Q4 P g1 cc t3.back z0 undef hsome).1
     rw[hv2,hfp,hgm,hv1,hov,hv3]at hrt
     obtain⟨q1,q2,q3,q4⟩:=gs3 (gs:=gs) (a:=i+1) (b:=0) (x:=g0.finishComm P #[rcase t2.todo z] (.recv true) ((0:Nat):Int) (.int .i64 (t3.a:Nat)) true) (y:=Conc.served g1 (.tuple #[goInt 0,.bool false,z0])) ne (by omega) (by omega)
     have hcc2:=Zgp hshr (c:=t2.todo) (s:=s) (d:=d) (closed:=closed) (.inl ⟨hcmp.1,by rw[etd]at hh;cases hh;rfl⟩)
     obtain⟨n1',L1',n2',L2',H',L0',tm',ws',hiv⟩:=iv.task hj h30 h20 hlt3 hat3 hat q4 q2 q1 (fun n a b=>q3 n b a) rfl rfl hcc2.1 hcc2.2 (Zb7 (c:=t2.todo) (s:=s) (fa:=g0.frame.fn) (pa:=g0.frame.place) (fb:=((gs.setIfInBounds (i+1) ph).getD 0 default).frame.fn) (pb:=((gs.setIfInBounds (i+1) ph).getD 0 default).frame.place) (snd:=false) hlt hl0)
      (fun L' hL=>hN1 hlt3 L' hL) (fun L' hL=>n1 t3.a L' (iv.toks.low h30 hmem (by omega)) (by
       have:=(iv.toks.same t2 hmem (by omega)).2.2.2.2
       rw[this];exact hlt3) hL)
     exact .inr ⟨_,_,_,_,_,_,_,_,_,hrt,.meet hrm _ _ _ _,hiv⟩
    ·exact(Zi5 ho hof).elim
   ·obtain⟨n,Lx,tx,fx,g1,cs,sh,rfl,hHx,_,rfl,_,hc2⟩:=iv.blockedW hi0 hxg (Xu ho)
    obtain⟨cc,hcc,hss,hcch⟩:=offers_mem.1 ho
    rcases Zei hc2 with⟨t3,z3,rfl,rfl,_⟩|⟨t3,v3,z3,_,L3,_,rfl,rfl,_,hU3,_⟩
    ·obtain⟨h1,h2⟩:=(Z2g.1 hcc)
     simp at h1;subst h1;simp at h2;subst h2;cases hss
    ·obtain⟨h1,h2⟩:=(Z2g.1 hcc)
     simp at h1;subst h1;simp at h2;subst h2
     obtain rfl:t3=tx:=iv.tkOf hHx hU3.mem
     obtain⟨_,_,_,_,hmx,_⟩:=iv.isWork hHx (fun L t e=>by cases e)
     have hkx:20≤t3.st∧t3.st≤22:=iv.ok _ _ hHx
     have:=iv.toks.cmpW hmx (show t3.st≠25 by omega)
     simp[scase]at hcch
     exact absurd (hcmp.1.symm.trans (hcch.symm.trans this.2.1)) hap.1
 ·obtain rfl:t2=tk:=iv.tkOf hj hU.mem
  have ebk:w.heap[t2.back]?=some (.chan 0 #[] false s2 s2 false):=by rw[hcmp.2.1];exact e2
  have hcl:=iv.toks.open21 hmem h21
  have hunb:∀cc∈#[scase t2.back v z],Unb w cc:=fun cc hc=>by
   simp at hc;subst hc
   exact .inr ⟨_,s2,false,rfl,ebk,fun _=>rfl⟩
  rcases Zhy (sl:=sl) hg hstep hunb with⟨hw,hrt⟩|⟨kk,cc,c,s,d,hk,hsn,hch2,hh,hp,hrt⟩|⟨kk,cc,c,s,closed,i',ki,d,vv,v',ok,hk,hch2,hh,hp,hv,hrt⟩
  ·have hp:=Zph ebk (hw (scase t2.back v z) (by simp))
   refine .inl ⟨γ,H,L0,tm,ws,_,hrt,rfl,iv.parkStep (main:=false) hj hr hr0 hcl hst0 hcm0 fun gg hg0 hb h00 n gn hn hgn hbn=>?_⟩
   have hg0':=(Zbm hg0).resolve_left (fun q=>ne q.1.symm) |>.2
   exfalso
   rcases iv.blockedM hg0' hb with⟨fm,g1,cs,sh,_,rfl,_,hc2⟩|⟨a,_⟩
   ·obtain⟨t3,c0,z0,rfl,rfl,_,hat3,_,_,hc0,_⟩:=Zau hc2
    obtain rfl:t3=tm:=iv.tkOf iv.main0 hat3
    refine Zc0 (i:=0) (n:=1) hp (by rw[Z2e ne];exact hg0') (offers_mem.2 ⟨rcase t3.back z0,rfl,rfl,?_⟩)
    rw[hcmp.2.1,← (iv.toks.main h12).2.1];rfl
   ·omega
  ·exfalso
   obtain⟨h1,h2⟩:=(Z2g.1 hk)
   simp at h1;subst h1;simp at h2;subst h2;cases hsn
  ·have hk':cc=scase t2.back v z∧kk=0:=by
    obtain⟨h1,h2⟩:=(Z2g.1 hk)
    simp at h1;subst h1;exact⟨h2.symm,rfl⟩
   obtain⟨rfl,rfl⟩:=hk'
   have hc2:t2.back=c:=by cases hch2;rfl
   subst hc2
   obtain⟨x,hx,ho⟩:=mem_partners.1 hp
   obtain⟨hij,hxg⟩:=Zd5 hx (Xu ho)
   have ho:ki∈offersAt x t2.back false:=ho
   by_cases hi0:i'=0
   ·subst hi0
    rcases iv.blockedM hxg (Xu ho)with⟨fm,g1,cs,sh,hrm,rfl,hr1,hc2⟩|⟨_,_,g1,rfl,hof⟩
    ·obtain⟨t3,c0,z0,rfl,rfl,h30,hat3,_,_,hc0,_,hN2⟩:=Zau hc2
     obtain rfl:t3=tm:=iv.tkOf iv.main0 hat3
     obtain⟨cc,hcc,hss,hcch⟩:=offers_mem.1 ho
     have hsome:c0.send.isSome=true:=by rw[hc0];split<;>rfl
     have hki:ki=1∧cc=rcase t3.back z0:=by
      obtain⟨h1,h2⟩:=(Z2g.1 hcc)
      simp at h1
      rcases (show ki=0∨ki=1 by omega)with rfl|rfl
      ·simp at h2;subst h2;rw[hsome]at hss;cases hss
      ·exact⟨rfl,h2.symm⟩
     obtain⟨rfl,rfl⟩:=hki
     obtain⟨hv1,hv2,hv3⟩:=hv
     have hfp:=finishPartner_at P (gs.setIfInBounds (i+1) ph) hx (cs:=#[c0,rcase t3.back z0]) (sh:=.select) rfl 1 v
     have hgm:(parked g1 #[c0,rcase t3.back z0] .select).finishComm P #[c0,rcase t3.back z0] .select ((1:Nat):Int) v ((((#[c0,rcase t3.back z0]:Array CommCase)[1]?).map (·.send.isNone)).getD false)=Conc.served g1 (.tuple #[goInt 1,.bool true,v]):=
      (Q4 P g1 c0 t3.back z0 v hsome).2
     rw[hv2,hfp,hgm,hv1,hv3]at hrt
     obtain⟨q1,q2,q3,q4⟩:=gs3 (gs:=gs) (a:=i+1) (b:=0) (x:=g0.finishComm P #[scase t2.back v z] .send ((0:Nat):Int) undef false) (y:=Conc.served g1 (.tuple #[goInt 1,.bool true,v])) ne (by omega) (by omega)
     have hcc2:=Zgp hshr (c:=t2.back) (s:=s) (d:=d) (closed:=closed) (.inr ⟨hcmp.2.1,by rw[ebk]at hh;cases hh;rfl⟩)
     have hd1:Deaf t (i+1)=0:=iv.deaf _ _ hj
     have hd0:Deaf t 0=0:=by rw[iv.deaf 0 _ iv.main0];simp[Gh.df,Zvm,h30]
     obtain⟨n1',L1',n2',L2',H',L0',tm',ws',hiv⟩:=iv.done (u:=Qa _ _ t2.back s true) hj h30 h21 hat3 hU hls hbl hR q4 q2 q1 (fun n a b=>q3 n b a) rfl rfl hcc2.1 hcc2.2 (Zb7 (fa:=g0.frame.fn) (pa:=g0.frame.place) (fb:=((gs.setIfInBounds (i+1) ph).getD 0 default).frame.fn) (pb:=((gs.setIfInBounds (i+1) ph).getD 0 default).frame.place) hlt hl0)
      (fun i bl L' a b c=>hN2 i v bl L' a b c) hX (fun n hn=>Zly (snd:=true) hlt hl0 hd1 hd0 hn)
     exact .inr ⟨_,_,_,_,_,_,_,_,_,hrt,.meet hrm _ _ _ _,hiv⟩
    ·exact(Zi5 ho hof).elim
   ·obtain⟨n,Lx,tx,fx,g1,cs,sh,rfl,hHx,_,rfl,_,hc2⟩:=iv.blockedW hi0 hxg (Xu ho)
    obtain⟨cc,hcc,hss,hcch⟩:=offers_mem.1 ho
    rcases Zei hc2 with⟨t3,z3,rfl,rfl,h320,hat3,_⟩|⟨t3,v3,z3,_,L3,_,rfl,rfl,_,hU3,_⟩
    ·obtain⟨h1,h2⟩:=(Z2g.1 hcc)
     simp at h1;subst h1;simp at h2;subst h2
     obtain rfl:t3=tx:=iv.tkOf hHx hat3
     obtain⟨_,_,_,_,hmx,_⟩:=iv.isWork hHx (fun L t e=>by cases e)
     have:=iv.toks.cmpW hmx (show t3.st≠25 by omega)
     simp[rcase]at hcch
     exact absurd (this.1.symm.trans (hcch.trans hcmp.2.1)) hap.1
    ·obtain⟨h1,h2⟩:=(Z2g.1 hcc)
     simp at h1;subst h1;simp at h2;subst h2;cases hss
end
section
variable{P:Program}{Φ:Goroutine→Za→Prop}{k:Zaz}{γ:Gm}{rs:List Rank}{H:List Gh}{L0:Za}{tm:Tk}{ws:List Gh}{gs:Array Goroutine}{w:World}{t:Trace}{sl:Option (Nat × Nat)}{j:Nat}
theorem Iv.commMain(iv:Iv P Φ k γ rs H L0 tm ws gs w t){f:Nat→Goroutine→Za→Rank}{g g0:Goroutine}{cases:Array CommCase}{shape:CommShape}(hr:rs[0]?=some (.mk f))(hg:gs[0]?=some g)(hr0:g0.status=.running)
  (hst:∀k w,Sat k w L0→stepG P true g w=.comm g0 cases true shape w #[])(hst0:∀k w,Sat k w L0→stepG P true g0 w=.comm g0 cases true shape w #[])(hcm:CmL (fun m g' L'=>Rk P Φ (f (cond m 0 1) g' L') m g' L') true g0 L0 cases shape):Came P Φ k rs gs w t sl 0:=by
 have hj:=iv.main0
 have hs:Sat k w L0:=iv.sat 0 _ hj
 have hlen:gs.size=H.length:=iv.gsz
 have hl0:0<H.length:=(Z2j.1 hj).1
 have hstep:stepG P (0 == 0) g w=.comm g0 cases true shape w #[]:=hst k w hs
 have hcm0:=hcm
 obtain⟨t2,c0,z,rfl,rfl,h0,hat,hbm,hn1,hc0,hN1,hN2⟩:=Zau hcm
 obtain rfl:t2=tm:=iv.tkOf hj hat
 have h12:t2.st≠12:=by omega
 have hcmp:=iv.toks.cmpM h12
 have hshr:=iv.sh h12
 obtain⟨⟨s1,e1⟩,⟨s2,e2⟩,_,hap⟩:=iv.sh h12
 obtain⟨hcl,hle,_,_,_,_⟩:=iv.toks.open0 h0
 rw[hcl]at e1
 have etd:w.heap[t2.todo]?=some (.chan 0 #[] false s1 s1 false):=by rw[hcmp.1];exact e1
 have ebk:w.heap[t2.back]?=some (.chan 0 #[] false s2 s2 false):=by rw[hcmp.2.1];exact e2
 have hsome:c0.send.isSome=true:=by rw[hc0];split<;>rfl
 have hd0:Deaf t 0=0:=by rw[iv.deaf 0 _ hj];simp[Gh.df,Zvm,h0]
 have hunb:∀cc∈#[c0,rcase t2.back z],Unb w cc:=fun cc hc=>by
  simp at hc
  rcases hc with rfl|rfl
  ·rw[hc0]
   split
   ·exact .inl rfl
   ·exact .inr ⟨_,s1,false,rfl,etd,fun _=>rfl⟩
  ·exact .inr ⟨_,s2,false,rfl,ebk,fun h=>by cases h⟩
 rcases Zhy (sl:=sl) hg hstep hunb with⟨hw,hrt⟩|⟨kk,cc,c,s,d,hk,hsn,hch2,hh,hp,hrt⟩|⟨kk,cc,c,s,closed,i',ki,d,vv,v',ok,hk,hch2,hh,hp,hv,hrt⟩
 ·have hp2:=(Zpg ebk (hw (rcase t2.back z) (by simp))).2
  refine .inl ⟨γ,H,L0,t2,ws,_,hrt,rfl,iv.parkStep (main:=true) hj hr hr0 hcl hst0 hcm0 fun gg hg0 hb h00 n gn hn hgn hbn=>?_⟩
  have hgn':=(Zbm hgn).resolve_left (fun q=>hn q.1) |>.2
  obtain⟨m,Lx,tx,fx,g1,cs,sh,rfl,hHx,_,rfl,_,hc2⟩:=iv.blockedW hn hgn' hbn
  obtain⟨_,_,_,_,hmx,_⟩:=iv.isWork hHx (fun L t e=>by cases e)
  have hkx:20≤tx.st∧tx.st≤22:=iv.ok _ _ hHx
  have hcx:=iv.toks.cmpW hmx (show tx.st≠25 by omega)
  have hstd:(gs.setIfInBounds 0 ph)[m+1]?=some (parked g1 cs sh):=by rw[Z2e (by omega)];exact hgn'
  rcases Zei hc2 with⟨t3,z3,rfl,rfl,h320,hat3,_⟩|⟨t3,v3,z3,_,L3,_,rfl,rfl,_,hU3,_⟩
  ·obtain rfl:t3=tx:=iv.tkOf hHx hat3
   refine⟨?_,_,hHx,h320⟩
   apply Z4e
   intro hne
   rw[Z16 hne]at hc0
   have hp1:=Zph etd (by rw[← hc0];exact hw c0 (by simp))
   exact Zc0 (n:=0) hp1 hstd (offers_mem.2 ⟨_,rfl,rfl,by rw[hcmp.1,← hcx.1];rfl⟩)
  ·obtain rfl:t3=tx:=iv.tkOf hHx hU3.mem
   exact(Zc0 (n:=0) hp2 hstd (offers_mem.2 ⟨_,rfl,rfl,by rw[hcmp.2.1,← hcx.2.1];rfl⟩)).elim
 ·exfalso
  obtain⟨h1,h2⟩:=(Z2g.1 hk)
  simp at h1
  rcases (show kk=0∨kk=1 by omega)with rfl|rfl
  ·simp at h2;subst h2;rw[hsn]at hsome;cases hsome
  ·simp at h2;subst h2
   have:t2.back=c:=by cases hch2;rfl
   subst this
   rw[ebk]at hh;cases hh
 ·obtain⟨h1,h2⟩:=(Z2g.1 hk)
  simp at h1
  obtain⟨x,hx,ho⟩:=mem_partners.1 hp
  obtain⟨hi0,hxg⟩:=Zd5 hx (Xu ho)
  obtain⟨m,Lx,tx,fx,g1,cs,sh,rfl,hHx,hrx,rfl,_,hc2⟩:=iv.blockedW hi0 hxg (Xu ho)
  obtain⟨_,_,_,_,hmx,_⟩:=iv.isWork hHx (fun L t e=>by cases e)
  have hkx:20≤tx.st∧tx.st≤22:=iv.ok _ _ hHx
  have hcx:=iv.toks.cmpW hmx (show tx.st≠25 by omega)
  have hltm:m+1<H.length:=(Z2j.1 hHx).1
  obtain⟨cc2,hcc,hss,hcch⟩:=offers_mem.1 ho
  rcases (show kk=0∨kk=1 by omega)with rfl|rfl
  ·simp at h2;subst h2
   have hne:t2.a≠t2.many:=fun e=>by rw[Z2d e]at hc0;rw[hc0]at hch2;cases hch2
   rw[Z16 hne]at hc0
   have hlt3:t2.a<t2.many:=by omega
   have hc3:t2.todo=c:=by rw[hc0]at hch2;cases hch2;rfl
   subst hc3
   have hcn:c0.send=some (.int .i64 (t2.a:Nat)):=by rw[hc0];rfl
   rw[hcn]at hv hss hrt
   obtain⟨hv1,hv2,hv3⟩:=hv
   rcases Zei hc2 with⟨t3,z3,rfl,rfl,h320,hat3,n1,_⟩|⟨t3,v3,z3,_,L3,_,rfl,rfl,_,hU3,_⟩
   ·obtain rfl:t3=tx:=iv.tkOf hHx hat3
    have hki:ki=0:=by
     obtain⟨q1,q2⟩:=(Z2g.1 hcc)
     simpa using q1
    subst hki
    have hfp:=finishPartner_at P (gs.setIfInBounds 0 ph) hx (cs:=#[rcase t3.todo z3]) (sh:=.recv true) rfl 0 (.int .i64 (t2.a:Nat))
    have hgm:(parked g1 #[rcase t3.todo z3] (.recv true)).finishComm P #[rcase t3.todo z3] (.recv true) ((0:Nat):Int) (.int .i64 (t2.a:Nat)) ((((#[rcase t3.todo z3]:Array CommCase)[0]?).map (·.send.isNone)).getD false)=Conc.served g1 (.tuple #[.int .i64 (t2.a:Nat),.bool true]):=rfl
    rw[hv2,hfp,hgm,hv1,hv3]at hrt
    have hgm2:=(Q4 P g0 c0 t2.back z undef hsome).1
    have hrt2:runT P (crowd gs w sl) 0=_:=hrt
    rw[show g0.finishComm P #[c0,rcase t2.back z] .select ((0:Nat):Int) undef false=Conc.served g0 (.tuple #[goInt 0,.bool false,z]) from hgm2]at hrt2
    obtain⟨q1,q2,q3,q4⟩:=gs3 (gs:=gs) (a:=0) (b:=m+1) (x:=Conc.served g0 (.tuple #[goInt 0,.bool false,z])) (y:=Conc.served g1 (.tuple #[.int .i64 (t2.a:Nat),.bool true])) (by omega) (by omega) (by omega)
    have hcc2:=Zgp hshr (c:=t2.todo) (s:=s) (d:=d) (closed:=closed) (.inl ⟨hcmp.1,by rw[etd]at hh;cases hh;rw[hcl]⟩)
    obtain⟨n1',L1',n2',L2',H',L0',tm',ws',hiv⟩:=iv.task (u:=Qa _ _ t2.todo s true) hHx h0 h320 hlt3 hat hat3 q4 q1 q2 q3 rfl rfl hcc2.1 hcc2.2 (Zb7 (fa:=g0.frame.fn) (pa:=g0.frame.place) (fb:=((gs.setIfInBounds 0 ph).getD (m+1) default).frame.fn) (pb:=((gs.setIfInBounds 0 ph).getD (m+1) default).frame.place) hl0 hltm)
     (fun L' hL=>hN1 hlt3 L' hL) (fun L' hL=>n1 t2.a L' (iv.toks.low h0 hmx (show t3.st≠25 by omega)) (by
      have:=(iv.toks.same t3 hmx (show t3.st≠25 by omega)).2.2.2.2
      rw[this];exact hlt3) hL)
    exact .inr ⟨_,_,_,_,_,_,_,_,_,hrt2,.meet hr _ _ _ _,hiv⟩
   ·exfalso
    obtain⟨q1,q2⟩:=(Z2g.1 hcc)
    simp at q1;subst q1;simp at q2;subst q2;cases hss
  ·simp at h2;subst h2
   have hc3:t2.back=c:=by cases hch2;rfl
   subst hc3
   have hss:cc2.send.isSome=true:=hss
   rcases Zei hc2 with⟨t3,z3,rfl,rfl,h320,hat3,n1,_⟩|⟨t3,v3,z3,bl,L3,L4,rfl,rfl,h321,hU3,hls,hbl,hR,hX⟩
   ·exfalso
    obtain⟨q1,q2⟩:=(Z2g.1 hcc)
    simp at q1;subst q1;simp at q2;subst q2;cases hss
   ·obtain rfl:t3=tx:=iv.tkOf hHx hU3.mem
    have hki:ki=0:=by
     obtain⟨q1,q2⟩:=(Z2g.1 hcc)
     simpa using q1
    subst hki
    obtain⟨hv1,hv2,hv3⟩:=hv
    have hov:offeredValue (gs.setIfInBounds 0 ph) (m+1) 0=v3:=by simp[offeredValue,hx,parked,scase]
    have hfp:=finishPartner_at P (gs.setIfInBounds 0 ph) hx (cs:=#[scase t3.back v3 z3]) (sh:=.send) rfl 0 undef
    have hgm:(parked g1 #[scase t3.back v3 z3] .send).finishComm P #[scase t3.back v3 z3] .send ((0:Nat):Int) undef ((((#[scase t3.back v3 z3]:Array CommCase)[0]?).map (·.send.isNone)).getD false)=Conc.served g1 undef:=rfl
    rw[hv2,hfp,hgm,hv1,hov,hv3]at hrt
    have hgm2:=(Q4 P g0 c0 t2.back z v3 hsome).2
    have hrt2:runT P (crowd gs w sl) 0=_:=hrt
    rw[show g0.finishComm P #[c0,rcase t2.back z] .select ((1:Nat):Int) v3 true=Conc.served g0 (.tuple #[goInt 1,.bool true,v3]) from hgm2]at hrt2
    obtain⟨q1,q2,q3,q4⟩:=gs3 (gs:=gs) (a:=0) (b:=m+1) (x:=Conc.served g0 (.tuple #[goInt 1,.bool true,v3])) (y:=Conc.served g1 undef) (by omega) (by omega) (by omega)
    have hcc2:=Zgp hshr (c:=t2.back) (s:=s) (d:=d) (closed:=closed) (.inr ⟨hcmp.2.1,by rw[ebk]at hh;cases hh;rfl⟩)
    have hd1:Deaf t (m+1)=0:=iv.deaf _ _ hHx
    obtain⟨n1',L1',n2',L2',H',L0',tm',ws',hiv⟩:=iv.done (u:=Qa _ _ t2.back s false) hHx h0 h321 hat hU3 hls hbl hR q4 q1 q2 q3 rfl rfl hcc2.1 hcc2.2 (Zb7 (fa:=g0.frame.fn) (pa:=g0.frame.place) (fb:=((gs.setIfInBounds 0 ph).getD (m+1) default).frame.fn) (pb:=((gs.setIfInBounds 0 ph).getD (m+1) default).frame.place) hl0 hltm)
     (fun i bl L' a b c=>hN2 i v3 bl L' a b c) hX (fun n hn=>Zly (snd:=false) hl0 hltm hd0 hd1 hn)
    exact .inr ⟨_,_,_,_,_,_,_,_,_,hrt2,.meet hr _ _ _ _,hiv⟩
end
/-! ### every way down ends -/
def Wd(l' l:List Rank):Prop:=∃(i:Nat) (f:Nat→Goroutine→Za→Rank) (n:Nat) (g:Goroutine) (L:Za),l[i]?=some (.mk f)∧l'=l.set i (f n g L)
theorem wd_nil:Acc Wd []:=⟨_,fun y ⟨i,f,n,g,L,h,_⟩=>by simp at h⟩
theorem wd_cons:∀(x:Rank) (l:List Rank),Acc Wd l→Acc Wd (x::l):=by
 intro x
 induction x with
 | z=>
  intro l hl
  induction hl with
  | intro l h ih=>
   refine⟨_,fun y ⟨i,f,n,g,L,h1,h2⟩=>?_⟩
   subst h2
   cases i with
   | zero=>simp at h1
   | succ i=>exact ih _ ⟨i,f,n,g,L,by simpa using h1,rfl⟩
 | mk f ihf=>
  intro l hl
  induction hl with
  | intro l h ih=>
   refine⟨_,fun y ⟨i,f',n,g,L,h1,h2⟩=>?_⟩
   subst h2
   cases i with
   | zero=>simp at h1;subst h1;exact ihf n g L l ⟨l,h⟩
   | succ i=>exact ih _ ⟨i,f',n,g,L,by simpa using h1,rfl⟩
theorem Zxq:∀l,Acc Wd l
 | []=>wd_nil
 | x::l=>wd_cons x l (Zxq l)
theorem Zzv:∀(r:Rank) (l:List Rank),Acc Down (r::l):=by
 intro r
 induction r with
 | z=>
  intro l
  have hl:=Zxq l
  induction hl with
  | intro l h ih=>
   refine⟨_,fun y hy=>?_⟩
   cases hy with
   | work n g L h1=>exact ih _ ⟨_,_,n,g,L,h1,rfl⟩
 | mk f ihf=>
  intro l
  have hl:=Zxq l
  induction hl with
  | intro l h ih=>
   refine⟨_,fun y hy=>?_⟩
   cases hy with
   | main n g L=>exact ihf n g L _
   | work n g L h1=>exact ih _ ⟨_,_,n,g,L,h1,rfl⟩
theorem down_acc:∀rs,Acc Down rs
 | []=>⟨_,fun y hy=>by cases hy⟩
 | r::l=>Zzv r l
/-! ### how many may still stop to wait -/
def up(g:Goroutine):Bool:=match g.status with|.blocked=>false|_=>true
def nb(gs:Array Goroutine):Nat:=gs.toList.countP up
theorem nb_less{gs:Array Goroutine}{j:Nat}{g g':Goroutine}(hg:gs[j]?=some g)(hu:g.status=.running)(hb:g'.status=.blocked):nb (gs.setIfInBounds j g')<nb gs:=by
 have h1:gs.toList[j]?=some g:=by simpa using hg
 have h2:(gs.setIfInBounds j g').toList=gs.toList.set j g':=by simp
 have key:∀(l:List Goroutine) (j:Nat),l[j]?=some g→(l.set j g').countP up<l.countP up:=by
  intro l
  induction l with
  | nil=>intro j h;simp at h
  | cons x l ih=>
   intro j h
   cases j with
   | zero=>
    simp at h;subst h
    have e1:up x=true:=by simp[up,hu]
    have e2:up g'=false:=by simp[up,hb]
    simp[List.countP_cons,e1,e2]
   | succ j=>
    have:=ih j (by simpa using h)
    simp only[Z6e,List.countP_cons]
    omega
 unfold nb
 rw[h2]
 exact key _ j h1
section
variable{P:Program}{Φ:Goroutine→Za→Prop}{k:Zaz}{γ:Gm}{rs:List Rank}{H:List Gh}{L0:Za}{tm:Tk}{ws:List Gh}{gs:Array Goroutine}{w:World}{t:Trace}{sl:Option (Nat × Nat)}{j:Nat}
def Ghost(P:Program)(Φ:Goroutine→Za→Prop)(k:Zaz)(rs:List Rank)(gs:Array Goroutine)(w:World)(t:Trace):Prop:=
 ∃(γ:Gm) (rs':List Rank) (H:List Gh) (L0:Za) (tm:Tk) (ws:List Gh),Down rs' rs∧Iv P Φ k γ rs' H L0 tm ws gs w t
theorem Only.refl{γ:Gm}{w:World}:Only γ w w:=⟨rfl,rfl,rfl,rfl,fun _ _ _=>rfl⟩
theorem Iv.step(iv:Iv P Φ k γ rs H L0 tm ws gs w t){g:Goroutine}(hg:gs[j]?=some g)(hrun:g.status=.running):(j=0∧Φ g L0)∨Ghost P Φ k rs gs w t∨Came P Φ k rs gs w t sl j:=by
 obtain⟨h,r,hH,hR,hS⟩:=iv.got hg
 have actor:∀(main:Bool) (L:Za) (tk:Tk) (f:Nat→Goroutine→Za→Rank),r=.mk f→h=gh main L tk→StL P (fun m g' L'=>Rk P Φ (f (cond m 0 1) g' L') m g' L') (fun g' t'=>TlR P (f 2 g' [[t'.at_]]) g' t') main g L→Ghost P Φ k rs gs w t∨Came P Φ k rs gs w t sl j:=by
  rintro main L tk f rfl rfl hst
  obtain⟨hm,hmt,hcm,hin,_⟩:=iv.actor hH
  have hs:Sat k w L:=by have:=iv.sat j _ hH;rwa [Zp5]at this
  have htk:∀t2:Tk,t2.at_∈L.flatten→t2=tk:=fun t2 h=>by
   have:=iv.tkOf hH (t2:=t2) (by rw[Zp5];exact h)
   rwa [Ziz]at this
  have h25:tk.st≠25:=by
   have:=iv.ok j _ hH
   cases main<;>simp only[gh,cond_true,Z7c,Gh.ok]at this<;>omega
  cases hst with
  | own K a step next=>
   obtain⟨g',w',es,L',e1,e2,e3,e4,e5,e6⟩:=step k w hs
   obtain⟨L0',ws',r1,r2⟩:=iv.ownStep (sl:=sl) hH hR hg e1 e2 e3 e5 (next g' L' e6)
   exact .inr (.inr ⟨_,_,_,_,_,_,_,_,_,r1,.set hR _ _ _,r2⟩)
  | weak a b=>
   obtain⟨L0',ws',r1⟩:=iv.weakStep hH hg hrun a b
   exact .inl ⟨_,_,_,_,_,_,.set hR _ _ _,r1⟩
  | shared t2 K a hat h12 step next=>
   obtain rfl:=htk t2 hat
   obtain⟨ht12,hcmp⟩:=hcm h12 h25
   rcases step k w γ hs (iv.sh ht12) hcmp with⟨g',w',es,t',γ',L',e1,e2,e3,e4,e5,e6,e7,e8⟩|⟨e1,e2,e3,e4⟩
   ·obtain⟨L0',tm',ws',r1,r2⟩:=iv.sharedStep (sl:=sl) hH hR hg e1 e2 e3 e4 e5 e6 e7 h12 (next g' L' e8)
    exact .inr (.inr ⟨_,_,_,_,_,_,_,_,_,r1,.set hR _ _ _,r2⟩)
   ·cases main with
    | true=>
     obtain⟨r1,r2⟩:=iv.blockStep (sl:=sl) hH hR hg hrun e4 e1 e2 e3 (.shared t2 K a hat h12 step next)
     exact .inr (.inl ⟨_,_,_,_,_,_,r1,rfl,r2⟩)
    | false=>
     have:20≤t2.st∧t2.st≤22:=iv.ok j _ hH
     omega
  | lib t2 K a hat h12 step next=>
   obtain rfl:=htk t2 hat
   obtain⟨ht12,hcmp⟩:=hcm h12 h25
   obtain⟨g',w',es,L',e1,e2,e3,e4,e5,e6⟩:=step k w γ hs (iv.sh ht12) hcmp
   obtain⟨L0',ws',r1,r2⟩:=iv.ownStep (sl:=sl) hH hR hg e1 e2 e3 e5 (next g' L' e6)
   exact .inr (.inr ⟨_,_,_,_,_,_,_,_,_,r1,.set hR _ _ _,r2⟩)
  | rel t2 K a h22 hat step next=>
   obtain rfl:=htk t2 hat
   obtain⟨ht12,hcmp⟩:=hcm (by omega) h25
   obtain⟨g',e1,b,e2⟩:=step k w γ hs (iv.sh ht12) hcmp iv.old.same
   obtain⟨gs',ws',ops,r1,r2⟩:=iv.relStep (sl:=sl) hH hR hg e1 b h22 (next g' e2)
   exact .inr (.inr ⟨_,_,_,_,_,_,_,_,_,r1,.set hR _ _ _,r2⟩)
  | begin t2 t' c d u E h12 a0 a1 a2 a3 a4 a5 a6 a7 hls next=>
   have hat:t2.at_∈L.flatten:=hls.mem (by simp)
   obtain rfl:=htk t2 hat
   obtain⟨γ',L0',tm',ws',r1⟩:=iv.beginStep (E:=0) hH ⟨_,hR⟩ hg hrun h12 a0 a1 a2 a3 a4 a5 a6 a7 hls next
   exact .inl ⟨_,_,_,_,_,_,.set hR _ _ _,r1⟩
  | go t2 d a b h3 step hu hgv nc nm=>
   obtain rfl:=htk t2 hu.mem
   obtain⟨gs',ops,r1,r2⟩:=iv.spawnStep (sl:=sl) hH hg (step k w hs) b h3 hu hgv nm nc
   have hj0:j=0:=(iv.isMain hH).1
   subst hj0
   refine .inr (.inr ⟨_,_,_,_,_,_,_,_,_,r1,?_,r2⟩)
   cases rs with
   | nil=>simp at hR
   | cons x l=>simp at hR;subst hR;exact .main 0 _ _
  | odd t2 hat hx=>
   obtain rfl:=htk t2 hat
   exfalso
   have:=iv.ok j _ hH
   cases main<;>simp only[gh,cond_true,Z7c,Gh.ok]at this<;>rcases hx with⟨q,hx⟩|⟨q,hx⟩<;>first|omega|cases q
  | comm a b step step0 hc=>
   cases main with
   | true=>
    obtain⟨rfl,rfl,rfl⟩:=iv.isMain (show H[j]?=some (.main L tk) from hH)
    exact .inr (iv.commMain hR hg b step step0 hc)
   | false=>exact .inr (iv.commWork hH hR hg b step step0 hc)
 cases h with
 | main L tk=>
  obtain⟨rfl,rfl,rfl⟩:=iv.isMain hH
  rcases hS with⟨_,b⟩|⟨_,f,g0,cs,sh,_,rfl,_⟩|⟨_,_,g0,rfl,_⟩
  ·cases r with
   | z=>exact .inl ⟨rfl,b.2⟩
   | mk f=>exact .inr (actor true L tk f rfl rfl b)
  ·cases hrun
  ·cases hrun
 | live L tk=>
  rcases hS with⟨_,b⟩|⟨_,f,g0,cs,sh,_,rfl,_⟩
  ·cases r with
   | z=>cases b.1
   | mk f=>exact .inr (actor false L tk f rfl rfl b)
  ·cases hrun
 | tail tk=>
  right
  cases r with
  | z=>exact(show False from hS).elim
  | mk f=>
   have hS:StT P (fun g' t'=>TlR P (f 2 g' [[t'.at_]]) g' t') (fun n=>f 2 g []=Tn n) g tk:=hS
   obtain⟨i,rfl,_,_,hmem,_⟩:=iv.isWork hH (fun L t e=>by cases e)
   have hmem:tk∈ws.map Gh.tk:=hmem
   cases hS with
   | ctl a b h25 step next=>
    have h12:=iv.toks.up hmem h25
    obtain⟨gs',ws',ops,r1,r2⟩:=iv.tailStep (sl:=sl) hH hR hg (step w γ (iv.sh h12) (iv.toks.cmpW hmem h25) iv.old.same) b .idle .refl (iv.sh h12) .refl h25 next
    exact .inr (.inr ⟨_,_,_,_,_,_,_,_,_,r1,.set hR _ _ _,r2⟩)
   | shared K a h25 step next=>
    have h12:=iv.toks.up hmem h25
    obtain⟨g',w',es,t',γ',e1,e2,e3,e4,e5,e6,e7⟩:=step w γ (iv.sh h12) (iv.toks.cmpW hmem h25) iv.old.same
    obtain⟨gs',ws',ops,r1,r2⟩:=iv.tailStep (sl:=sl) hH hR hg e1 e2 e3 e4 e5 e6 h25 (next g' t' e7)
    exact .inr (.inr ⟨_,_,_,_,_,_,_,_,_,r1,.set hR _ _ _,r2⟩)
   | quit n h25 hq hf=>
    obtain⟨ws',r1⟩:=iv.quitStep hH hg h25 hq
    rw[← hf]at r1
    exact .inl ⟨_,_,_,_,_,_,.set hR _ _ _,r1⟩
 | gone tk d=>
  right;right
  obtain⟨h25,n,rfl,hq⟩:=hS
  cases n with
  | zero=>have:=hq.1;rw[hrun]at this;cases this
  | succ n=>
   rcases hq with⟨a,_⟩|⟨_,g',es,hm,step,hq⟩
   ·rw[hrun]at a;cases a
   ·obtain⟨i,rfl,_⟩:=iv.isWork hH (fun L t e=>by cases e)
    obtain⟨gs',ws',ops,r1,r2⟩:=iv.goneStep (sl:=sl) hH hR hg (step w) hm hq rfl
    refine .inr ⟨_,_,_,_,_,_,_,_,_,r1,?_,r2⟩
    exact Down.set (f:=fun _ _ _=>Tn n) hR 0 g' []
theorem Iv.someone(iv:Iv P Φ k γ rs H L0 tm ws gs w t):∃(i:Nat) (g:Goroutine),gs[i]?=some g∧g.status=.running:=by
 have hl0:0<gs.size:=by rw[iv.gsz,iv.hd];simp
 obtain⟨g,hg⟩:∃g,gs[0]?=some g:=⟨_,Z3x hl0⟩
 apply Z4e
 intro hno
 have hnr:∀(i:Nat) x,gs[i]?=some x→x.status≠.running:=fun i x hx e=>hno ⟨i,x,hx,e⟩
 obtain⟨h,r,hH,hR,hS⟩:=iv.got hg
 rw[iv.main0]at hH;cases hH
 have hwork:∀tk∈ws.map Gh.tk,tk.st≠25→∃(n:Nat) (gn:Goroutine),gs[n+1]?=some gn∧gn.status=.blocked∧∃h,H[n+1]?=some h∧h.tk=tk∧γ.closed=false:=fun tk htk h25=>by
  obtain⟨h,hh,rfl⟩:=Z2v.1 htk
  obtain⟨n,hn⟩:=Z7d hh
  have hHn:H[n+1]?=some h:=by rw[iv.hd];simpa using hn
  have hlt:n+1<gs.size:=by rw[iv.gsz];exact(Z2j.1 hHn).1
  obtain⟨gn,hgn⟩:∃gn,gs[n+1]?=some gn:=⟨_,Z3x hlt⟩
  obtain⟨h',r',hH',hR',hS'⟩:=iv.got hgn
  rw[hHn]at hH';cases hH'
  refine⟨n,gn,hgn,?_⟩
  cases h with
  | main L t=>exact absurd rfl (iv.nl _ hh L t)
  | live L t=>
   rcases hS' with⟨a,_⟩|⟨a,f,g0,cs,sh,_,rfl,_⟩
   ·exact absurd a (hnr _ _ hgn)
   ·exact⟨rfl,_,hHn,rfl,a⟩
  | tail t=>
   have hS':TlR P r' gn t:=hS'
   cases r' with
   | z=>exact hS'.elim
   | mk f=>
    cases hS' with
    | ctl a=>exact absurd a (hnr _ _ hgn)
    | shared K a=>exact absurd a (hnr _ _ hgn)
    | quit n a=>exact absurd a h25
  | gone t d=>exact absurd hS'.1 h25
 rcases hS with⟨a,_⟩|⟨hcl,f,g0,cs,sh,rfl,rfl,hr0,hst,hcm⟩|⟨h9,hs0,_⟩
 ·exact hnr 0 g hg a
 ·obtain⟨t2,c0,z,rfl,rfl,h0,hat,hbm,hn1,_⟩:=Zau hcm
  obtain rfl:t2=tm:=iv.tkOf iv.main0 hat
  obtain⟨_,hle,hab,hbu,hcn,hsts⟩:=iv.toks.open0 h0
  have hp:0<(ws.map Gh.tk).countP Vw:=by omega
  obtain⟨tk,htk,hu⟩:=Z7k.1 hp
  have h25:tk.st≠25:=by intro e;simp[Vw,e,Nat.ble_eq]at hu
  obtain⟨n,gn,hgn,hb,h,hh,rfl,_⟩:=hwork tk htk h25
  obtain⟨ha,_⟩:=iv.nm _ hg rfl h0 (n+1) gn (by omega) hgn hb
  have hnil:Zdk (ws.map Gh.tk)=[]:=by
   simp only[Zdk,List.map_eq_nil_iff,Z60]
   intro x hx h21
   have h21:x.st=21:=by simpa[Zp9] using h21
   obtain⟨n',gn',hgn',hb',h',hh',rfl,_⟩:=hwork x hx (by omega)
   obtain⟨_,h'',hh'',h20⟩:=iv.nm _ hg rfl h0 (n'+1) gn' (by omega) hgn' hb'
   rw[hh']at hh'';cases hh''
   omega
  rw[hnil]at hbu
  have:=hbu.nil_eq
  rw[← this]at hab
  simp at hab
  omega
 ·have key:∀tk∈ws.map Gh.tk,tk.st≠25→False:=fun tk htk h25=>by
   obtain⟨_,_,_,_,_,_,_,hcl⟩:=hwork tk htk h25
   rcases iv.toks.ph with⟨a,_⟩|⟨a,_⟩|⟨_,a,_⟩|⟨a,_⟩|⟨a,_⟩<;>(try (exfalso;omega))
   rw[hcl]at a;cases a
  have hz:∀(p:Tk→Bool),(∀t,p t=true→t.st≠25)→(ws.map Gh.tk).countP p=0:=fun p hp=>by
   rw[Z5k]
   intro x hx hpx
   exact key x hx (hp x hpx)
  have z1:=hz Vw fun t h e=>by simp[Vw,e,Nat.ble_eq]at h
  have z2:=hz Qq fun t h e=>by simp[Qq,e]at h
  have z3:=hz Qr fun t h e=>by simp[Qr,e]at h
  rcases iv.toks.ph with⟨a,_⟩|⟨a,_⟩|⟨_,_,_,a⟩|⟨a,_⟩|⟨a,_⟩
  ·omega
  ·omega
  ·omega
  ·omega
  ·omega
theorem Iv.awake(iv:Iv P Φ k γ rs H L0 tm ws gs w t):∀g∈gs,Conc.awake g:=by
 intro g hm
 obtain⟨i,hi,rfl⟩:=Array.mem_iff_getElem.1 hm
 obtain⟨h,r,_,_,hS⟩:=iv.got (Z3x hi)
 refine awake_of ?_
 cases h with
 | main L t=>
  rcases hS with⟨a,_⟩|⟨_,f,g0,cs,sh,_,e,_⟩|⟨_,_,g0,e,_⟩
  ·exact .inl a
  ·rw[e];exact .inr (.inl rfl)
  ·rw[e];exact .inr (.inl rfl)
 | live L t=>
  rcases hS with⟨a,_⟩|⟨_,f,g0,cs,sh,_,e,_⟩
  ·exact .inl a
  ·rw[e];exact .inr (.inl rfl)
 | tail t=>exact(TlR.status hS).imp id .inr
 | gone t d=>obtain⟨_,n,_,hq⟩:=hS;exact hq.status.imp id .inr
def Ends(P:Program)(Φ:Goroutine→Za→Prop)(k:Zaz)(gs:Array Goroutine)(w:World)(sl:Option (Nat × Nat))(t:Trace):Prop:=
 ∃(n:Nat) (gs':Array Goroutine) (w':World) (sl':Option (Nat × Nat)) (t':Trace),runNT P n (crowd gs w sl) t=(.next (crowd gs' w' sl'),t')∧
  ∃(γ:Gm) (rs:List Rank) (H:List Gh) (L0:Za) (tm:Tk) (ws:List Gh) (g:Goroutine),Iv P Φ k γ rs H L0 tm ws gs' w' t'∧gs'[0]?=some g∧Φ g L0∧∃(d:Nat) (sl2:Option (Nat × Nat)),stepT P (crowd gs' w' sl')=runT P (crowd gs' (w'.at d) sl2) 0
theorem Ends.after{gs gs1:Array Goroutine}{w w1:World}{sl sl1:Option (Nat × Nat)}{t ops:Trace}(hs:stepT P (crowd gs w sl)=(.next (crowd gs1 w1 sl1),ops))(h:Ends P Φ k gs1 w1 sl1 (t++ops)):Ends P Φ k gs w sl t:=by
 obtain⟨n,gs',w',sl',t',h1,h2⟩:=h
 exact⟨n+1,gs',w',sl',t',by rw[runNT_succ_next hs];exact h1,h2⟩
theorem iv_ends(rs:List Rank):∀(b:Nat) {γ:Gm} {H:List Gh} {L0:Za} {tm:Tk} {ws:List Gh} {gs:Array Goroutine} {w:World} {sl:Option (Nat × Nat)} {t:Trace},nb gs≤b→Iv P Φ k γ rs H L0 tm ws gs w t→Ends P Φ k gs w sl t:=by
 have ha:=down_acc rs
 induction ha with
 | intro rs _ ih=>
  intro b
  induction b with
  | zero=>
   intro γ H L0 tm ws gs w sl t hb iv
   exfalso
   obtain⟨i,g,hg,hr⟩:=iv.someone
   have:0<nb gs:=Z7k.2 ⟨g,by
    have:=Z64 hg
    simpa using this,by simp[up,hr]⟩
   omega
  | succ b ihb=>
   intro γ H L0 tm ws gs w sl t hb iv
   obtain⟨i,g,d,sl',hg,hr,hst⟩:=crowd_pick (P:=P) (sl:=sl) (w:=w) iv.awake iv.someone
   rcases (iv.at d).step (sl:=sl') hg hr with⟨rfl,hΦ⟩|⟨γ',rs',H',L0',tm',ws',hd,hiv⟩|⟨γ',H',L0',tm',ws',g',hrt,hbl,hiv⟩|⟨γ',rs',H',L0',tm',ws',gs',w',ops,hrt,hd,hiv⟩
   ·exact⟨0,gs,w,sl,t,rfl,γ,rs,H,L0,tm,ws,g,iv,hg,hΦ,d,sl',hst⟩
   ·have:=hiv.at w.drawn
    exact ih rs' hd (nb gs) (Z21 _) this
   ·refine Ends.after (hst.trans hrt) ?_
    rw[Array.append_empty]
    exact ihb (by have:=nb_less hg hr hbl;omega) hiv
   ·exact Ends.after (hst.trans hrt) (ih rs' hd (nb gs') (Z21 _) hiv)
end
section
variable{P:Program}{Φ:Goroutine→Za→Prop}{k:Zaz}
theorem begins{L:Za}{tm:Tk}{g:Goroutine}{W:World}(hlo:Lo P true Φ g L)(hs:Sat k W L)(hg:g.status=.running)(h12:tm.st=12)(htok:∀p∈L.flatten,gho p.2=true→p=tm.at_)
  (hO:∀b,Tasks.O b→b<W.heap.size∧W.heap[b]?=Tasks.W0.heap[b]?∧¬ InW L b):∃r γ,Iv P Φ k γ [r] [.main L tm] L tm [] #[g] W #[]:=by
 obtain⟨r,hr⟩:=lo_rk (Φ:=Φ) hlo (fun _=>rfl) (fun h=>by cases h)
 have one:∀{j:Nat} {h:Gh},[Gh.main L tm][j]?=some h→j=0∧h=.main L tm:=fun {j h} hj=>by
  cases j with
  | zero=>simp at hj;exact⟨rfl,hj.symm⟩
  | succ j=>simp at hj
 have nt:∀i,touchAt #[] i=none:=fun i=>by simp[touchAt,Trace.act?]
 refine⟨r,⟨0,0,0,0,0,0,0,false⟩,rfl,by simp,rfl,rfl,?_,⟨hs.os,hs.out,hs.tape,by simp,by simp,by simp,by simp⟩,?_,?_,?_,fun h=>absurd h12 h,fun h=>absurd h12 h,?_,?_,?_,?_,?_,?_,⟨fun b hb=>(hO b hb).2.1,?_,fun h=>absurd h12 h,fun b hb=>(hO b hb).1⟩⟩
 ·intro j h r' g' hj hr' hg'
  obtain⟨rfl,rfl⟩:=one hj
  simp at hr' hg'
  subst hr' hg'
  exact .inl ⟨hg,hr⟩
 ·intro j h hj
  obtain⟨rfl,rfl⟩:=one hj
  exact hs
 ·intro j h hj
  obtain⟨rfl,rfl⟩:=one hj
  exact htok
 ·intro i j a b x hij ha hb
  obtain⟨rfl,_⟩:=one ha
  obtain⟨rfl,_⟩:=one hb
  exact absurd rfl hij
 ·exact⟨by simp,by simp,fun h=>absurd h12 h,Z6v _,.inr (.inr (.inr (.inr ⟨h12,by simp⟩)))⟩
 ·refine⟨fun said=>?_,fun i op h=>(by simp at h),fun i a b h=>(by rw[nt]at h;cases h),fun j b _ i a h=>(by rw[nt]at h;cases h),fun j b _ i a h=>(by rw[nt]at h;cases h),fun j b _ _ i a h=>(by rw[nt]at h;cases h),fun i a h=>(by rw[nt]at h;cases h),fun i a h=>(by simp[Trace.act?]at h)⟩
  rintro⟨i,j,_,⟨a,b,ha,_⟩,_⟩
  simp[Trace.act?]at ha
 ·intro j h hj
  obtain⟨rfl,rfl⟩:=one hj
  simp[Deaf,Trace.deaf,Gh.df,Zvm,h12]
 ·intro j h hj hl
  obtain⟨rfl,rfl⟩:=one hj
  cases hl
 ·intro j h hj
  obtain⟨rfl,rfl⟩:=one hj
  show tm.st≤12
  omega
 ·intro o ho hb
  simp at ho
  subst ho
  rw[hg]at hb;cases hb
 ·intro j h b hj hw ho
  obtain⟨rfl,rfl⟩:=one hj
  exact(hO b ho).2.2 hw
theorem Zw5{m m':Machine}{t t' ops:Trace}{o:Outcome}{w:World}:∀{N:Nat},runNT P N m t=(.next m',t')→stepT P m'=(.ended o w,ops)→∀{t0:Trace},True→runNT P (N+1) m t=(.ended o w,t'++ops):=by
 intro N
 induction N generalizing m t with
 | zero=>
  intro h hs _ _
  simp only[runNT,Z3m,Stepped.next.injEq]at h
  obtain⟨rfl,rfl⟩:=h
  simp[runNT,hs]
 | succ N ih=>
  intro h hs t0 _
  rw[runNT]at h ⊢
  cases hm:stepT P m with
  | mk e u=>
   rw[hm]at h
   cases e with
   | next m1=>exact ih h hs (t0:=t0) trivial
   | _=>simp at h
def AtBot(P:Program)(f:Nat)(fn:Func)(Q:Value→Za→Prop)(g:Goroutine)(L:Za):Prop:=
 ∃(a:Act) (todo:List Item) (ρ:Z9),g=Conc.G { (Conc.base f).at a todo with mode:=.returning } []∧a.defers=[]∧Agr fn.ntmps a ρ∧Zaf P fn Q .ret ρ L
theorem Z0l{f:Nat}{fn:Func}{c:Code}{args:List Value}{L:Za}{Q:Value→Za→Prop}(hf:P.funcs[f]?=some fn)(hb:fn.body=some c){n:Nat}(hn:fn.ntmps=n)(hlen:args.length≤n)(h:HW P n c (Zaf P fn Q) (Q6 0 args) L):
  Lo P true (AtBot P f fn Q) (Conc.G (Frame.enter P f ⟨args⟩ .normal) []) L:=by
 subst hn
 rw[Z62 _ hf hb]
 refine h true _ (Conc.base f) [] [] _ (by simp[Conc.base]) (fun e ρ' L' q=>?_) ⟨?_,?_⟩
 ·cases e with
  | normal=>exact fun a hd ha=>.ctl rfl rfl (fun w=>Z6r) (.stop ⟨a,[],ρ',rfl,hd,ha,q⟩)
  | ret=>exact fun a todo hd ha=>.stop ⟨a,todo,ρ',rfl,hd,ha,q⟩
  | exit i=>exact q.elim
  | goto i=>exact q.elim
  | panic ch=>exact q.elim
  | outgrown=>exact q.elim
 ·simp;omega
 ·intro t v hv
  obtain⟨_,h2⟩:=Zg3 args 0 t v hv
  have hlt:t<args.length:=(Z2j.1 h2).1
  simp only[]
  rw[Z5c (by simpa using hlt)]
  simpa using h2
theorem Zrd{b:Frame}{a:Act}{todo:List Item}{w:World}{fn:Func}{v:Value}(hn:b.kind=.normal)(hd:a.defers=[])(hf:P.funcs[b.fn]?=some fn)(hi:P.inits.idxOf? b.fn=none)(hr:(results fn a.tmps).run P w=.ok v w):
  stepG P true (Conc.G { b.at a todo with mode:=.returning } []) w=.ended (.done v) w (seen P b.fn ((results fn a.tmps).events P w #[])):=by
 simp[Conc.G,stepG,unwind,doReturn,Frame.at,hn,hd,hf,hr,hi,GStep.after]
theorem runT_end{gs:Array Goroutine}{w w':World}{sl:Option (Nat × Nat)}{i:Nat}{g:Goroutine}{o:Outcome}{es:Array Event}(hi:gs[i]?=some g)(h:stepG P (i == 0) g w=.ended o w' es):
  runT P (crowd gs w sl) i=(.ended o w',MemOp.ofEvents i g.frame.fn g.frame.place es):=by
 obtain⟨hlt,rfl⟩:=Z2g.1 hi
 have hsw:=swapAt_of_lt hlt { (default:Goroutine)with status:=.finished }
 show runT P { world:=w,gs:=gs,rest:={ timers:=#[],alone:=none,slice:=sl } } i=_
 unfold runT
 simp only[hsw,h,GStep.es]
end
section
variable{P:Program}{Φ:Goroutine→Za→Prop}{k:Zaz}
theorem run_good{f:Nat}{fn:Func}{c:Code}{args:List Value}{L:Za}{Q:Value→Za→Prop}{W:World}{tm:Tk}(hf:P.funcs[f]?=some fn)(hin:P.inits.idxOf? f=none)(hb:fn.body=some c){n:Nat}(hn:fn.ntmps=n)(hlen:args.length≤n)
  (hw:HW P n c (Zaf P fn Q) (Q6 0 args) L)(hQ:∀v L',Q v L'→∃t:Tk,t.at_∈L'.flatten∧t.st=12)
  (hs:Sat k W L)(h12:tm.st=12)(htok:∀p∈L.flatten,gho p.2=true→p=tm.at_)(hO:∀b,Tasks.O b→b<W.heap.size∧W.heap[b]?=Tasks.W0.heap[b]?∧¬ InW L b):
  ∃N last o w' t',runNT P (N+1) (solo (G (Frame.enter P f ⟨args⟩ .normal) []) W) #[]=(.ended o w',t')∧runN P N (solo (G (Frame.enter P f ⟨args⟩ .normal) []) W)=.next last∧step P last=.ended o w'∧
   Conc.Good P (fun v w'=>∃L',Q v L'∧Sat k w' L'∧∀b,Tasks.O b→w'.heap[b]?=Tasks.W0.heap[b]?) last o w' t':=by
 obtain⟨r,γ0,iv0⟩:=begins (Z0l hf hb hn hlen hw) hs rfl h12 htok hO
 obtain⟨N,gs,w0,sl,t,hrun,γ,rs,H,L0,tm',ws,g,iv1,hg,⟨a,todo,ρ,rfl,hd,ha,hq⟩,d,sl2,hst⟩:=iv_ends _ _ (sl:=none) (Z21 _) iv0
 have iv:=iv1.at d
 have hL0:Sat k (w0.at d) L0:=iv.sat 0 _ iv.main0
 obtain⟨v,L',h1,h2,h3⟩:=hq k (w0.at d) a hL0 ha
 obtain⟨t0,ht0,hst0⟩:=hQ v L' h3
 obtain rfl:t0=tm':=iv.tkOf iv.main0 (h2.tok _ ht0 rfl)
 have hstep:=Zrd (P:=P) (b:=Conc.base f) (todo:=todo) rfl hd hf hin h1
 have hrt:=runT_end (sl:=sl2) hg (by simpa using hstep)
 have hstT:=hst.trans hrt
 have htr:Tr (w0.at d) (w0.at d) L0 L0 (seen P (Conc.base f).fn ((results fn a.tmps).events P (w0.at d) #[])):=Tr.seen (Zm0 hL0 (Zmc _ _) (fun w2 hs2=>by
  obtain⟨v2,_,h4,_⟩:=hq k w2 a hs2 ha
  exact⟨v2,w2,h4⟩) h1 (.refl _ _))
 generalize hu:MemOp.ofEvents 0 (Conc.G { (Conc.base f).at a todo with mode:=.returning } []).frame.fn (Conc.G { (Conc.base f).at a todo with mode:=.returning } []).frame.place (seen P (Conc.base f).fn ((results fn a.tmps).events P (w0.at d) #[]))=u at*
 have ug:∀op∈u,op.g=0:=fun op ho=>by rw[← hu]at ho;obtain⟨e,_,rfl⟩:=Y6 ho;rfl
 have hall:∀x∈ws.map Gh.tk,x.st=25:=by
  rcases iv.toks.ph with⟨q,_⟩|⟨q,_⟩|⟨q,_⟩|⟨q,_⟩|⟨_,q⟩<;>(try (exfalso;omega))
  exact q
 have hl0:0<H.length:=(Z2j.1 iv.main0).1
 have inL:∀i b,InB (Zng H i) b→∃x,H[i]?=some x∧InB x.L b:=fun i b hb=>by
  cases hi:H[i]? with
  | none=>rw[Zng,hi]at hb;exact absurd hb noB
  | some x=>rw[Yo hi]at hb;exact⟨x,rfl,hb⟩
 have hti:=iv.ti.step (u:=u) (M:=(w0.at d).heap.size) (j:=0) (Lf':=Zng H) hl0 (Z21 _) ⟨fun _ h=>.inl h,fun _ h=>.inl h⟩ (fun _ _=>rfl)
  (fun i b hij hw hb=>by
   obtain⟨x,hx,_⟩:=inL i b hw.b
   obtain⟨y,hy,hyb⟩:=inL 0 b hb
   rw[Yo hx]at hw
   exact iv.dis i 0 x y b hij hx hy hw hyb)
  (fun i b hij hw hb=>by
   obtain⟨x,hx,hxb⟩:=inL i b hb
   obtain⟨y,hy,_⟩:=inL 0 b hw.b
   rw[Yo hy]at hw
   exact iv.dis 0 i y x b (fun e=>hij e.symm) hy hx hw hxb)
  (fun i b hsb hb=>absurd hst0 hsb.1) (fun i b hb=>by obtain⟨x,hx,hxb⟩:=inL i b hb;exact hxb.lt (iv.sat i x hx)) (fun b hsb=>absurd hst0 hsb.1)
  (fun op ho=>by
   rw[← hu]at ho
   obtain⟨e,he,rfl⟩:=Y6 ho
   rw[Yo iv.main0]
   exact okT_ev (htr.evs e he).1 (htr.evs e he).2)
 have left:∀(i:Nat) x,i≠0→H[i]?=some x→x.late=true∧x.tk.st=25:=fun i x hi hx=>by
  obtain⟨n,rfl,_,_,hm,_⟩:=iv.isWork hx (fun L t e=>by subst e;exact hi (iv.isMain hx).1)
  have h25:=hall _ hm
  refine⟨?_,h25⟩
  cases x with
  | main L t=>exact absurd (iv.isMain hx).1 hi
  | live L t=>have h6:20≤t.st∧t.st≤22:=iv.ok _ _ hx;simp only[Gh.tk]at h25;omega
  | tail t=>rfl
  | gone t d=>rfl
 have quits:∀(i:Nat) y,i≠0→gs[i]?=some y→∃n,QuitsD P n (Deaf (t++u) i) y:=fun i y hi hy=>by
  obtain⟨x,r',hx,_,hS⟩:=iv.got hy
  have hl:=left i x hi hx
  rw[Deaf_other t (fun e=>hi e.symm) u ug,iv.deaf i x hx]
  cases x with
  | main L t=>exact absurd (iv.isMain hx).1 hi
  | live L t=>cases hl.1
  | tail tk=>
   have h25:tk.st=25:=hl.2
   have hS:TlR P r' y tk:=hS
   cases r' with
   | z=>exact hS.elim
   | mk f=>
    cases hS with
    | ctl _ _ q=>exact absurd h25 q
    | shared K _ q=>exact absurd h25 q
    | quit n _ q=>exact⟨n,by simpa[Gh.df,h25] using q⟩
  | gone tk d=>obtain⟨_,n,_,q⟩:=hS;exact⟨n,q⟩
 have hrun':runNT P N (solo (G (Frame.enter P f ⟨args⟩ .normal) []) W) #[]=(.next (crowd gs w0 sl),t):=hrun
 refine⟨N,crowd gs w0 sl,.done v,w0.at d,t++u,Zw5 hrun' hstT (t0:=#[]) trivial,by rw[← runNT_fst P N _ #[],hrun'],by rw[← stepT_fst P _ true,hstT],v,rfl,⟨L',h3,h2.sat k _ hL0,iv.old.same⟩,hti.nr,?_,⟨?_,rfl⟩,?_⟩
 ·intro i g' hgi hne hc
  have hlt:g'<H.length:=by
   obtain⟨op,q1,q2⟩:=Z28.1 hgi
   have:=hti.g i op q1
   omega
  obtain⟨x,hx⟩:∃x,H[g']?=some x:=⟨_,Z2c hlt⟩
  have hl:=left g' x hne hx
  have hho:=(iv.ho g' x hx hl.1).resolve_right fun q=>q.1 hst0
  exact(hho.app (Um hne ug)) i hgi hc
 ·intro y hy
  rw[Z67]at hy
  obtain⟨i,hi⟩:=hy
  rw[List.getElem?_drop]at hi
  have hi':gs[1+i]?=some y:=by rw[← hi];simp[crowd]
  obtain⟨n,q⟩:=quits (1+i) y (by omega) hi'
  exact⟨n,q.leaves⟩
 ·intro i y hy hi
  obtain⟨n,q⟩:=quits i y hi hy
  exact⟨n,q.hears _⟩
end
end Go.HL
namespace Go.HL
open Go Go.Proofs Go.ChangeAt Go.ChangeShapes Go.Conc Go.RowKit Go.WideShapes Go.Proofs.Tryz
@[reducible] def sideTasks (W:World) (w:List Int) (ss:List (List Int)):Tasks where
 R g i v bl:=if g=0 then ∃x,v=Zde i (fc x)∧FrR i x bl else ∃x,v=Zde i (tc x)∧Zir w ss i x bl
 m:=0
 O b:=b<W.heap.size
 W0:=W
 T:=240
@[reducible] def noTasks (W:World):Tasks where
 R _ _ _ _:=False
 m:=0
 O b:=b<W.heap.size
 W0:=W
 T:=240
theorem Zy6[Tasks]{W:World}:∀p∈([We W]:Za).flatten,Zq1 p.2=true:=fun p hp=>by
 rw[show ([We W]:Za).flatten=We W by simp]at hp
 obtain⟨c,E,fr,h1,h2⟩:=Zc2 hp
 rw[h2]
 exact Wj _ _ _
theorem no_gho[Tasks]{W:World}:∀p∈([We W]:Za).flatten,gho p.2=false:=fun p hp=>by
 rw[show ([We W]:Za).flatten=We W by simp]at hp
 obtain⟨c,E,fr,h1,h2⟩:=Zc2 hp
 rw[h2];rfl
def Zrg(b:Nat):Tk:=⟨0,b,0,0,0,0,12,0,0,[]⟩
theorem sat_tok[Tasks]{W:World}{b:Nat}(hb:b<W.heap.size)(hn:∀c E fr,W.heap[b]?≠some (.cells c E fr)):Sat (ctx W) W ([(Zrg b).at_]::[We W]):=by
 have h:=sat_init W
 have hf:([(Zrg b).at_]::[We W]:Za).flatten=(Zrg b).at_::([We W]:Za).flatten:=by simp
 refine⟨rfl,rfl,rfl,fun p hp hg=>?_,?_,fun p hp=>?_,fun p hp=>?_⟩<;>rw[hf] at*
 ·rcases Z2h.1 hp with rfl|hp
  ·exact absurd hg (by simp[Tk.at_,Tk.gho])
  ·exact h.has p hp hg
 ·rw[Z2s,Z3w]
  refine⟨fun hm=>?_,h.nodup⟩
  obtain⟨q,hq,e⟩:=Z2v.1 hm
  rw[show ([We W]:Za).flatten=We W by simp]at hq
  obtain⟨c,E,fr,h1,h2⟩:=Zc2 hq
  rw[e]at h1
  exact hn c E fr h1
 ·rcases Z2h.1 hp with rfl|hp
  ·rfl
  ·exact h.nv p hp
 ·rcases Z2h.1 hp with rfl|hp
  ·exact hb
  ·exact h.lt p hp
theorem side_run{W:World}{E:Nat→Addr}{w:List Int}{xs:List Sc}{wk:Int}{aw a:Option Addr}{capw cap b:Nat}(hb:b<W.heap.size)(hn:∀c E fr,W.heap[b]?≠some (.cells c E fr))
  (hE:letI:=sideTasks W w (xs.map (·.ns));Ez 394 E [We W])(hR:letI:=sideTasks W w (xs.map (·.ns));Rd ic 1 [We W] aw w)(hS:letI:=sideTasks W w (xs.map (·.ns));Rd se 1 [We W] a xs)
  (hS2:letI:=sideTasks W w (xs.map (·.ns));∀s∈xs,Rd ic 1 [We W] s.a s.ns∧s.ns.length≤s.c∧s.ns.length≤1048576∧∀v∈s.ns,v≤9223372036854775807):
  ∃N last o w' t',runNT prog (N+1) (solo (G (Frame.enter prog 12 ⟨[.slice aw w.length capw,.slice a xs.length cap,iv wk]⟩ .normal) []) W) #[]=(.ended o w',t')∧runN prog N (solo (G (Frame.enter prog 12 ⟨[.slice aw w.length capw,.slice a xs.length cap,iv wk]⟩ .normal) []) W)=.next last∧step prog last=.ended o w'∧
   Conc.Good prog (fun v w'=>v=.bool true∧Below W.heap.size W w') last o w' t':=by
 letI:=sideTasks W w (xs.map (·.ns))
 letI:Go.ConcR.Payload:=⟨0⟩
 obtain⟨l,Eg,frg,hg1,hg2⟩:=hE.et
 rw[Has,show ([We W]:Za).flatten=We W by simp]at hg1
 obtain⟨c,E1,fr,hg3,hg4⟩:=Zc2 hg1
 have hc:c=⟨l⟩:=by
  simp only[Zr,Obj.cells.injEq]at hg4
  exact hg4.1.symm
 subst hc
 have hg5:Obj.cells ⟨l⟩ Eg frg=Zr (.cells ⟨l⟩ E1 fr):=hg4
 have hg6:(⟨l⟩:Array Value)[0]?=some (.iface 319 (.agg #[.pointer (some ⟨23,28,none⟩)])):=by simpa using hg2
 have hA:AtC 9 (.cells ⟨l⟩ E1 fr) [We W]:=⟨⟨_,by rw[show ([We W]:Za).flatten=We W by simp];exact hg1,rfl,by rw[hg5,Zgl]⟩,(Z2g.1 hg3).1,hg3,fun x y z e=>by
  unfold Un at e
  simp only[Obj.cells.injEq]at e
  have:=e.1
  simp only[Array.mk.injEq]at this
  rw[this]at hg2
  simp at hg2⟩
 obtain⟨cd,n,h1,h2,h3,h4,h5⟩:=Zj0 (t:=Zrg b) (L0:=[We W]) 394 E w xs wk aw a capw cap rfl hA hg6 rfl Zy6 (LS.refl _) hE hR hS hS2 (fun _ _ _=>Iff.rfl) (fun _ _ _=>Iff.rfl)
 obtain⟨N,last,o,w',t',r1,r2,r3,r4⟩:=run_good (tm:=Zrg b) h1 (by kernel_rfl) h2 h3 h4 h5 (fun v L' ⟨t',ht,_,e⟩=>⟨t',by rw[e];simp,ht⟩) (sat_tok hb hn) rfl (fun p hp hg=>by
   rw[show ([(Zrg b).at_]::[We W]:Za).flatten=(Zrg b).at_::([We W]:Za).flatten by simp]at hp
   rcases Z2h.1 hp with rfl|hp
   ·rfl
   ·rw[no_gho p hp]at hg;cases hg) (fun x hx=>⟨hx,rfl,fun⟨o,ho,hp⟩=>by
   rw[show ([(Zrg b).at_]::[We W]:Za).flatten=(Zrg b).at_::([We W]:Za).flatten by simp]at ho
   unfold Zet at hp
   rcases Z2h.1 ho with e|ho
   ·cases e;simp[Tk.gho]at hp
   ·rw[Zy6 _ ho]at hp;simp at hp⟩)
 refine⟨N,last,o,w',t',r1,r2,r3,r4.elim fun v x=>⟨v,x.1,?_,x.2.2⟩⟩
 obtain⟨L',⟨t2,-,hv,-⟩,hs,hO⟩:=x.2.1
 refine⟨hv,hs.os,hs.tape,hs.out,?_,fun k hk=>hO k hk⟩
 cases hz:W.heap.size with
 | zero=>omega
 | succ m=>
  have hm:m<W.heap.size:=by omega
  have h1:w'.heap[m]?=W.heap[m]?:=hO m hm
  have h3:w'.heap[m]?=some (W.heap[m]'hm):=h1.trans (Z3x hm)
  obtain⟨h4,_⟩:=Z2g.1 h3
  omega
end Go.HL
namespace Go.HL
open Go Go.Proofs Go.ChangeAt Go.ChangeShapes Go.RowKit Go.WideShapes Go.Proofs.Tryz
variable[Tasks]
theorem Zl6{H:Type}{enc:TypeId × Value→H}{P:Program}{W:World}{spare:Nat→Bool}{held:Bool}{t e:TypeId}{α:Type}{encV:α→List Value}{sz N:Nat}{fuel:Nat}{cs:List Value}{x:DataW H × List MemPlace}{ok:DataW H→Prop}
  (hok:∀l r,ok (.slice l r)→l.length≤N∧∀d∈l,ok d)(ht:P.underlying t=some (.slice e))(hsz:P.cellsOf e=sz)(hpos:0<sz)(hf:DataW.trod enc P W 0 spare held fuel t cs=some x)(hx:ok x.1)
  (good:α→Prop)(one:∀n cs x,DataW.trod enc P W 0 spare held n e cs=some x→ok x.1→∃s,cs=encV s∧good s):
  ∃a cap,∃xs:List α,cs=[.slice a xs.length cap]∧Rd encV sz [We W] a xs∧(∀x∈xs,good x)∧xs.length≤cap∧xs.length≤N:=by
 rcases Deep.open_slice ht hf with⟨rfl,-⟩|⟨a',len,cap,m,n,D,Pl,rfl,-,hl,-,hm,hxe,hx2⟩
 ·exact⟨none,0,[],rfl,Rd.nil,by simp,by simp,by simp⟩
 ·have hlm:len≤m:=by rw[hm];split<;>omega
  rw[hxe]at hx
  obtain⟨hN,hD⟩:=hok _ _ hx
  rw[Z26,List.length_range]at hN
  have:∀i,i<len→∃s,W.cells? 0 (a'.add (i*sz)) sz=some (encV s)∧good s:=fun i hi=>by
   obtain⟨cs,h1,h2⟩:=hx2 i (by omega)
   obtain⟨s,rfl,hg⟩:=one _ _ _ h2 (hD _ (Z2v.2 ⟨i,Z4w.2 hi,rfl⟩))
   rw[hsz]at h1
   exact⟨s,h1,hg⟩
  by_cases h0:len=0
  ·subst h0
   exact⟨some a',cap,[],rfl,Rd.nil,by simp,by simp,by simp⟩
  ·have:∃V:_root_.Fin len→α,∀i,W.cells? 0 (a'.add (i.1*sz)) sz=some (encV (V i))∧good (V i):=⟨fun i=>(this i.1 i.2).choose,fun i=>(this i.1 i.2).choose_spec⟩
   obtain⟨V,hV⟩:=this
   obtain⟨-,-,hc⟩:=World.cells?_some (hV ⟨0,by omega⟩).1
   have hlen:=(World.cells?_some (hV ⟨0,by omega⟩).1).2.1
   have h00:=hc 0 hpos
   have hs:∃x,W.cell? a'=some x:=by
    simp[Addr.add]at h00
    exact⟨_,h00.trans (Z2c (by omega))⟩
   obtain⟨x0,hx0⟩:=hs
   obtain⟨b,off,spot⟩:=a'
   have hblk:∃c E fr,W.heap[b]?=some (.cells c E fr)∧spot=none:=by
    unfold World.cell? at hx0
    simp only at hx0
    split at hx0
    ·rename_i c E fr he
     refine⟨c,E,fr,he,?_⟩
     cases spot with
     | none=>rfl
     | some k=>simp at hx0
    ·cases hx0
   obtain⟨c,E,fr,he,rfl⟩:=hblk
   refine⟨some ⟨b,off,none⟩,cap,List.ofFn V,by simp,.inr ⟨b,off,c.toList,E,_,rfl,Zle (by simpa using he),fun k x hk=>?_⟩,?_,by simpa using hl,by simpa using hN⟩
   ·have hkl:k<len:=by
     have:=(Z2j.1 hk).1
     simpa using this
    have hx:V ⟨k,hkl⟩=x:=by
     rw[List.getElem?_ofFn]at hk
     simpa[hkl] using hk
    obtain⟨-,hl2,hc2⟩:=World.cells?_some (hV ⟨k,hkl⟩).1
    rw[hx]at hl2 hc2
    intro j v hj
    have hjl:=(Z2j.1 hj).1
    have:=hc2 j (by omega)
    rw[hj]at this
    rw[← this]
    have e:(Addr.add ⟨b,off,none⟩ (k*sz))=⟨b,off+k*sz,none⟩:=by
     unfold Addr.add;split
     ·rename_i h;simp[h]
     ·rfl
    show c.toList[off+k*sz+j]?=_
    simp only[e]
    rw[Znj he]
    simp
   ·intro x hx
    obtain⟨i,rfl⟩:=List.mem_ofFn.1 hx
    exact(hV i).2
end Go.HL
