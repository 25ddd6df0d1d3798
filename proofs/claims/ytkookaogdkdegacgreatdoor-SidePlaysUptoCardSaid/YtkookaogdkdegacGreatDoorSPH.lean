/- Texts laid into one, without what the claim does not use. Conditions: none. -/
import Derived.Test.YtkookaogdkdegacGreatDoorSPG
set_option linter.unusedVariables false
set_option linter.unusedSimpArgs false
set_option linter.unusedSectionVars false
set_option maxHeartbeats 4000000
set_option maxRecDepth 100000
namespace Go.HL
open Go Go.Proofs Go.Proofs.Tryz
variable[Tasks]
attribute [local irreducible] HW HO HQ HD HC QOp Has Upd Yi Gets Vv W6 Xn Zaf Wa Yz Zcl Xy
section
variable[Go.ConcR.Payload]
theorem Zrv(t:Tk)(bt bh bb td bk F:Nat)(cap:List Value)(R:Nat→Fr→List Zp→Prop)(f1 f2 f3:Nat × Nat)(L0:Za)(h20:t.st=20)(htd:t.todo=td)(hbk:t.back=bk)
  (hbt:Has L0 bt (.cells ⟨[.chan (some td)]⟩ 229 f1))(hbh:Has L0 bh (.cells ⟨[.func (.func F) #[] ⟨cap⟩]⟩ 228 f2))(hbb:Has L0 bb (.cells ⟨[.chan (some bk)]⟩ 289 f3))
  (hF:∀i,i<t.many→∀c,HC prog F (iv i::cap) (c::L0) (fun v L'=>∃x bl,v=.tuple ⟨[.agg ⟨fc x⟩,.nilIface]⟩∧R i x bl∧(∀p∈bl,Zet p.2=true)∧L'=bl::c::L0))(hR:∀i x bl,R i x bl→Tasks.R t.tag i (Zde i (fc x)) bl):
  HC prog 202 [pt bt 0,pt bh 0,pt bb 0] ([t.at_]::L0) (fun v L'=>v=.tuple #[]∧∃t':Tk,t'.st=22∧t'.wg=t.wg∧L'=[t'.at_]::L0):=by
 obtain⟨g,td0,bk0,wg,m,nn,st,a0,b0,l⟩:=t
 obtain rfl:st=20:=h20
 obtain rfl:td0=td:=htd
 obtain rfl:bk0=bk:=hbk
 refine uE func202 ntmps202 ?_
 repeat' (first|refine uN ?_|(refine uB ?_;intro b)|(refine uP ?_ ?_<;>intro h<;>try exact zx)|fail)
 refine Zm (σ:=Nat × Nat) (fun q=>[(0,pt bt 0),(1,pt bh 0),(2,pt bb 0),(6,.chan (some td0))]) (fun q=>[(⟨g,td0,bk0,wg,m,nn,20,q.1,q.2,l⟩:Tk).at_]::L0) (fun _=>True) (fun q=>m-q.2) (a0,b0) uS (Z15 _) trivial ?_
 rintro⟨a,b⟩-
 repeat' (first|refine uN ?_|(refine uB ?_;intro b)|(refine uP ?_ ?_<;>intro h<;>try exact zx)|fail)
 refine e_recv rfl rfl runUnderlying229 (zeroValue3) (fun i hb hi=>?_) ?_
 ·simp only at hb hi
  have kf:=hF i hi [(⟨g,td0,bk0,wg,m,nn,21,i,i+1,l⟩:Tk).at_]
  repeat' (first|refine uN ?_|(refine uB ?_;intro b)|(refine uP ?_ ?_<;>intro h<;>try exact zx)|fail)
  refine gc kf ?_
  clear kf
  rintro v L' ⟨x,bl,rfl,hx,hp,rfl⟩
  repeat' (first|refine uN ?_|(refine uB ?_;intro b)|(refine uP ?_ ?_<;>intro h<;>try exact zx)|fail)
  refine fo 2 ?_
  refine e_send (bl:=bl) (L1:=L0) rfl rfl (hR i x bl hx) hp (LS.skip _ (LS.refl _)) ?_
  repeat' (first|refine uN ?_|(refine uB ?_;intro b)|(refine uP ?_ ?_<;>intro h<;>try exact zx)|fail)
  exact Ze (i,i+1) uS (LS.refl _) trivial (by simp only;omega)
 ·repeat' (first|refine uN ?_|(refine uB ?_;intro b)|(refine uP ?_ ?_<;>intro h<;>try exact zx)|fail)
  exact ee0 rfl ⟨rfl,⟨g,td0,bk0,wg,m,nn,22,a,b,l⟩,rfl,rfl,rfl⟩
theorem Zu9{t:Tk}{C E F g many wk:Nat}{cap:List Value}{o:Array Value}{f:Nat × Nat}{v0:Value}{Lr L0:Za}(R:Nat→Fr→List Zp→Prop)(hT:Tasks.T=240)(h:AtC C (.cells o E f) Lr)(hl:o[0]?=some v0)(h12:t.st=12)(hk1:1≤wk)(hk2:wk≤100)(hm:many≤1000)
  (hro:∀p∈Lr.flatten,Zq1 p.2=true)(hls:LS Lr.flatten L0.flatten)
  (hF:∀i,i<many→∀X,HC prog F (iv i::cap) (X++Lr) (fun v L'=>∃x bl,v=.tuple ⟨[.agg ⟨fc x⟩,.nilIface]⟩∧R i x bl∧(∀p∈bl,Zet p.2=true)∧L'=bl::(X++Lr)))(hR:∀i v bl,Tasks.R g i v bl↔∃x,v=Zde i (fc x)∧R i x bl):
  HC prog 162 [iv many,iv wk,.func (.func F) #[] ⟨cap⟩] ([t.at_]::L0) (fun v L'=>∃(bo be:Nat) (t':Tk) (xs:List Fr) (B:List Zp),v=.tuple ⟨[sl bo 0 many many,sl be 0 many many]⟩∧t'.st=12∧xs.length=many∧(∀i,i<many→∃x bl,xs[i]?=some x∧R i x bl∧∀p∈bl,p∈B)∧
   L'=[t'.at_]::[(bo,.cells ⟨(xs.map fc).flatten⟩ 131)]::[(be,.cells ⟨List.replicate many .nilIface⟩ 28)]::B::L0):=by
 refine uE func162 ntmps162 ?_
 refine Za3 ?_
 refine Vs ?_
 refine wb (fun bh=>?_)
 refine uN ?_
 refine uN ?_
 refine uN ?_
 refine uN ?_
 refine Za3 ?_
 apply Zf8 (ι:=Nat × Nat × Nat × Nat) (fun _=>True) (fun q=>[(0,iv many),(1,iv wk),(2,.func (.func F) #[] ⟨cap⟩),(5,pt bh 0),(8,pt q.1 0),(9,pt q.2.1 0)])
  (fun q=>[(q.1,.cells ⟨[.chan (some q.2.2.1)]⟩ 229)]::[(q.2.1,.cells ⟨[.chan (some q.2.2.2)]⟩ 289)]::[(q.2.2.1,.chan 0 #[] false 0 0 false)]::[(q.2.2.2,.chan 0 #[] false 0 0 false)]::[(bh,.cells ⟨[.func (.func F) #[] ⟨cap⟩]⟩ 228)]::[t.at_]::L0)
 ·intro key
  have kk:=fun bt bb c d ρ' L' hs hl=>Zbp (ρ:=ρ') (Wf (L:=L') (key (bt,bb,c,d) trivial) hl) hs
  simp only at kk
  refine g_d S ?_
  repeat' first
   | (show HO _ _ _ _ _ _ _;first|refine Zcw ?_|refine Zrl S runUnderlying229 rfl (fun b=>?_)|refine Zrl S runUnderlying289 rfl (fun b=>?_)|refine wa S (fun b=>?_)|refine ws S ?_)
   | (show HD _ _ _ _ _ _ _ _;first|refine Zlf ?_|refine Zx7 ?_ ?_ ?_ ?_|refine Zlg ?_ ?_ ?_|refine Zdw ?_ ?_|refine da 101 ?_)
   | refine dx ?_
   | refine dx0 ?_
  all_goals (
   refine Vl ?_
   exact kk _ _ _ _ _ _ ⟨rfl,rfl,rfl,rfl,rfl,rfl,trivial⟩ uL)
 rintro⟨bt,bb,c,d⟩-
 simp only
 refine Za3 ?_
 refine Vs ?_
 refine wa S (fun u=>?_)
 refine Zcw ?_
 refine Vl ?_
 refine Zi2 (L':=_::[(bt,Zr _)]::_::_::_::_::_) ?_
 refine Zi2 (L':=_::_::[(bb,Zr _)]::_::_::_::_) ?_
 refine Zi2 (L':=_::_::_::_::_::[(bh,Zr _)]::_) ?_
 refine Zsp (t:=t) (t':=⟨g,c,d,u,many,0,0,0,0,[]⟩) c d u 0 h12 rfl rfl rfl rfl rfl rfl rfl rfl (r:=([(bh,Zr (.cells ⟨[.func (.func F) #[] ⟨cap⟩]⟩ 228 (0,0)))]::[(bt,Zr (.cells ⟨[.chan (some c)]⟩ 229 (0,0)))]::[(bb,Zr (.cells ⟨[.chan (some d)]⟩ 289 (0,0)))]::L0:Za).flatten) ?_ ?_
 ·have ew:Un 240 0 0 0=.cells ⟨[.int .u64 0,.int .u32 0]⟩ 240:=rfl
  rw[hT,ew]
  show LS (([t.at_]::[(c,_)]::[(d,_)]::[(u,_)]::[(bh,Zr (.cells ⟨[.func (.func F) #[] ⟨cap⟩]⟩ 228 (0,0)))]::[(bt,Zr (.cells ⟨[.chan (some c)]⟩ 229 (0,0)))]::[(bb,Zr (.cells ⟨[.chan (some d)]⟩ 289 (0,0)))]::L0:Za).flatten) _
  exact uL
 refine Zsr (L':=[(⟨g,c,d,u,many,0,0,0,0,[]⟩:Tk).at_]::[(bh,Zr (.cells ⟨[.func (.func F) #[] ⟨cap⟩]⟩ 228 (0,0)))]::[(bt,Zr (.cells ⟨[.chan (some c)]⟩ 229 (0,0)))]::[(bb,Zr (.cells ⟨[.chan (some d)]⟩ 289 (0,0)))]::L0) ?_ (by simp)
 refine uN ?_
 repeat' (first|refine uN ?_|(refine uB ?_;intro b)|(refine uP ?_ ?_<;>intro h<;>try exact zx)|refine da 101 ?_|fail)
 refine Zm (σ:=Nat) (fun i=>[(0,iv many),(1,iv wk),(5,pt bh 0),(8,pt bt 0),(9,pt bb 0),(10,pt u 0),(17,iv wk),(18,iv i)]) (fun i=>[(⟨g,c,d,u,many,i,0,0,0,[]⟩:Tk).at_]::[(bh,Zr (.cells ⟨[.func (.func F) #[] ⟨cap⟩]⟩ 228 (0,0)))]::[(bt,Zr (.cells ⟨[.chan (some c)]⟩ 229 (0,0)))]::[(bb,Zr (.cells ⟨[.chan (some d)]⟩ 289 (0,0)))]::L0) (fun i=>i≤wk) (fun i=>wk-i) 0 uS (Z15 _) (Z6v _) ?_
 intro i hi
 have kg:=Zsl (t:=⟨g,c,d,u,many,i,0,0,0,[]⟩) (wg:=u) (C:=C) (E:=E) (F:=202) (cap:=[pt bt 0,pt bh 0,pt bb 0]) (o:=o) (f:=f) (v:=v0) (Lr:=[(bh,Zr (.cells ⟨[.func (.func F) #[] ⟨cap⟩]⟩ 228 (0,0)))]::[(bt,Zr (.cells ⟨[.chan (some c)]⟩ 229 (0,0)))]::[(bb,Zr (.cells ⟨[.chan (some d)]⟩ 289 (0,0)))]::Lr) (L0:=[(bh,Zr (.cells ⟨[.func (.func F) #[] ⟨cap⟩]⟩ 228 (0,0)))]::[(bt,Zr (.cells ⟨[.chan (some c)]⟩ 229 (0,0)))]::[(bb,Zr (.cells ⟨[.chan (some d)]⟩ 289 (0,0)))]::L0) hT (h.mono fun p hp=>by simp[hp]) hl rfl (show i<1000 by omega) rfl
  (fun p hp=>by
   simp only[Z17,Z19,Z2b,Z2h]at hp
   rcases hp with rfl|rfl|rfl|hp
   ·exact Wj _ _ _
   ·exact Wj _ _ _
   ·exact Wj _ _ _
   ·exact hro p hp) (LS.k (LS.k (LS.k hls)))
  (fun c1 c2=>Zrv _ bt bh bb c d F cap R _ _ _ (c1::c2::[(bh,Zr (.cells ⟨[.func (.func F) #[] ⟨cap⟩]⟩ 228 (0,0)))]::[(bt,Zr (.cells ⟨[.chan (some c)]⟩ 229 (0,0)))]::[(bb,Zr (.cells ⟨[.chan (some d)]⟩ 289 (0,0)))]::Lr) rfl rfl rfl (Zb (Zb (Zb Zk))) (Zb (Zb Zk)) (Zb (Zb (Zb (Zb Zk)))) (fun j hj c0=>hF j hj [c0,c1,c2,_,_,_]) (fun i x bl hx=>(hR i _ bl).2 ⟨x,rfl,hx⟩))
 by_cases hlt:i<wk
 ·repeat' (first|refine uN ?_|(refine uB ?_;intro b)|(refine uP ?_ ?_<;>intro h<;>try exact zx)|refine da 101 ?_|fail)
  refine gc kg ?_
  rintro v L' ⟨rfl,rfl⟩
  repeat' (first|refine uN ?_|(refine uB ?_;intro b)|(refine uP ?_ ?_<;>intro h<;>try exact zx)|refine da 101 ?_|fail)
  exact Ze (i+1) uS (LS.refl _) (by omega) (by omega)
 obtain rfl:i=wk:=by omega
 clear kg
 repeat' (first|refine uN ?_|(refine uB ?_;intro b)|(refine uP ?_ ?_<;>intro h<;>try exact zx)|refine da 101 ?_|fail)
 apply Zf8 (ι:=Nat × Nat) (fun _=>True) (fun q=>[(0,iv many),(5,pt bh 0),(6,sl q.1 0 many many),(7,sl q.2 0 many many),(8,pt bt 0),(9,pt bb 0),(10,pt u 0)])
  (fun q=>[(q.1,.cells ⟨(List.replicate many (fc Yb)).flatten⟩ 131)]::[(q.2,.cells ⟨List.replicate many .nilIface⟩ 28)]::[(⟨g,c,d,u,many,i,0,0,0,[]⟩:Tk).at_]::[(bh,Zr (.cells ⟨[.func (.func F) #[] ⟨cap⟩]⟩ 228 (0,0)))]::[(bt,Zr (.cells ⟨[.chan (some c)]⟩ 229 (0,0)))]::[(bb,Zr (.cells ⟨[.chan (some d)]⟩ 289 (0,0)))]::L0)
 ·intro key
  have kk:=fun bo be ρ' L' hs hl=>Zbp (ρ:=ρ') (Wf (L:=L') (key (bo,be) trivial) hl) hs
  simp only at kk
  refine g_d S ?_
  repeat' first
   | (show HO _ _ _ _ _ _ _;first|refine Zcw ?_|(refine uB ?_;intro b))
   | (show HD _ _ _ _ _ _ _ _;first|refine Zlf ?_|refine uN ?_|refine Zdw ?_ ?_|refine da 101 ?_)
   | refine dx ?_
   | refine dx0 ?_
  all_goals (
   refine Vl ?_
   exact kk _ _ _ _ ⟨rfl,rfl,rfl,rfl,rfl,rfl,rfl,trivial⟩ uL)
 rintro⟨bo,be⟩-
 simp only
 rw[show (List.replicate many (fc Yb)).flatten=((List.replicate many Yb).map fc).flatten by rw[Z5p]]
 repeat' (first|refine uN ?_|(refine uB ?_;intro b)|(refine uP ?_ ?_<;>intro h<;>try exact zx)|refine da 101 ?_|fail)
 refine Zsr (L':=[]::[(bo,.cells ⟨((List.replicate many Yb).map fc).flatten⟩ 131)]::[(be,.cells ⟨List.replicate many .nilIface⟩ 28)]::[(⟨g,c,d,u,many,i,0,0,0,[]⟩:Tk).at_]::[(bh,Zr (.cells ⟨[.func (.func F) #[] ⟨cap⟩]⟩ 228 (0,0)))]::[(bt,Zr (.cells ⟨[.chan (some c)]⟩ 229 (0,0)))]::[(bb,Zr (.cells ⟨[.chan (some d)]⟩ 289 (0,0)))]::L0) ?_ rfl
 refine Zm (σ:=Nat × Nat × List Nat × List Fr × List Zp) (fun q=>[(0,iv many),(6,sl bo 0 many many),(7,sl be 0 many many),(8,pt bt 0),(9,pt bb 0),(10,pt u 0),(11,iv q.1),(12,iv q.2.1)])
  (fun q=>q.2.2.2.2::[(bo,.cells ⟨(q.2.2.2.1.map fc).flatten⟩ 131)]::[(be,.cells ⟨List.replicate many .nilIface⟩ 28)]::[(⟨g,c,d,u,many,i,0,q.1,q.2.1,q.2.2.1⟩:Tk).at_]::[(bh,Zr (.cells ⟨[.func (.func F) #[] ⟨cap⟩]⟩ 228 (0,0)))]::[(bt,Zr (.cells ⟨[.chan (some c)]⟩ 229 (0,0)))]::[(bb,Zr (.cells ⟨[.chan (some d)]⟩ 289 (0,0)))]::L0) (fun q=>AllI R many q.1 q.2.1 q.2.2.1 q.2.2.2.1 q.2.2.2.2) (fun q=>(many-q.1)+(many-q.2.1)) (0,0,[],List.replicate many Yb,[]) uS (Z15 _)
  ⟨by simp,by simp,by simp,by simp,by simp,fun j hj=>by simp at hj⟩ ?_
 rintro⟨a,y,l,xs,B⟩ hI
 simp only at hI ⊢
 have hsum:=hI.sum
 have ham:=hI.am
 by_cases hb:y<many
 ·have back:∀j v bl,j∈l→Tasks.R g j v bl→∃x,v=Zde j (fc x)∧j<many∧AllI R many a (y+1) (l.erase j) (xs.set j x) (bl++B)∧Yi (xs.map fc).flatten (0+(j:Int).toNat*9) (fc x) ((xs.set j x).map fc).flatten∧Yi (List.replicate many Value.nilIface) (0+(j:Int).toNat) [.nilIface] (List.replicate many .nilIface):=fun j v bl hj hv=>by
   obtain⟨x,rfl,hx⟩:=(hR j v bl).1 hv
   obtain⟨h1,h2⟩:=hI.back hj hx
   refine⟨x,rfl,h1,h2,Ztx (enc:=fc) (sz:=9) (fun _=>rfl) (by rw[hI.lx];exact h1),?_⟩
   have:=Wz (l:=List.replicate many Value.nilIface) (i:=j) (v:=.nilIface) (by simpa using h1)
   rw[Zyo]at this
   simpa using this
  by_cases hae:a=many
  ·have hae':(a:Int)=many:=by omega
   repeat' (first|refine uN ?_|(refine uB ?_;intro b)|(refine uP ?_ ?_<;>intro h<;>try exact zx)|refine da 101 ?_|fail)
   refine fo 3 ?_
   refine Zgt (t:=⟨g,c,d,u,many,i,0,a,y,l⟩) rfl rfl hb hk1 rfl rfl zeroValue3 zeroValue291 ?_ ?_ (by show _=some (Value.chan (if a=many then none else some c));rw[Z2d hae];rfl)
   ·intro h;exact absurd hae (by simp only at h;omega)
   ·intro j v bl hj hRv
    obtain⟨x,rfl,hjm,hI2,hp1,hp2⟩:=back j v bl hj hRv
    repeat' (first|refine uN ?_|(refine uB ?_;intro b)|(refine uP ?_ ?_<;>intro h<;>try exact zx)|refine uG ?_|fail)
    exact Ze (a,y+1,l.erase j,xs.set j x,bl++B) uS (Zf6 uL) hI2 (by simp only;omega)
  ·have hae':¬ (a:Int)=many:=by omega
   repeat' (first|refine uN ?_|(refine uB ?_;intro b)|(refine uP ?_ ?_<;>intro h<;>try exact zx)|refine da 101 ?_|fail)
   refine fo 3 ?_
   refine Zgt (t:=⟨g,c,d,u,many,i,0,a,y,l⟩) rfl rfl hb hk1 rfl rfl zeroValue3 zeroValue291 ?_ ?_ (by show _=some (Value.chan (if a=many then none else some c));rw[Z16 hae];rfl)
   ·intro h
    repeat' (first|refine uN ?_|(refine uB ?_;intro b)|(refine uP ?_ ?_<;>intro h<;>try exact zx)|refine da 101 ?_|fail)
    exact Ze (a+1,y,a::l,xs,B) uS uL (hI.out (by omega)) (by simp only;omega)
   ·intro j v bl hj hRv
    obtain⟨x,rfl,hjm,hI2,hp1,hp2⟩:=back j v bl hj hRv
    repeat' (first|refine uN ?_|(refine uB ?_;intro b)|(refine uP ?_ ?_<;>intro h<;>try exact zx)|refine uG ?_|fail)
    exact Ze (a,y+1,l.erase j,xs.set j x,bl++B) uS (Zf6 uL) hI2 (by simp only;omega)
 obtain⟨rfl,hfin⟩:=hI.all (by omega)
 repeat' (first|refine uN ?_|(refine uB ?_;intro b)|(refine uP ?_ ?_<;>intro h<;>try exact zx)|refine da 101 ?_|fail)
 refine fo 3 ?_
 refine Zx4 rfl rfl rfl ?_
 repeat' (first|refine uN ?_|(refine uB ?_;intro b)|(refine uP ?_ ?_<;>intro h<;>try exact zx)|refine da 101 ?_|fail)
 refine gc (Zm6 _ u _ rfl rfl) ?_
 rintro v L' ⟨rfl,t',ht',rfl⟩
 repeat' (first|refine uN ?_|(refine uB ?_;intro b)|(refine uP ?_ ?_<;>intro h<;>try exact zx)|refine da 101 ?_|fail)
 exact U3 (L':=[t'.at_]::[(bo,_)]::[(be,_)]::B::L0) uL ⟨bo,be,t',xs,B,rfl,ht',hI.lx,hfin,rfl⟩
end
end Go.HL
namespace Go.HL
open Go Go.Proofs Go.Proofs.Tryz
variable[Tasks]
theorem Zap{s p x r:List UInt8}{a b:Nat}(hs:s=p++(x++r))(ha:p.length=a)(hb:a+x.length=b):V0 s a b=(Zbf x:Nat):=by
 unfold V0
 subst ha hb
 rw[hs,← Z18,Z40 (by simp),Z4z rfl]
theorem dec_enc{f:Fr}(hb:¬Wc f):Zpv (Ze5 f)=(f,none):=by
 have hl:=Zr6 f
 have ht:(Ze5 f).take 18=Zfv f:=by unfold Ze5;exact Z40 (Zdt f)
 have hd:(Ze5 f).drop 18=Ze7 (Zej (Zfv f)):=by unfold Ze5;exact Z4z (Zdt f)
 obtain⟨fr,to,dl,kd,att,yes,ph,pr,pa⟩:=f
 have hq:=hb
 unfold Wc at hq
 simp only at hq
 have hy:0≤Zfd yes∧Zfd yes<2:=by unfold Zfd;split<;>omega
 have hyd:decide (Zfd yes=1)=yes:=by cases yes<;>rfl
 generalize hE:Ze5 ⟨fr,to,dl,kd,att,yes,ph,pr,pa⟩=s at*
 have l1:=fun z=>Zy z 1
 have l4:=fun z=>Zy z 4
 have es:s=Zv fr 1++(Zv to 1++(Zv dl 1++(Zv kd 1++(Zv att 4++(Zv (Zfd yes) 1++(Zv ph 1++(Zv pr 4++(Zv pa 4++Ze7 (Zej (Zfv ⟨fr,to,dl,kd,att,yes,ph,pr,pa⟩)))))))))):=by
  rw[← hE];unfold Ze5 Zfv Zp1 Zp2;simp only[Z18]
 have f0:V0 s 0 1=fr:=by rw[Zap (a:=0) (b:=1) (p:=[]) (x:=Zv fr 1) es rfl (by rw[l1]),Qx (by omega) (by omega)]
 have f1:V0 s 1 2=to:=by rw[Zap (p:=Zv fr 1) es (by simp[l1]) (by rw[l1]),Qx (by omega) (by omega)]
 have f2:V0 s 2 3=dl:=by rw[Zap (p:=Zv fr 1++Zv to 1) (x:=Zv dl 1) (by rw[es];simp only[Z18];rfl) (by simp[l1]) (by rw[l1]),Qx (by omega) (by omega)]
 have f3:V0 s 3 4=kd:=by rw[Zap (p:=Zv fr 1++Zv to 1++Zv dl 1) (x:=Zv kd 1) (by rw[es];simp only[Z18];rfl) (by simp[l1]) (by rw[l1]),Qx (by omega) (by omega)]
 have f4:V0 s 4 8=att:=by rw[Zap (p:=Zv fr 1++Zv to 1++Zv dl 1++Zv kd 1) (x:=Zv att 4) (by rw[es];simp only[Z18];rfl) (by simp[l1]) (by rw[l4]),Qx (by omega) (by omega)]
 have f5:V0 s 8 9=Zfd yes:=by rw[Zap (p:=Zv fr 1++Zv to 1++Zv dl 1++Zv kd 1++Zv att 4) (x:=Zv (Zfd yes) 1) (by rw[es];simp only[Z18];rfl) (by simp[l1,l4]) (by rw[l1]),Qx (by omega) (by omega)]
 have f6:V0 s 9 10=ph:=by rw[Zap (p:=Zv fr 1++Zv to 1++Zv dl 1++Zv kd 1++Zv att 4++Zv (Zfd yes) 1) (x:=Zv ph 1) (by rw[es];simp only[Z18];rfl) (by simp[l1,l4]) (by rw[l1]),Qx (by omega) (by omega)]
 have f7:V0 s 10 14=pr:=by rw[Zap (p:=Zv fr 1++Zv to 1++Zv dl 1++Zv kd 1++Zv att 4++Zv (Zfd yes) 1++Zv ph 1) (x:=Zv pr 4) (by rw[es];simp only[Z18];rfl) (by simp[l1,l4]) (by rw[l4]),Qx (by omega) (by omega)]
 have f8:V0 s 14 18=pa:=by rw[Zap (p:=Zv fr 1++Zv to 1++Zv dl 1++Zv kd 1++Zv att 4++Zv (Zfd yes) 1++Zv ph 1++Zv pr 4) (x:=Zv pa 4) (by rw[es];simp only[Z18];rfl) (by simp[l1,l4]) (by rw[l4]),Qx (by omega) (by omega)]
 have hfr:Zvp s=⟨fr,to,dl,kd,att,yes,ph,pr,pa⟩:=by unfold Zvp;rw[f0,f1,f2,f3,f4,f5,f6,f7,f8,hyd]
 unfold Zpv
 rw[Z16 (by omega),Z16 (by rw[ht,hd];simp),Z16 (by omega),hfr,Z16 hb]
def Zzz:Fr:=⟨0,0,0,1,0,false,⟨0,0,0⟩⟩
theorem fr1_ok:¬Wc Zzz:=by decide
def FrR(i:Nat)(x:Fr)(bl:List Zp):Prop:=x=Zzz∧bl=[]
attribute [local irreducible] HW HO HQ HD HC QOp Has Upd Yi Gets Vv W6 Xn Zaf Wa Yz Zcl Xy
section
attribute [local irreducible] Ze5 Zpv Zej Ze7
theorem Zvj(T:Nat)(E:Nat→Addr)(b d i:Nat)(s:List UInt8)(f1 f2:Nat × Nat)(L:Za)(hb:Has L b (.cells ⟨[sl d 0 1 1]⟩ 97 f1))(hd:Has L d (.cells ⟨[bs s]⟩ 9 f2))(hG:Er T E [1,2,7] L)(hi:i<1)(hs:s.length≤1000000)(he:Zpv s=(Zzz,none)):
  HC prog 163 [iv i,pt b 0] L (fun v L'=>∃x bl,v=.tuple ⟨[.agg ⟨fc x⟩,.nilIface]⟩∧FrR i x bl∧(∀p∈bl,Zet p.2=true)∧L'=bl::L):=by
 have kd:=fun L hG=>Zpx T E s L hG hs
 rw[he]at kd
 obtain rfl:i=0:=by omega
 generalize b=b0 at hb ⊢
 refine uE func163 ntmps163 ?_
 repeat' (first|refine uN ?_|refine X7 (qC (kd _ (by repeat (first|exact hG|apply Errs.cons)))) ?_|(refine uB ?_;intro b)|fail)
 exact U3 (L':=[]::L) uL ⟨Zzz,[],rfl,⟨rfl,rfl⟩,fun p hp=>(by cases hp),rfl⟩ (hx:=Xj S (hg:=Ym _))
section
variable[Go.ConcR.Payload]
theorem Znh{t:Tk}{C E0 g:Nat}{o0:Array Value}{f0:Nat × Nat}{v0:Value}{Lr L0:Za}(T:Nat)(E:Nat→Addr)(hT:Tasks.T=240)(h:AtC C (.cells o0 E0 f0) Lr)(hl:o0[0]?=some v0)(h12:t.st=12)
  (hro:∀p∈Lr.flatten,Zq1 p.2=true)(hls:LS Lr.flatten L0.flatten)(hE:Ez T E Lr)
  (hR:∀i v bl,Tasks.R g i v bl↔∃x,v=Zde i (fc x)∧FrR i x bl):
  HC prog 53 [] ([t.at_]::L0) (fun v L'=>∃t':Tk,t'.st=12∧v=.bool true∧L'=[t'.at_]::L0):=by
 have kt:=fun L=>Zjt Zzz L fr1_ok
 have hd:Zpv (Ze5 Zzz)=(Zzz,none):=dec_enc fr1_ok
 have hsl:=Zr6 Zzz
 generalize Ze5 Zzz=s at*
 have kr:=fun L hG=>Zjj T E 2 1 L hG
 rw[show Zai 2 1=none from rfl]at kr
 have ka:=fun b d=>(Zu9 (t:=t) (C:=C) (E:=E0) (F:=163) (cap:=[pt b 0]) (g:=g) (many:=1) (wk:=2) (o:=o0) (f:=f0) (v0:=v0) (Lr:=[(b,Zr (.cells ⟨[sl d 0 1 1]⟩ 97 (0,0)))]::[(d,Zr (.cells ⟨[bs s]⟩ 9 (0,0)))]::Lr) (L0:=[(b,Zr (.cells ⟨[sl d 0 1 1]⟩ 97 (0,0)))]::[(d,Zr (.cells ⟨[bs s]⟩ 9 (0,0)))]::L0) FrR hT (h.mono fun p hp=>by simp[hp]) hl h12 (by omega) (by omega) (by omega)
  (fun p hp=>by
   simp only[Z17,Z19,Z2b,Z2h]at hp
   rcases hp with rfl|rfl|hp
   ·exact Wj _ _ _
   ·exact Wj _ _ _
   ·exact hro p hp) (LS.k (LS.k hls))
  (fun i hi X=>Zvj T E b d i s _ _ _ (Za2 Zk) (Za2 (Zb Zk)) ((hE.er [1,2,7]).mono fun b o hb=>Za2 (Zb (Zb hb))) hi (by omega) hd) hR)
 have hG:Er T E [2,3] L0:=(hE.er [2,3]).mono fun b o hb=>by unfold Has at *;exact hls.mem hb
 have kD:∀d,HC prog 109 [sl d 0 1 1,iv 2] ([(d,.cells ⟨[bs s]⟩ 9)]::[t.at_]::L0) (fun v L'=>∃(t':Tk) (bo:Nat),t'.st=12∧v=.tuple ⟨[sl bo 0 1 1,.nilIface]⟩∧L'=[t'.at_]::[(bo,.cells ⟨fc Zzz⟩ 131)]::L0):=fun d=>by
  refine uE func109 ntmps109 ?_
  repeat' (first|refine uN ?_|refine X7 (qC (kr _ (by repeat (first|exact hG|apply Errs.cons)))) ?_|(refine uB ?_;intro b)|(refine uP ?_ ?_<;>intro h<;>try exact zx)|fail)
  refine gc ((((ka b d).wk (.ls (show LS _ ([(b,Zr (.cells ⟨[sl d 0 1 1]⟩ 97 (0,0)))]::[(d,Zr (.cells ⟨[bs s]⟩ 9 (0,0)))]::[t.at_]::L0:Za).flatten from uL))).wk (Zpi Xx Z1i)).wk (Zpi (Zeb Xx) Z1i)) ?_
  rintro v L' ⟨bo,be,t',xs,B,rfl,ht',hx,hall,rfl⟩
  obtain⟨x,bl,h1,⟨rfl,rfl⟩,-⟩:=hall 0 (by omega)
  obtain rfl:xs=[Zzz]:=by
   match xs,hx with
   | [y],_=>simpa using h1
  repeat' (first|refine uN ?_|(refine uB ?_;intro b)|(refine uP ?_ ?_<;>intro h<;>try exact zx)|fail)
  refine Wf (L':=[t'.at_]::[(bo,.cells ⟨fc Zzz⟩ 131)]::[(be,.cells ⟨[.nilIface]⟩ 28)]::L0) ?_ uL
  refine Zm (σ:=Nat) (fun i=>[(4,Yt),(5,.nilIface),(7,sl bo 0 1 1),(27,sl be 0 1 1),(28,iv 1),(29,iv i)])
   (fun _=>[t'.at_]::[(bo,.cells ⟨fc Zzz⟩ 131)]::[(be,.cells ⟨[.nilIface]⟩ 28)]::L0) (fun i=>i≤1) (fun i=>1-i) 0 uS (Z15 _) (by omega) ?_
  rintro i hi
  by_cases hlt:i<1
  ·obtain rfl:i=0:=by omega
   have hg:([.nilIface]:List Value)[0+((0:Nat):Int).toNat]?=some .nilIface:=rfl
   repeat' (first|refine uN ?_|(refine uB ?_;intro b)|(refine uP ?_ ?_<;>intro h<;>try exact zx)|fail)
   exact Ze 1 uS uL (by omega) (by omega)
  ·obtain rfl:i=1:=by omega
   repeat' (first|refine uN ?_|(refine uB ?_;intro b)|(refine uP ?_ ?_<;>intro h<;>try exact zx)|fail)
   exact U3 (L':=[t'.at_]::[(bo,_)]::L0) uL ⟨t',bo,ht',rfl,rfl⟩
 refine uE func53 ntmps53 ?_
 repeat' (first|refine uN ?_|refine uC (kt _) ?_|(refine uB ?_;intro b)|(refine uP ?_ ?_<;>intro h<;>try exact zx)|fail)
 refine gc (kD _) ?_
 rintro v L' ⟨t',bo,ht',rfl,rfl⟩
 repeat' (first|refine uN ?_|(refine uB ?_;intro b)|(refine uP ?_ ?_<;>intro h<;>try exact zx)|fail)
 exact Z3 (L':=[t'.at_]::L0) uZ ⟨t',ht',rfl,rfl⟩
end
end
theorem Zkz(c:Int)(L:Za):HC prog 56 [iv c] L (fun v L'=>v=.agg ⟨[iv c,iv (-1)]⟩∧L'=L):=by
 refine uE func56 ntmps56 ?_
 repeat' (first|refine uN ?_|(refine uB ?_;intro b)|fail)
 exact Z3 uZ ⟨rfl,rfl⟩ (hv:=Xj S (hg:=Zc rfl (Zc rfl Z6)))
theorem Zvo(L:Za):HC prog 106 [] L (fun v L'=>v=.agg ⟨[iv 0,iv (-1)]⟩∧L'=L):=by
 refine uE func106 ntmps106 ?_
 repeat' (first|refine uN ?_|(refine uB ?_;intro b)|fail)
 exact Z3 uZ ⟨rfl,rfl⟩ (hv:=Xj S (hg:=Zc rfl (Zc rfl Z6)))
theorem Z1x(wk many:Int)(L:Za):HC prog 55 [iv wk,iv many] L (fun v L'=>v=.agg ⟨[iv (cdN (Zai wk many)),iv (-1)]⟩∧L'=L):=by
 have kb:=Zkz
 have kf:=Zvo
 unfold Zai
 refine uE func55 ntmps55 ?_
 by_cases h1:wk<1
 ·simp only[Z2d h1]
  repeat' (first|refine uN ?_|refine uC (kb _ _) ?_|(refine uB ?_;intro b)|(refine uP ?_ ?_<;>intro h<;>try exact zx)|fail)
  all_goals exact Z3 uZ ⟨rfl,rfl⟩ (hv:=Xj S (hg:=Zc rfl (Zc rfl Z6)))
 by_cases h2:16<wk
 ·simp only[Z16 h1,Z2d h2]
  iterate 12 (try (first|refine uN ?_|(refine uB ?_;intro b)))
  refine uP ?_ ?_<;>intro h
  ·exact absurd h h1
  iterate 14 (try (first|refine uN ?_|(refine uB ?_;intro b)))
  refine uP ?_ ?_<;>intro h
  rotate_left
  ·exact absurd h2 h
  iterate 2 (try (refine uN ?_))
  refine gc (kb _ _) ?_
  rintro v L' ⟨rfl,rfl⟩
  iterate 6 (try (refine uN ?_))
  exact Z3 uZ ⟨rfl,rfl⟩ (hv:=Xj S (hg:=Zc rfl (Zc rfl Z6)))
 by_cases h3:100<many
 ·simp only[Z16 h1,Z16 h2,Z2d h3]
  iterate 12 (try (first|refine uN ?_|(refine uB ?_;intro b)))
  refine uP ?_ ?_<;>intro h
  ·exact absurd h h1
  iterate 14 (try (first|refine uN ?_|(refine uB ?_;intro b)))
  refine uP ?_ ?_<;>intro h
  ·exact absurd h h2
  iterate 9 (try (first|refine uN ?_|(refine uB ?_;intro b)))
  refine uP ?_ ?_<;>intro h
  rotate_left
  ·exact absurd h3 h
  iterate 2 (try (refine uN ?_))
  refine gc (kb _ _) ?_
  rintro v L' ⟨rfl,rfl⟩
  iterate 6 (try (refine uN ?_))
  exact Z3 uZ ⟨rfl,rfl⟩ (hv:=Xj S (hg:=Zc rfl (Zc rfl Z6)))
 simp only[Z16 h1,Z16 h2,Z16 h3]
 iterate 12 (try (first|refine uN ?_|(refine uB ?_;intro b)))
 refine uP ?_ ?_<;>intro h
 ·exact absurd h h1
 iterate 14 (try (first|refine uN ?_|(refine uB ?_;intro b)))
 refine uP ?_ ?_<;>intro h
 ·exact absurd h h2
 iterate 9 (try (first|refine uN ?_|(refine uB ?_;intro b)))
 refine uP ?_ ?_<;>intro h
 ·exact absurd h h3
 iterate 4 (try (refine uN ?_))
 refine gc (kf _) ?_
 rintro v L' ⟨rfl,rfl⟩
 iterate 6 (try (refine uN ?_))
 exact Z3 uZ ⟨rfl,rfl⟩ (hv:=Xj S (hg:=Zc rfl (Zc rfl Z6)))
def rlL(aw:Option Addr)(capw:Nat)(hv:Value)(m:Ld):List Value:=[iv m.id,iv m.deal,iv m.att,.slice aw m.w.length capw,bs m.state,iv m.wait,hv,iv m.phase,iv m.seen]
def Qg(lp:Nat)(aw:Option Addr)(capw:Nat)(hv:Value)(hc:List Zp)(m:Ld):List Zp:=(lp,.cells ⟨rlL aw capw hv m⟩ 217)::hc
def Vk(hs:List Fr)(i:Int):Option Fr:=hs.find? fun f=>decide (f.fr=i)
theorem Zz1{hs:List Fr}{i:Int}{k:Nat}(h:Vk (hs.take k) i=none)(hk:k<hs.length)(hn:(hs[k]).fr≠i):Vk (hs.take (k+1)) i=none:=by
 unfold Vk at*
 rw[Z2n hk,List.find?_append,h]
 simp[hn]
theorem from_hit{hs:List Fr}{i:Int}{k:Nat}(h:Vk (hs.take k) i=none)(hk:k<hs.length)(hn:(hs[k]).fr=i):Vk hs i=some hs[k]:=by
 unfold Vk at*
 have e:hs.take k++hs.drop k=hs:=Z35 _ _
 have e2:(hs.take k++hs.drop k).find? (fun f=>decide (f.fr=i))=some hs[k]:=by
  rw[List.find?_append,h,Z4u hk,List.find?_cons_of_pos (by simp[hn])]
  rfl
 rwa [e]at e2
theorem Zab(lp:Nat)(aw:Option Addr)(capw:Nat)(hv:Value)(hc:List Zp)(m:Ld)(kind phase:Int)(its:Bool)(L:Za)(hw:m.w.length≤7)(hits:its=decide (kind≠3)):HC prog 145 [pt lp 0,iv kind,iv phase,.bool its] (Qg lp aw capw hv hc m::L)
  (fun v L'=>∃c,Z0 v (Zdo m kind phase) c∧L'=c::Qg lp aw capw hv hc m::L):=by
 refine uE func145 ntmps145 ?_
 repeat' (first|refine uN ?_|(refine uB ?_;intro b)|(refine uP ?_ ?_<;>intro h<;>try exact zx)|refine uM ?_|fail)
 refine Zkb ?_
 refine Zm (σ:=Nat × Value × List Zp) (fun q=>[(0,pt lp 0),(1,iv kind),(2,iv phase),(3,.bool its),(9,q.2.1),(10,iv q.1)]) (fun q=>q.2.2::Qg lp aw capw hv hc m::L) (fun q=>q.1≤m.w.length∧Z0 q.2.1 ((List.range q.1).flatMap (Zbo m kind phase)) q.2.2) (fun q=>m.w.length-q.1) (0,Yt,[]) uS (Z15 _) ⟨by simp,Zt⟩ ?_
 rintro⟨i,v,c⟩ ⟨hi,hv'⟩
 simp only at hi hv' ⊢
 have hle:=U1 (Zbo m kind phase) (Zgn m kind phase) i
 have step:∀x,Zbo m kind phase i=x→(List.range (i+1)).flatMap (Zbo m kind phase)=(List.range i).flatMap (Zbo m kind phase)++x:=fun x hx=>by rw[Zgb,hx]
 by_cases hlt:i<m.w.length
 ·by_cases hid:kind=3∧(i:Int)=m.id
  ·have e:Zbo m kind phase i=[]:=Z16 (by omega)
   obtain rfl:its=false:=by rw[hits];simp[hid.1]
   repeat' (first|refine uN ?_|(refine uB ?_;intro b)|(refine uP ?_ ?_<;>intro h<;>try exact zx)|refine uG ?_|fail)
   refine Zn (i+1,v,c) uS (Z15 _) ⟨by simp only;omega,?_⟩ (by simp only;omega)
   simp only
   rw[step _ e,Z2p]
   exact hv'
  ·have e:Zbo m kind phase i=[⟨m.id,i,m.deal,kind,m.att,false,⟨phase,0,0⟩⟩]:=Z2d (by omega)
   by_cases hid2:(i:Int)=m.id
   ·obtain rfl:its=true:=by rw[hits];simp;omega
    repeat' (first|refine uN ?_|(refine uB ?_;intro b)|(refine uP ?_ ?_<;>intro h<;>try exact zx)|refine uG ?_|fail)
    all_goals refine fo 1 ?_
    all_goals refine Zfc S ⟨m.id,i,m.deal,kind,m.att,false,⟨phase,0,0⟩⟩ hv' Zi W8 ?_
    all_goals intro v' c' hv2
    all_goals repeat' (first|refine uN ?_|(refine uB ?_;intro b)|(refine uP ?_ ?_<;>intro h<;>try exact zx)|refine uG ?_|fail)
    all_goals refine Ze (i+1,v',c') uS uL ⟨by simp only;omega,?_⟩ (by simp only;omega)
    all_goals simp only
    all_goals rw[step _ e]
    all_goals exact hv2
   ·repeat' (first|refine uN ?_|(refine uB ?_;intro b)|(refine uP ?_ ?_<;>intro h<;>try exact zx)|refine uG ?_|fail)
    all_goals refine fo 1 ?_
    all_goals refine Zfc S ⟨m.id,i,m.deal,kind,m.att,false,⟨phase,0,0⟩⟩ hv' Zi W8 ?_
    all_goals intro v' c' hv2
    all_goals repeat' (first|refine uN ?_|(refine uB ?_;intro b)|(refine uP ?_ ?_<;>intro h<;>try exact zx)|refine uG ?_|fail)
    all_goals refine Ze (i+1,v',c') uS uL ⟨by simp only;omega,?_⟩ (by simp only;omega)
    all_goals simp only
    all_goals rw[step _ e]
    all_goals exact hv2
 ·repeat' (first|refine uN ?_|(refine uB ?_;intro b)|(refine uP ?_ ?_<;>intro h<;>try exact zx)|refine uG ?_|fail)
  have hi2:i=m.w.length:=by omega
  subst hi2
  exact Z3 (LS.refl _) ⟨c,hv',rfl⟩
theorem V8(lp:Nat)(aw:Option Addr)(capw:Nat)(hv:Value)(hc:List Zp)(m:Ld)(hs:List Fr)(i:Int)(L:Za)(hH:Z0 hv hs hc)(hl:hs.length≤7):HC prog 194 [pt lp 0,iv i] (Qg lp aw capw hv hc m::L)
  (fun v L'=>v=.tuple ⟨[.agg ⟨fc ((Vk hs i).getD Yb)⟩,.bool (Vk hs i).isSome]⟩∧L'=Qg lp aw capw hv hc m::L):=by
 obtain⟨ah,caph,rfl,hcap,hR⟩:=Vec.rd hH Zi
 refine uE func194 ntmps194 ?_
 repeat' (first|refine uN ?_|(refine uB ?_;intro b)|(refine uP ?_ ?_<;>intro h<;>try exact zx)|fail)
 generalize b=b4
 refine Zm (σ:=Nat) (fun k=>[(0,pt lp 0),(1,iv i),(4,pt b4 0),(6,iv k)]) (fun _=>[(b4,.cells ⟨fc Yb⟩ 131)]::Qg lp aw capw (.slice ah hs.length caph) hc m::L) (fun k=>k≤hs.length∧Vk (hs.take k) i=none) (fun k=>hs.length-k) 0 uS (Z15 _) ⟨by omega,rfl⟩ ?_
 rintro k ⟨hk,hn⟩
 by_cases hlt:k<hs.length
 ·obtain⟨bh,ih,lh,Eh,frh,hah,hbh,hgh⟩:=((hR L).inn (lp,.cells ⟨rlL aw capw (.slice ah hs.length caph) m⟩ 217)).at (j:=(k:Int)) (by omega) (by omega)
  subst hah
  have hg0:Gets lh (ih+(k:Int).toNat*9) (fc hs[k]):=hgh
  by_cases hi:(hs[k]).fr=i
  ·rw[from_hit hn hlt hi]
   generalize hs[k]=x at*
   repeat' (first|refine uN ?_|(refine uB ?_;intro b)|(refine uP ?_ ?_<;>intro h<;>try exact zx)|fail)
   exact U3 (L':=Qg lp aw capw (.slice (some ⟨bh,ih,none⟩) hs.length caph) hc m::L) uL ⟨rfl,rfl⟩ (hx:=Xj S (hg:=Ym _))
  ·have hn2:=Zz1 hn hlt hi
   generalize hs[k]=x at*
   repeat' (first|refine uN ?_|(refine uB ?_;intro b)|(refine uP ?_ ?_<;>intro h<;>try exact zx)|fail)
   exact Ze (k+1) uS uL ⟨by omega,hn2⟩ (by omega)
 ·rw[Z3d (by omega)]at hn
  rw[hn]
  repeat' (first|refine uN ?_|(refine uB ?_;intro b)|(refine uP ?_ ?_<;>intro h<;>try exact zx)|fail)
  exact U3 (L':=Qg lp aw capw (.slice ah hs.length caph) hc m::L) uL ⟨rfl,rfl⟩ (hx:=Xj S (hg:=Ym _))
def Znl(h:Nat):Nat→Nat
 | 0=>0
 | n+1=>Znl h n+h / 2 ^ n % 2
theorem cnt_full:∀n<8,∀h<2 ^ n,Znl h n=n↔h=2 ^ n-1:=by decide +kernel
theorem cnt_or:∀n<8,∀h<2 ^ n,∀k<n,h / 2 ^ k % 2=0→Znl (h ||| 2 ^ k) n=Znl h n+1:=by decide +kernel
theorem rbit_or:∀h<128,∀k<7,∀i<7,(h ||| 2 ^ k) / 2 ^ i % 2=if i=k then 1 else h / 2 ^ i % 2:=by decide +kernel
theorem Zr4:∀n,Znl 0 n=0
 | 0=>rfl
 | n+1=>by simp[Znl,Zr4 n]
structure RelH(m:Ld)(hs:List Fr):Prop where
 w7:m.w.length≤7
 tl:m.told.length=7
 lt:m.heard<2 ^ m.w.length
 bit:∀i<m.w.length,m.heard / 2 ^ i % 2=1↔(Vk hs i).isSome=true
 told:∀i<m.w.length,∀f,Vk hs i=some f→m.told.getD i Uc=f.s
 cnt:hs.length=Znl m.heard m.w.length
theorem RelH.of{m m':Ld}{hs:List Fr}(h:RelH m hs)(e1:m'.w=m.w)(e2:m'.told=m.told)(e3:m'.heard=m.heard):RelH m' hs:=by
 obtain⟨a,b,c,d,e,f⟩:=h
 exact⟨by rw[e1];exact a,by rw[e2];exact b,by rw[e1,e3];exact c,by rw[e1,e3];exact d,by rw[e1,e2];exact e,by rw[e1,e3];exact f⟩
theorem RelH.new{m:Ld}(h7:m.w.length≤7)(ht:m.told.length=7)(h0:m.heard=0):RelH m []:=by
 refine⟨h7,ht,by rw[h0];exact Z3p _,fun i _=>?_,fun i _ f h=>by simp[Vk]at h,by rw[h0,Zr4];rfl⟩
 rw[h0];simp[Vk]
theorem RelH.prep{m:Ld}{hs:List Fr}(h:RelH m hs)(p:Int):RelH (Qn m p) []:=RelH.new h.w7 h.tl rfl
theorem RelH.le7{m:Ld}{hs:List Fr}(h:RelH m hs):hs.length≤m.w.length:=by
 have key:∀n h,Znl h n≤n:=by
  intro n h
  induction n with
  | zero=>simp[Znl]
  | succ n ih=>simp only[Znl];omega
 rw[h.cnt];exact key _ _
theorem Zix(hs:List Fr)(f:Fr)(i:Int):Vk (hs++[f]) i=(Vk hs i).or (if f.fr=i then some f else none):=by
 unfold Vk
 rw[List.find?_append]
 by_cases h:f.fr=i<;>simp[h]
theorem RelH.m2{m:Ld}{hs:List Fr}{f:Fr}(h:RelH m hs)(hf:X4 m f):RelH (Zbj m f) (hs++[f]):=by
 obtain⟨h1,h2,h3,h4,h5,h6,h7⟩:=hf
 obtain⟨k,hk⟩:=Z2t h5
 rw[hk]at h6 h7
 have hkl:k<m.w.length:=by omega
 simp only[Z2w]at h7
 have hw:(Zbj m f).w=m.w:=by unfold Zbj Zdi;split<;>rfl
 have hh:(Zbj m f).heard=m.heard ||| 2 ^ k:=by show m.heard ||| 2 ^ f.fr.toNat=_;rw[hk];rfl
 have ht:(Zbj m f).told=m.told.set k f.s:=by show m.told.set f.fr.toNat f.s=_;rw[hk];rfl
 have h128:m.heard<128:=Z3k h.lt (by have:=Z3e (n:=2) (by decide) h.w7;simpa using this)
 have hno:Vk hs k=none:=by
  have:=(h.bit k hkl)
  cases hq:Vk hs k with
  | none=>rfl
  | some g=>rw[hq]at this;have:=this.2 rfl;omega
 refine⟨by rw[hw];exact h.w7,by rw[ht];simp[h.tl],by rw[hw,hh];exact Zgz h.lt hkl,fun i hi=>?_,fun i hi g hg=>?_,?_⟩
 ·rw[hw]at hi
  rw[hh,rbit_or m.heard h128 k (by have:=h.w7;omega) i (by have:=h.w7;omega),Zix,hk]
  by_cases hik:i=k
  ·subst hik;simp
  ·rw[Z16 hik,Z16 (by omega),h.bit i hi]
   simp
 ·rw[hw]at hi
  rw[Zix,hk]at hg
  rw[ht]
  by_cases hik:i=k
  ·subst hik
   rw[hno]at hg
   simp at hg
   subst hg
   have:=h.tl
   have:=h.w7
   simp[List.getD,h.tl,show i<7 by omega]
  ·rw[Z16 (by omega)]at hg
   have:=h.told i hi g (by simpa using hg)
   simp only[List.getD]at this ⊢
   rw[Z4a (by omega)]
   exact this
 ·rw[hw,hh,cnt_or m.w.length (by have:=h.w7;omega) m.heard h.lt k hkl h7,Z2i,h.cnt]
  rfl
def Xt(m:Ld)(hs:List Fr):List Fr:=
 if m.wait=2∧m.heard=2 ^ m.w.length-1 then [] else
 if m.wait=2∨(Xz m.w m.heard).1=false then hs else
 if m.wait=6 then hs else
 if (Yc (Xh m)).2 then hs else []
def Ql(m:Ld)(hs:List Fr)(f:Fr):List Fr:=
 if m.wait=0∨¬ X4 m f then hs else
 if f.yes=false then hs else Xt (Zbj m f) (hs++[f])
theorem RelH.done{m:Ld}{hs:List Fr}(h:RelH m hs):RelH (V5 m) hs:=h.of rfl rfl rfl
theorem RelH.count{m:Ld}{hs:List Fr}(h:RelH m hs):RelH (Ya m).1 (Xt m hs):=by
 unfold Ya Xt
 split
 ·exact h.prep _
 split
 ·exact h
 split
 ·exact h.done
 split
 ·exact h.done
 ·exact h.prep _
theorem RelH.hear{m:Ld}{hs:List Fr}(h:RelH m hs)(f:Fr):RelH (Zw m f).1 (Ql m hs f):=by
 unfold Zw Ql
 split
 ·exact h
 ·rename_i hw
  have hfit:X4 m f:=Z6n.1 fun h0=>hw (.inr h0)
  split
  ·unfold noM
   have h1:RelH (Zdi m f) hs:=by unfold Zdi;split;exact h;exact h.of rfl rfl rfl
   split
   ·exact h1.done
   ·exact h1.of rfl rfl rfl
  ·exact(h.m2 hfit).count
theorem Zhg(lp:Nat)(aw:Option Addr)(capw:Nat)(hv:Value)(hc:List Zp)(m:Ld)(L:Za)(hw:m.w.length≤7):HC prog 142 [pt lp 0] (Qg lp aw capw hv hc m::L)
  (fun v L'=>∃c,Z0 v (Xw m) c∧L'=c::Qg lp aw capw hv hc m::L):=by
 unfold Xw
 refine uE func142 ntmps142 ?_
 repeat' (first|refine uN ?_|(refine uP ?_ ?_<;>intro h<;>try exact zx)|fail)
 ·refine gc (Zab lp aw capw hv hc m 1 0 true L hw rfl) ?_
  rintro v L' ⟨c,hv2,rfl⟩
  repeat' (first|refine uN ?_|(refine uP ?_ ?_<;>intro h<;>try exact zx)|fail)
  exact Z3 (LS.refl _) ⟨c,by rw[Z2d h];exact hv2,rfl⟩
 ·refine gc (Zab lp aw capw hv hc m 3 0 false L hw rfl) ?_
  rintro v L' ⟨c,hv2,rfl⟩
  repeat' (first|refine uN ?_|(refine uP ?_ ?_<;>intro h<;>try exact zx)|fail)
  exact Z3 (LS.refl _) ⟨c,by rw[Z16 h];exact hv2,rfl⟩
theorem Zbu(lp:Nat)(aw:Option Addr)(capw:Nat)(hv:Value)(hc:List Zp)(m:Ld)(phase:Int)(L:Za)(hw:m.w.length≤7):HC prog 195 [pt lp 0,iv phase] (Qg lp aw capw hv hc m::L)
  (fun v L'=>∃c,Z0 v (Zdo (V5 m) 7 phase) c∧L'=c::Qg lp aw capw hv hc (V5 m)::L):=by
 refine uE func195 ntmps195 ?_
 repeat' (first|refine uN ?_|fail)
 refine gc (Zab lp aw capw hv hc (V5 m) 7 phase true L hw rfl) ?_
 rintro v L' ⟨c,hv2,rfl⟩
 repeat' (first|refine uN ?_|fail)
 exact Z3 (LS.refl _) ⟨c,hv2,rfl⟩
theorem Zbb(lp:Nat)(aw:Option Addr)(capw:Nat)(hv:Value)(hc:List Zp)(m:Ld)(hs:List Fr)(phase:Int)(L:Za)(hw:m.w.length≤7)(hH:Z0 hv hs hc):HC prog 196 [pt lp 0,iv phase] (Qg lp aw capw hv hc m::L)
  (fun v L'=>∃c,Z0 v (Zdo (Qn m phase) 5 phase) c∧L'=c::Qg lp aw capw Yt [] (Qn m phase)::L):=by
 obtain⟨ah,caph,rfl,hcap,hR⟩:=Vec.rd hH Zi
 refine uE func196 ntmps196 ?_
 repeat' (first|refine uN ?_|fail)
 refine Uk (L':=Qg lp aw capw Yt [] (Qn m phase)::L) ?_ (LS.both _ (LS.skips hc (LS.refl _)))
 refine gc (Zab lp aw capw Yt [] (Qn m phase) 5 phase true L hw rfl) ?_
 rintro v L' ⟨c,hv2,rfl⟩
 repeat' (first|refine uN ?_|fail)
 exact Z3 (LS.refl _) ⟨c,hv2,rfl⟩
theorem Zgx{m:Ld}{hs:List Fr}{f:Fr}(h:RelH m hs)(h0:0≤f.fr)(h1:f.fr<m.w.length):(Vk hs f.fr).isSome=decide (m.heard / 2 ^ f.fr.toNat % 2=1):=by
 obtain⟨k,hk⟩:=Z2t h0
 rw[hk]at h1 ⊢
 have:=h.bit k (by omega)
 simp only[Z2w]
 by_cases hb:m.heard / 2 ^ k % 2=1
 ·rw[Z29 hb,this.1 hb]
 ·rw[Z3t hb]
  cases hq:(Vk hs k).isSome with
  | false=>rfl
  | true=>exact absurd (this.2 hq) hb
def Zsf(m:Ld)(f:Fr):Prop:=f.kd=m.wait∧f.dl=m.deal∧f.att=m.att∧f.to=m.id∧0≤f.fr∧f.fr<m.w.length
theorem LS.rl{x:Zp}{c:List Zp}{L:Za}:LS (c::[x]::L).flatten ((x::c)::L).flatten:=LS.of_perm (by simp only[Z17,Z19,Z2b];exact Z6y)
theorem LS.lr{x:Zp}{c:List Zp}{L:Za}:LS ((x::c)::L).flatten (c::[x]::L).flatten:=LS.of_perm (by simp only[Z17,Z19,Z2b];exact List.perm_middle.symm)
theorem ho_rl{P:Program}{n:Nat}{ops l:List Oper}{Q:Exit→Z9→Za→Prop}{ρ:Z9}{x:Zp}{c:List Zp}{L:Za}(h:HO P n ops Q l ρ (c::[x]::L)):HO P n ops Q l ρ ((x::c)::L):=Uk h LS.rl
theorem hw_lr{P:Program}{n:Nat}{k:Code}{Q:Exit→Z9→Za→Prop}{ρ:Z9}{x:Zp}{c:List Zp}{L:Za}(h:HW P n k Q ρ ((x::c)::L)):HW P n k Q ρ (c::[x]::L):=Wf h LS.lr
theorem Zt4(lp:Nat)(aw:Option Addr)(capw:Nat)(hv:Value)(hc:List Zp)(m:Ld)(hs:List Fr)(f:Fr)(L:Za)(hR:Rd ic 1 L aw m.w)(hck:Ys m.w=none)(hH:Z0 hv hs hc)(rel:RelH m hs)(hq:m.wait=0∨¬ X4 m f∨f.yes=false):
  HC prog 147 [pt lp 0,.agg ⟨fc f⟩] (Qg lp aw capw hv hc m::L) (fun v L'=>∃c hv' hc',Z0 v (Zw m f).2 c∧Z0 hv' (Ql m hs f) hc'∧L'=c::Qg lp aw capw hv' hc' (Zw m f).1::L):=by
 have hw7:=rel.w7
 have hl7:=rel.le7
 by_cases h0:m.wait=0∨¬ Zsf m f
 ·have hn:m.wait=0∨¬ X4 m f:=h0.imp_right fun h hf=>h ⟨hf.1,hf.2.1,hf.2.2.1,hf.2.2.2.1,hf.2.2.2.2.1,hf.2.2.2.2.2.1⟩
  have e1:Zw m f=(m,[]):=Z2d hn
  have e2:Ql m hs f=hs:=Z2d hn
  rw[e1,e2]
  unfold Zsf at h0
  refine uE func147 ntmps147 ?_
  repeat' (first|refine uN ?_|(refine uB ?_;intro b)|(refine uP ?_ ?_<;>intro h<;>try exact zx)|refine uM ?_|fail)
  all_goals first|exact Z3 (L':=[]::Qg lp aw capw hv hc m::L) uL ⟨[],hv,hc,Zt,hH,rfl⟩|(exfalso;omega)
 have hw0:¬ m.wait=0:=fun h=>h0 (.inl h)
 have hf0:Zsf m f:=Classical.not_not.1 fun h=>h0 (.inr h)
 clear h0
 have kf:=fun L=>V8 lp aw capw hv hc m hs f.fr L hH (by omega)
 have hfb:=Zgx rel hf0.2.2.2.2.1 hf0.2.2.2.2.2
 rw[hfb]at kf
 by_cases hb:m.heard / 2 ^ f.fr.toNat % 2=1
 ·have hn:m.wait=0∨¬ X4 m f:=.inr fun hf=>by have:=hf.2.2.2.2.2.2;omega
  have e1:Zw m f=(m,[]):=Z2d hn
  have e2:Ql m hs f=hs:=Z2d hn
  rw[e1,e2]
  rw[Z29 hb]at kf
  unfold Zsf at hf0
  refine uE func147 ntmps147 ?_
  repeat' (first|refine uN ?_|refine X7 (qC (Uu kf 1)) ?_|refine Qm (qC (Uu kf 1)) ?_|(refine uB ?_;intro b)|(refine uP ?_ ?_<;>intro h<;>try exact zx)|refine uM ?_|fail)
  exact Z3 (L':=[]::Qg lp aw capw hv hc m::L) uL ⟨[],hv,hc,Zt,hH,rfl⟩
 have hfit:X4 m f:=⟨hf0.1,hf0.2.1,hf0.2.2.1,hf0.2.2.2.1,hf0.2.2.2.2.1,hf0.2.2.2.2.2,by omega⟩
 rw[Z3t hb]at kf
 have hn:¬ (m.wait=0∨¬ X4 m f):=fun h=>h.elim hw0 (fun h=>h hfit)
 unfold Zsf at hf0
 unfold Zw Ql
 rw[Z16 hn,Z16 hn]
 by_cases hy:f.yes=false
 ·rw[Z2d hy,Z2d hy]
  have hm1w:(Zdi m f).w=m.w:=by unfold Zdi;split<;>rfl
  unfold noM
  by_cases hk2:f.kd=2
  ·have e1:Zdi m f=m:=Z2d hk2
   rw[e1,Z2d (by omega)]
   have kd:=fun L=>Zbu lp aw capw hv hc m 3 L hw7
   refine uE func147 ntmps147 ?_
   repeat' (first|refine uN ?_|refine X7 (qC (Uu kf 1)) ?_|refine Qm (qC (Uu kf 1)) ?_|(refine uB ?_;intro b)|(refine uP ?_ ?_<;>intro h<;>try exact zx)|refine uM ?_|fail)
   all_goals (try exact absurd (hy.symm.trans (by assumption:f.yes=true)) (by decide))
   refine fo 2 ?_
   refine gc (kd _) ?_
   rintro v L' ⟨c,hv2,rfl⟩
   repeat' (first|refine uN ?_|(refine uB ?_;intro b)|(refine uP ?_ ?_<;>intro h<;>try exact zx)|refine uM ?_|fail)
   exact Z3 (L':=c::Qg lp aw capw hv hc (V5 m)::L) uL ⟨c,hv,hc,hv2,hH,rfl⟩
  ·have hw2:¬ (Zdi m f).wait=2:=by unfold Zdi;rw[Z16 hk2];show ¬ m.wait=2;omega
   rw[Z16 hw2]
   by_cases hgt:m.seen<f.s.pr
   ·have e1:Zdi m f={ m with seen:=f.s.pr }:=by unfold Zdi;rw[Z16 hk2,show max m.seen f.s.pr=f.s.pr by omega]
    rw[e1]
    refine uE func147 ntmps147 ?_
    repeat' (first|refine uN ?_|refine X7 (qC (Uu kf 1)) ?_|refine Qm (qC (Uu kf 1)) ?_|(refine uB ?_;intro b)|(refine uP ?_ ?_<;>intro h<;>try exact zx)|refine uM ?_|fail)
    all_goals (try exact absurd (hy.symm.trans (by assumption:f.yes=true)) (by decide))
    exact Z3 (L':=[]::Qg lp aw capw hv hc { m with state:=Zac,wait:=0,seen:=f.s.pr }::L) uL ⟨[],hv,hc,Zt,hH,rfl⟩
   ·have e1:Zdi m f=m:=by unfold Zdi;rw[Z16 hk2,show max m.seen f.s.pr=m.seen by omega]
    rw[e1]
    refine uE func147 ntmps147 ?_
    repeat' (first|refine uN ?_|refine X7 (qC (Uu kf 1)) ?_|refine Qm (qC (Uu kf 1)) ?_|(refine uB ?_;intro b)|(refine uP ?_ ?_<;>intro h<;>try exact zx)|refine uM ?_|fail)
    all_goals (try exact absurd (hy.symm.trans (by assumption:f.yes=true)) (by decide))
    exact Z3 (L':=[]::Qg lp aw capw hv hc { m with state:=Zac,wait:=0 }::L) uL ⟨[],hv,hc,Zt,hH,rfl⟩
 ·exact absurd (hq.elim (fun h=>absurd (.inl h) hn) (fun h=>h.elim (fun h=>absurd (.inr h) hn) id)) hy
theorem Zl0(h i:Nat):h % 2 ^ (i+1)=h % 2 ^ i+2 ^ i*(h / 2 ^ i % 2):=by
 rw[Z6i,Nat.mod_mul]
theorem Zwz(lp:Nat)(aw:Option Addr)(capw:Nat)(hv:Value)(hc:List Zp)(m:Ld)(hs:List Fr)(f:Fr)(L:Za)(hR:Rd ic 1 L aw m.w)(hck:Ys m.w=none)(hH:Z0 hv hs hc)(rel:RelH m hs)(hw:m.wait≠0)(hfit:X4 m f)(hy:f.yes=true)(hkd:f.kd=2):
  HC prog 147 [pt lp 0,.agg ⟨fc f⟩] (Qg lp aw capw hv hc m::L) (fun v L'=>∃c hv' hc',Z0 v (Zw m f).2 c∧Z0 hv' (Ql m hs f) hc'∧L'=c::Qg lp aw capw hv' hc' (Zw m f).1::L):=by
 have rel2:=rel.m2 hfit
 have hl2:=rel2.le7
 have hw72:=rel2.w7
 have e0:Zdi m f=m:=Z2d hkd
 have hm2:Zbj m f={ m with heard:=m.heard ||| 2 ^ f.fr.toNat,told:=m.told.set f.fr.toNat f.s }:=by unfold Zbj;rw[e0]
 have eh:Zw m f=Ya (Zbj m f):=by unfold Zw;rw[Z16 (fun h=>h.elim hw (fun h=>h hfit)),Z16 (by rw[hy];decide)]
 have eh2:Ql m hs f=Xt (Zbj m f) (hs++[f]):=by unfold Ql;rw[Z16 (fun h=>h.elim hw (fun h=>h hfit)),Z16 (by rw[hy];decide)]
 rw[eh,eh2]
 have kf:=fun L=>V8 lp aw capw hv hc m hs f.fr L hH (by have:=rel.le7;have:=rel.w7;omega)
 rw[Zgx rel hfit.2.2.2.2.1 hfit.2.2.2.2.2.1,Z3t (by have:=hfit.2.2.2.2.2.2;omega)]at kf
 have hf0:=hfit
 unfold X4 at hf0
 have hw7:=rel.w7
 have hl7:=rel.le7
 generalize hM:Zbj m f=m2 at*
 have em:∀v' c',Qg lp aw capw v' c' m2=(lp,.cells ⟨rlL aw capw v' m⟩ 217)::c':=fun v' c'=>by rw[hm2];rfl
 have ew:m2.w=m.w:=by rw[hm2]
 have ek:m2.wait=2:=by rw[hm2];show m.wait=2;omega
 refine uE func147 ntmps147 ?_
 repeat apply Za3
 apply Vs
 refine wb (fun b3=>?_)
 repeat' (first|refine uN ?_|refine X7 (qC (Uu kf 1)) ?_|refine Qm (qC (Uu kf 1)) ?_|(refine uB ?_;intro b)|(refine uP ?_ ?_<;>intro h<;>try exact zx)|refine uM ?_|fail)
 all_goals (try exact absurd ((by assumption:f.yes=false).symm.trans hy) (by decide))
 refine fo 3 ?_
 refine ho_rl ?_
 refine Zfc S f hH Zi W8 ?_
 intro v1 c1 hv1
 obtain⟨a1,p1,rfl,-,-⟩:=Vec.rd hv1 Zi
 repeat' (first|refine uN ?_|(refine uB ?_;intro b)|(refine uP ?_ ?_<;>intro h<;>try exact zx)|refine uM ?_|fail)
 refine Wf (L':=c1::[(lp,.cells ⟨rlL aw capw (.slice a1 (hs++[f]).length p1) m⟩ 217)]::[]::[(b3,.cells ⟨fc f⟩ 131)]::L) ?_ uL
 refine hw_lr ?_
 rw[← em]
 generalize hvv:Value.slice a1 (hs++[f]).length p1=v1 at*
 have kf2:=fun i L=>V8 lp aw capw v1 c1 m2 (hs++[f]) i L hv1 (by omega)
 refine Wf (L':=[]::Qg lp aw capw v1 c1 m2::[(b3,.cells ⟨fc f⟩ 131)]::L) ?_ uL
 refine Zm (σ:=Nat × Value × List Zp) (fun q=>[(0,pt lp 0),(3,pt b3 0),(8,iv ((m2.heard % 2 ^ q.1:Nat):Int)),(9,q.2.1),(10,iv q.1)]) (fun q=>q.2.2::Qg lp aw capw v1 c1 m2::[(b3,.cells ⟨fc f⟩ 131)]::L) (fun q=>q.1≤m2.w.length∧Vec 43 3 sc q.2.1 ((List.range q.1).flatMap (Vb m2)) q.2.2) (fun q=>m2.w.length-q.1) (0,Yt,[]) ?_ (Z15 _) ⟨by simp,Zt⟩ ?_
 ·simp only[Nat.pow_zero,Z6u]
  exact uS
 rintro⟨i,vS,cS⟩ ⟨hi,hS⟩
 simp only at hi hS ⊢
 have hle:=Wx (Vb m2) (Zda m2) i
 have hms:=Zl0 m2.heard i
 have hmlt:m2.heard % 2 ^ i<2 ^ i:=Z7a _ (Z3p i)
 by_cases hlt:i<m2.w.length
 ·have kt:=fun L=>Zci i (by omega) L
  have et:(2:Int) ^ i=((2 ^ i:Nat):Int):=by simp
  rw[et]at kt
  have hp7:2 ^ i≤128:=by
   have:=Z3e (n:=2) (by decide) (show i≤7 by omega)
   simpa using this
  have hbi:=rel2.bit i hlt
  by_cases hb:m2.heard / 2 ^ i % 2=1
  ·obtain⟨g,hg⟩:=Z4k.1 (hbi.1 hb)
   have hgs:=rel2.told i hlt g hg
   have kfi:=fun L=>kf2 i L
   rw[hg]at kfi
   have e1:Vb m2 i=[g.s]:=by unfold Vb;rw[Z2d hb,hgs]
   have e2:(List.range (i+1)).flatMap (Vb m2)=(List.range i).flatMap (Vb m2)++[g.s]:=by rw[W1,e1]
   rw[hb,Z5t]at hms
   generalize 2 ^ i=z at*
   simp only[Z46,Z5r]at kfi
   repeat' (first|refine uN ?_|refine X7 (qC (Uu kfi 1)) ?_|refine Qm (qC (Uu kfi 1)) ?_|refine uC (kt _) ?_|refine uD (fun _=>kt _) ?_|(refine uB ?_;intro b)|(refine uP ?_ ?_<;>intro h<;>try exact zx)|refine uM ?_|fail)
   refine fo 2 ?_
   refine Zfc S g.s hS Zbc Zq9 ?_
   intro v' c' hv'
   rw[← e2]at hv'
   repeat' (first|refine uN ?_|(refine uB ?_;intro b)|(refine uP ?_ ?_<;>intro h<;>try exact zx)|refine uM ?_|fail)
   refine Ze (i+1,v',c') ?_ uL ⟨by simp only;omega,hv'⟩ (by simp only;omega)
   simp only
   rw[hms,Int.natCast_add]
   exact uS
  ·have hno:Vk (hs++[f]) i=none:=by
    cases hq:Vk (hs++[f]) i with
    | none=>rfl
    | some g=>exact absurd (hbi.2 (by rw[hq];rfl)) hb
   have kfi:=fun L=>kf2 i L
   rw[hno]at kfi
   have e1:Vb m2 i=[]:=by unfold Vb;rw[Z16 hb]
   have e2:(List.range (i+1)).flatMap (Vb m2)=(List.range i).flatMap (Vb m2):=by rw[W1,e1,Z2p]
   rw[show m2.heard / 2 ^ i % 2=0 by omega,Z69,Z4t]at hms
   simp only[Z6z,Z5q]at kfi
   repeat' (first|refine uN ?_|refine X7 (qC (Uu kfi 1)) ?_|refine Qm (qC (Uu kfi 1)) ?_|refine uC (kt _) ?_|refine uD (fun _=>kt _) ?_|(refine uB ?_;intro b)|(refine uP ?_ ?_<;>intro h<;>try exact zx)|refine uM ?_|fail)
   refine Ze (i+1,vS,cS) ?_ uL ⟨by simp only;omega,by simp only;rw[e2];exact hS⟩ (by simp only;omega)
   simp only
   rw[hms]
   exact uS
 ·obtain rfl:i=m2.w.length:=by omega
  subst hvv
  have hcn:=cnt_full m2.w.length (by omega) m2.heard rel2.lt
  rw[← rel2.cnt]at hcn
  by_cases hfull:m2.heard=2 ^ m2.w.length-1
  ·have ec:Ya m2=Znv m2 4:=by unfold Ya;rw[Z2d ⟨ek,hfull⟩]
   have ec2:Xt m2 (hs++[f])=[]:=by unfold Xt;rw[Z2d ⟨ek,hfull⟩]
   rw[ec,ec2]
   have hle2:=hcn.2 hfull
   have kp:=fun L=>Zbb lp aw capw _ c1 m2 (hs++[f]) 4 L (by omega) hv1
   repeat' (first|refine uN ?_|(refine uB ?_;intro b)|(refine uP ?_ ?_<;>intro h<;>try exact zx)|refine uM ?_|fail)
   refine fo 1 ?_
   refine gc (kp _) ?_
   rintro v L' ⟨c,hv2,rfl⟩
   repeat' (first|refine uN ?_|(refine uB ?_;intro b)|(refine uP ?_ ?_<;>intro h<;>try exact zx)|refine uM ?_|fail)
   exact Z3 (L':=c::Qg lp aw capw Yt [] (Qn m2 4)::L) uL ⟨c,Yt,[],hv2,Zt,rfl⟩
  ·have ec:Ya m2=(m2,[]):=by unfold Ya;rw[Z16 (fun h=>hfull h.2),Z2d (.inl ek)]
   have ec2:Xt m2 (hs++[f])=hs++[f]:=by unfold Xt;rw[Z16 (fun h=>hfull h.2),Z2d (.inl ek)]
   rw[ec,ec2]
   have hle2:(hs++[f]).length≠m2.w.length:=fun h=>hfull (hcn.1 h)
   repeat' (first|refine uN ?_|(refine uB ?_;intro b)|(refine uP ?_ ?_<;>intro h<;>try exact zx)|refine uM ?_|fail)
   exact Z3 (L':=[]::Qg lp aw capw _ c1 m2::L) uL ⟨[],_,c1,Zt,hv1,rfl⟩
theorem Zwx(lp:Nat)(aw:Option Addr)(capw:Nat)(hv:Value)(hc:List Zp)(m:Ld)(hs:List Fr)(f:Fr)(L:Za)(hR:Rd ic 1 L aw m.w)(hck:Ys m.w=none)(hH:Z0 hv hs hc)(rel:RelH m hs)(hw:m.wait≠0)(hfit:X4 m f)(hy:f.yes=true)(hkd:¬ f.kd=2)(hsn:m.seen<f.s.pr):
  HC prog 147 [pt lp 0,.agg ⟨fc f⟩] (Qg lp aw capw hv hc m::L) (fun v L'=>∃c hv' hc',Z0 v (Zw m f).2 c∧Z0 hv' (Ql m hs f) hc'∧L'=c::Qg lp aw capw hv' hc' (Zw m f).1::L):=by
 have rel2:=rel.m2 hfit
 have hl2:=rel2.le7
 have hw72:=rel2.w7
 have e0:Zdi m f={ m with seen:=f.s.pr }:=by unfold Zdi;rw[Z16 hkd,show max m.seen f.s.pr=f.s.pr by omega]
 have hm2:Zbj m f={ m with seen:=f.s.pr,heard:=m.heard ||| 2 ^ f.fr.toNat,told:=m.told.set f.fr.toNat f.s }:=by unfold Zbj;rw[e0]
 have eh:Zw m f=Ya (Zbj m f):=by unfold Zw;rw[Z16 (fun h=>h.elim hw (fun h=>h hfit)),Z16 (by rw[hy];decide)]
 have eh2:Ql m hs f=Xt (Zbj m f) (hs++[f]):=by unfold Ql;rw[Z16 (fun h=>h.elim hw (fun h=>h hfit)),Z16 (by rw[hy];decide)]
 rw[eh,eh2]
 have kf:=fun L=>V8 lp aw capw hv hc m hs f.fr L hH (by have:=rel.le7;have:=rel.w7;omega)
 rw[Zgx rel hfit.2.2.2.2.1 hfit.2.2.2.2.2.1,Z3t (by have:=hfit.2.2.2.2.2.2;omega)]at kf
 have hf0:=hfit
 unfold X4 at hf0
 have hw7:=rel.w7
 have hl7:=rel.le7
 generalize hM:Zbj m f=m2 at*
 have em:∀v' c',Qg lp aw capw v' c' m2=(lp,.cells ⟨rlL aw capw v' { m with seen:=f.s.pr }⟩ 217)::c':=fun v' c'=>by rw[hm2];rfl
 have ew:m2.w=m.w:=by rw[hm2]
 have ek:m2.wait=f.kd:=by rw[hm2];show m.wait=f.kd;omega
 have ep:m2.phase=m.phase:=by rw[hm2]
 refine uE func147 ntmps147 ?_
 repeat apply Za3
 apply Vs
 refine wb (fun b3=>?_)
 repeat' (first|refine uN ?_|refine X7 (qC (Uu kf 1)) ?_|refine Qm (qC (Uu kf 1)) ?_|(refine uB ?_;intro b)|(refine uP ?_ ?_<;>intro h<;>try exact zx)|refine uM ?_|fail)
 all_goals (try exact absurd ((by assumption:f.yes=false).symm.trans hy) (by decide))
 refine fo 3 ?_
 refine ho_rl ?_
 refine Zfc S f hH Zi W8 ?_
 intro v1 c1 hv1
 obtain⟨a1,p1,rfl,-,-⟩:=Vec.rd hv1 Zi
 repeat' (first|refine uN ?_|(refine uB ?_;intro b)|(refine uP ?_ ?_<;>intro h<;>try exact zx)|refine uM ?_|fail)
 refine Wf (L':=c1::[(lp,.cells ⟨rlL aw capw (.slice a1 (hs++[f]).length p1) { m with seen:=f.s.pr }⟩ 217)]::[]::[(b3,.cells ⟨fc f⟩ 131)]::L) ?_ uL
 refine hw_lr ?_
 rw[← em]
 generalize hvv:Value.slice a1 (hs++[f]).length p1=v1 at*
 have kf2:=fun i L=>V8 lp aw capw v1 c1 m2 (hs++[f]) i L hv1 (by omega)
 refine Wf (L':=[]::Qg lp aw capw v1 c1 m2::[(b3,.cells ⟨fc f⟩ 131)]::L) ?_ uL
 refine Zm (σ:=Nat × Value × List Zp) (fun q=>[(0,pt lp 0),(3,pt b3 0),(8,iv ((m2.heard % 2 ^ q.1:Nat):Int)),(9,q.2.1),(10,iv q.1)]) (fun q=>q.2.2::Qg lp aw capw v1 c1 m2::[(b3,.cells ⟨fc f⟩ 131)]::L) (fun q=>q.1≤m2.w.length∧Vec 43 3 sc q.2.1 ((List.range q.1).flatMap (Vb m2)) q.2.2) (fun q=>m2.w.length-q.1) (0,Yt,[]) ?_ (Z15 _) ⟨by simp,Zt⟩ ?_
 ·simp only[Nat.pow_zero,Z6u]
  exact uS
 rintro⟨i,vS,cS⟩ ⟨hi,hS⟩
 simp only at hi hS ⊢
 have hle:=Wx (Vb m2) (Zda m2) i
 have hms:=Zl0 m2.heard i
 have hmlt:m2.heard % 2 ^ i<2 ^ i:=Z7a _ (Z3p i)
 by_cases hlt:i<m2.w.length
 ·have kt:=fun L=>Zci i (by omega) L
  have et:(2:Int) ^ i=((2 ^ i:Nat):Int):=by simp
  rw[et]at kt
  have hp7:2 ^ i≤128:=by
   have:=Z3e (n:=2) (by decide) (show i≤7 by omega)
   simpa using this
  have hbi:=rel2.bit i hlt
  by_cases hb:m2.heard / 2 ^ i % 2=1
  ·obtain⟨g,hg⟩:=Z4k.1 (hbi.1 hb)
   have hgs:=rel2.told i hlt g hg
   have kfi:=fun L=>kf2 i L
   rw[hg]at kfi
   have e1:Vb m2 i=[g.s]:=by unfold Vb;rw[Z2d hb,hgs]
   have e2:(List.range (i+1)).flatMap (Vb m2)=(List.range i).flatMap (Vb m2)++[g.s]:=by rw[W1,e1]
   rw[hb,Z5t]at hms
   generalize 2 ^ i=z at*
   simp only[Z46,Z5r]at kfi
   repeat' (first|refine uN ?_|refine X7 (qC (Uu kfi 1)) ?_|refine Qm (qC (Uu kfi 1)) ?_|refine uC (kt _) ?_|refine uD (fun _=>kt _) ?_|(refine uB ?_;intro b)|(refine uP ?_ ?_<;>intro h<;>try exact zx)|refine uM ?_|fail)
   refine fo 2 ?_
   refine Zfc S g.s hS Zbc Zq9 ?_
   intro v' c' hv'
   rw[← e2]at hv'
   repeat' (first|refine uN ?_|(refine uB ?_;intro b)|(refine uP ?_ ?_<;>intro h<;>try exact zx)|refine uM ?_|fail)
   refine Ze (i+1,v',c') ?_ uL ⟨by simp only;omega,hv'⟩ (by simp only;omega)
   simp only
   rw[hms,Int.natCast_add]
   exact uS
  ·have hno:Vk (hs++[f]) i=none:=by
    cases hq:Vk (hs++[f]) i with
    | none=>rfl
    | some g=>exact absurd (hbi.2 (by rw[hq];rfl)) hb
   have kfi:=fun L=>kf2 i L
   rw[hno]at kfi
   have e1:Vb m2 i=[]:=by unfold Vb;rw[Z16 hb]
   have e2:(List.range (i+1)).flatMap (Vb m2)=(List.range i).flatMap (Vb m2):=by rw[W1,e1,Z2p]
   rw[show m2.heard / 2 ^ i % 2=0 by omega,Z69,Z4t]at hms
   simp only[Z6z,Z5q]at kfi
   repeat' (first|refine uN ?_|refine X7 (qC (Uu kfi 1)) ?_|refine Qm (qC (Uu kfi 1)) ?_|refine uC (kt _) ?_|refine uD (fun _=>kt _) ?_|(refine uB ?_;intro b)|(refine uP ?_ ?_<;>intro h<;>try exact zx)|refine uM ?_|fail)
   refine Ze (i+1,vS,cS) ?_ uL ⟨by simp only;omega,by simp only;rw[e2];exact hS⟩ (by simp only;omega)
   simp only
   rw[hms]
   exact uS
 ·obtain rfl:i=m2.w.length:=by omega
  subst hvv
  have hmod:m2.heard % 2 ^ m2.w.length=m2.heard:=Z5h rel2.lt
  obtain⟨c1w,c2w,c3w,c4w⟩:=Vm hck
  rw[← ew]at hck c3w
  rw[← ew]at hR
  have kq:=fun L hR=>Zfm aw capw m2.w m2.heard L hR hw72 c3w (by have:=Z3k rel2.lt (Z3e (n:=2) (by decide) hw72);omega)
  have hen:=en_ok hck rel2.lt
  rw[hmod]
  obtain⟨aS,pS,rfl,hpS,hRS⟩:=Vec.rd hS Zbc
  have hsl:=Wx (Vb m2) (Zda m2) m2.w.length
  have est:(List.range m2.w.length).flatMap (Vb m2)=Xh m2:=rfl
  rw[est]at hRS hsl hS ⊢
  cases hq:quor m2.w m2.heard with
  | false=>
   have ec:Ya m2=(m2,[]):=by unfold Ya;rw[Z16 (fun h=>hkd (ek▸h.1)),Z2d (.inr (by rw[hen,hq]))]
   have ec2:Xt m2 (hs++[f])=hs++[f]:=by unfold Xt;rw[Z16 (fun h=>hkd (ek▸h.1)),Z2d (.inr (by rw[hen,hq]))]
   rw[ec,ec2]
   rw[hq]at kq
   repeat' (first|refine uN ?_|refine uC (kq _ (((hR.cons _).cons _).cons _)) ?_|refine uD (fun _=>kq _ (((hR.cons _).cons _).cons _)) ?_|(refine uB ?_;intro b)|(refine uP ?_ ?_<;>intro h<;>try exact zx)|refine uM ?_|fail)
   exact Z3 (L':=[]::Qg lp aw capw _ c1 m2::L) uL ⟨[],_,c1,Zt,hv1,rfl⟩
  | true=>
   rw[hq]at kq
   have n1:¬ (m2.wait=2∧m2.heard=2 ^ m2.w.length-1):=fun h=>hkd (ek▸h.1)
   have n2:¬ (m2.wait=2∨(Xz m2.w m2.heard).1=false):=fun h=>h.elim (fun h=>hkd (ek▸h)) (fun h=>by rw[hen,hq]at h;cases h)
   have kd:=fun p L=>Zbu lp aw capw (.slice a1 (hs++[f]).length p1) c1 m2 p L (by omega)
   have kp:=fun p L=>Zbb lp aw capw (.slice a1 (hs++[f]).length p1) c1 m2 (hs++[f]) p L (by omega) hv1
   by_cases h6:f.kd=6
   ·have ec:Ya m2=Zdr m2 (V4 m2.phase):=by unfold Ya;rw[Z16 n1,Z16 n2,Z2d (by omega)]
    have ec2:Xt m2 (hs++[f])=hs++[f]:=by unfold Xt;rw[Z16 n1,Z16 n2,Z2d (by omega)]
    rw[ec,ec2]
    repeat' (first|refine uN ?_|refine uC (kq _ (((hR.cons _).cons _).cons _)) ?_|refine uD (fun _=>kq _ (((hR.cons _).cons _).cons _)) ?_|refine uC (Q0 _ _) ?_|refine uD (fun _=>Q0 _ _) ?_|(refine uB ?_;intro b)|(refine uP ?_ ?_<;>intro h<;>try exact zx)|refine uM ?_|fail)
    refine fo 1 ?_
    refine gc (kd _ _) ?_
    rintro v L' ⟨c,hv2,rfl⟩
    repeat' (first|refine uN ?_|(refine uB ?_;intro b)|(refine uP ?_ ?_<;>intro h<;>try exact zx)|refine uM ?_|fail)
    exact Z3 (L':=c::Qg lp aw capw _ c1 (V5 m2)::L) uL ⟨c,_,c1,hv2,hv1,rfl⟩
   ·have kch:=fun L hR=>Zdq aS pS (Xh m2) L hR (by omega)
    cases hch:(Yc (Xh m2)).2 with
    | true=>
     have ec:Ya m2=Zdr m2 (Yc (Xh m2)).1:=by unfold Ya;rw[Z16 n1,Z16 n2,Z16 (by omega),Z2d hch]
     have ec2:Xt m2 (hs++[f])=hs++[f]:=by unfold Xt;rw[Z16 n1,Z16 n2,Z16 (by omega),Z2d hch]
     rw[ec,ec2]
     rw[hch]at kch
     repeat' (first|refine uN ?_|refine uC (kq _ (((hR.cons _).cons _).cons _)) ?_|refine uD (fun _=>kq _ (((hR.cons _).cons _).cons _)) ?_|refine uC (kch _ (hRS _)) ?_|refine uD (fun _=>kch _ (hRS _)) ?_|(refine uB ?_;intro b)|(refine uP ?_ ?_<;>intro h<;>try exact zx)|refine uM ?_|fail)
     refine fo 1 ?_
     refine gc (kd _ _) ?_
     rintro v L' ⟨c,hv2,rfl⟩
     repeat' (first|refine uN ?_|(refine uB ?_;intro b)|(refine uP ?_ ?_<;>intro h<;>try exact zx)|refine uM ?_|fail)
     exact Z3 (L':=c::Qg lp aw capw _ c1 (V5 m2)::L) uL ⟨c,_,c1,hv2,hv1,rfl⟩
    | false=>
     have ec:Ya m2=Znv m2 (Yc (Xh m2)).1:=by unfold Ya;rw[Z16 n1,Z16 n2,Z16 (by omega),Z16 (by rw[hch];decide)]
     have ec2:Xt m2 (hs++[f])=[]:=by unfold Xt;rw[Z16 n1,Z16 n2,Z16 (by omega),Z16 (by rw[hch];decide)]
     rw[ec,ec2]
     rw[hch]at kch
     repeat' (first|refine uN ?_|refine uC (kq _ (((hR.cons _).cons _).cons _)) ?_|refine uD (fun _=>kq _ (((hR.cons _).cons _).cons _)) ?_|refine uC (kch _ (hRS _)) ?_|refine uD (fun _=>kch _ (hRS _)) ?_|(refine uB ?_;intro b)|(refine uP ?_ ?_<;>intro h<;>try exact zx)|refine uM ?_|fail)
     refine fo 1 ?_
     refine gc (kp _ _) ?_
     rintro v L' ⟨c,hv2,rfl⟩
     repeat' (first|refine uN ?_|(refine uB ?_;intro b)|(refine uP ?_ ?_<;>intro h<;>try exact zx)|refine uM ?_|fail)
     exact Z3 (L':=c::Qg lp aw capw Yt [] (Qn m2 (Yc (Xh m2)).1)::L) uL ⟨c,Yt,[],hv2,Zt,rfl⟩
theorem Zwy(lp:Nat)(aw:Option Addr)(capw:Nat)(hv:Value)(hc:List Zp)(m:Ld)(hs:List Fr)(f:Fr)(L:Za)(hR:Rd ic 1 L aw m.w)(hck:Ys m.w=none)(hH:Z0 hv hs hc)(rel:RelH m hs)(hw:m.wait≠0)(hfit:X4 m f)(hy:f.yes=true)(hkd:¬ f.kd=2)(hsn:¬ m.seen<f.s.pr):
  HC prog 147 [pt lp 0,.agg ⟨fc f⟩] (Qg lp aw capw hv hc m::L) (fun v L'=>∃c hv' hc',Z0 v (Zw m f).2 c∧Z0 hv' (Ql m hs f) hc'∧L'=c::Qg lp aw capw hv' hc' (Zw m f).1::L):=by
 have rel2:=rel.m2 hfit
 have hl2:=rel2.le7
 have hw72:=rel2.w7
 have e0:Zdi m f={ m with seen:=m.seen }:=by unfold Zdi;rw[Z16 hkd,show max m.seen f.s.pr=m.seen by omega]
 have hm2:Zbj m f={ m with seen:=m.seen,heard:=m.heard ||| 2 ^ f.fr.toNat,told:=m.told.set f.fr.toNat f.s }:=by unfold Zbj;rw[e0]
 have eh:Zw m f=Ya (Zbj m f):=by unfold Zw;rw[Z16 (fun h=>h.elim hw (fun h=>h hfit)),Z16 (by rw[hy];decide)]
 have eh2:Ql m hs f=Xt (Zbj m f) (hs++[f]):=by unfold Ql;rw[Z16 (fun h=>h.elim hw (fun h=>h hfit)),Z16 (by rw[hy];decide)]
 rw[eh,eh2]
 have kf:=fun L=>V8 lp aw capw hv hc m hs f.fr L hH (by have:=rel.le7;have:=rel.w7;omega)
 rw[Zgx rel hfit.2.2.2.2.1 hfit.2.2.2.2.2.1,Z3t (by have:=hfit.2.2.2.2.2.2;omega)]at kf
 have hf0:=hfit
 unfold X4 at hf0
 have hw7:=rel.w7
 have hl7:=rel.le7
 generalize hM:Zbj m f=m2 at*
 have em:∀v' c',Qg lp aw capw v' c' m2=(lp,.cells ⟨rlL aw capw v' { m with seen:=m.seen }⟩ 217)::c':=fun v' c'=>by rw[hm2];rfl
 have ew:m2.w=m.w:=by rw[hm2]
 have ek:m2.wait=f.kd:=by rw[hm2];show m.wait=f.kd;omega
 have ep:m2.phase=m.phase:=by rw[hm2]
 refine uE func147 ntmps147 ?_
 repeat apply Za3
 apply Vs
 refine wb (fun b3=>?_)
 repeat' (first|refine uN ?_|refine X7 (qC (Uu kf 1)) ?_|refine Qm (qC (Uu kf 1)) ?_|(refine uB ?_;intro b)|(refine uP ?_ ?_<;>intro h<;>try exact zx)|refine uM ?_|fail)
 all_goals (try exact absurd ((by assumption:f.yes=false).symm.trans hy) (by decide))
 refine fo 3 ?_
 refine ho_rl ?_
 refine Zfc S f hH Zi W8 ?_
 intro v1 c1 hv1
 obtain⟨a1,p1,rfl,-,-⟩:=Vec.rd hv1 Zi
 repeat' (first|refine uN ?_|(refine uB ?_;intro b)|(refine uP ?_ ?_<;>intro h<;>try exact zx)|refine uM ?_|fail)
 refine Wf (L':=c1::[(lp,.cells ⟨rlL aw capw (.slice a1 (hs++[f]).length p1) { m with seen:=m.seen }⟩ 217)]::[]::[(b3,.cells ⟨fc f⟩ 131)]::L) ?_ uL
 refine hw_lr ?_
 rw[← em]
 generalize hvv:Value.slice a1 (hs++[f]).length p1=v1 at*
 have kf2:=fun i L=>V8 lp aw capw v1 c1 m2 (hs++[f]) i L hv1 (by omega)
 refine Wf (L':=[]::Qg lp aw capw v1 c1 m2::[(b3,.cells ⟨fc f⟩ 131)]::L) ?_ uL
 refine Zm (σ:=Nat × Value × List Zp) (fun q=>[(0,pt lp 0),(3,pt b3 0),(8,iv ((m2.heard % 2 ^ q.1:Nat):Int)),(9,q.2.1),(10,iv q.1)]) (fun q=>q.2.2::Qg lp aw capw v1 c1 m2::[(b3,.cells ⟨fc f⟩ 131)]::L) (fun q=>q.1≤m2.w.length∧Vec 43 3 sc q.2.1 ((List.range q.1).flatMap (Vb m2)) q.2.2) (fun q=>m2.w.length-q.1) (0,Yt,[]) ?_ (Z15 _) ⟨by simp,Zt⟩ ?_
 ·simp only[Nat.pow_zero,Z6u]
  exact uS
 rintro⟨i,vS,cS⟩ ⟨hi,hS⟩
 simp only at hi hS ⊢
 have hle:=Wx (Vb m2) (Zda m2) i
 have hms:=Zl0 m2.heard i
 have hmlt:m2.heard % 2 ^ i<2 ^ i:=Z7a _ (Z3p i)
 by_cases hlt:i<m2.w.length
 ·have kt:=fun L=>Zci i (by omega) L
  have et:(2:Int) ^ i=((2 ^ i:Nat):Int):=by simp
  rw[et]at kt
  have hp7:2 ^ i≤128:=by
   have:=Z3e (n:=2) (by decide) (show i≤7 by omega)
   simpa using this
  have hbi:=rel2.bit i hlt
  by_cases hb:m2.heard / 2 ^ i % 2=1
  ·obtain⟨g,hg⟩:=Z4k.1 (hbi.1 hb)
   have hgs:=rel2.told i hlt g hg
   have kfi:=fun L=>kf2 i L
   rw[hg]at kfi
   have e1:Vb m2 i=[g.s]:=by unfold Vb;rw[Z2d hb,hgs]
   have e2:(List.range (i+1)).flatMap (Vb m2)=(List.range i).flatMap (Vb m2)++[g.s]:=by rw[W1,e1]
   rw[hb,Z5t]at hms
   generalize 2 ^ i=z at*
   simp only[Z46,Z5r]at kfi
   repeat' (first|refine uN ?_|refine X7 (qC (Uu kfi 1)) ?_|refine Qm (qC (Uu kfi 1)) ?_|refine uC (kt _) ?_|refine uD (fun _=>kt _) ?_|(refine uB ?_;intro b)|(refine uP ?_ ?_<;>intro h<;>try exact zx)|refine uM ?_|fail)
   refine fo 2 ?_
   refine Zfc S g.s hS Zbc Zq9 ?_
   intro v' c' hv'
   rw[← e2]at hv'
   repeat' (first|refine uN ?_|(refine uB ?_;intro b)|(refine uP ?_ ?_<;>intro h<;>try exact zx)|refine uM ?_|fail)
   refine Ze (i+1,v',c') ?_ uL ⟨by simp only;omega,hv'⟩ (by simp only;omega)
   simp only
   rw[hms,Int.natCast_add]
   exact uS
  ·have hno:Vk (hs++[f]) i=none:=by
    cases hq:Vk (hs++[f]) i with
    | none=>rfl
    | some g=>exact absurd (hbi.2 (by rw[hq];rfl)) hb
   have kfi:=fun L=>kf2 i L
   rw[hno]at kfi
   have e1:Vb m2 i=[]:=by unfold Vb;rw[Z16 hb]
   have e2:(List.range (i+1)).flatMap (Vb m2)=(List.range i).flatMap (Vb m2):=by rw[W1,e1,Z2p]
   rw[show m2.heard / 2 ^ i % 2=0 by omega,Z69,Z4t]at hms
   simp only[Z6z,Z5q]at kfi
   repeat' (first|refine uN ?_|refine X7 (qC (Uu kfi 1)) ?_|refine Qm (qC (Uu kfi 1)) ?_|refine uC (kt _) ?_|refine uD (fun _=>kt _) ?_|(refine uB ?_;intro b)|(refine uP ?_ ?_<;>intro h<;>try exact zx)|refine uM ?_|fail)
   refine Ze (i+1,vS,cS) ?_ uL ⟨by simp only;omega,by simp only;rw[e2];exact hS⟩ (by simp only;omega)
   simp only
   rw[hms]
   exact uS
 ·obtain rfl:i=m2.w.length:=by omega
  subst hvv
  have hmod:m2.heard % 2 ^ m2.w.length=m2.heard:=Z5h rel2.lt
  obtain⟨c1w,c2w,c3w,c4w⟩:=Vm hck
  rw[← ew]at hck c3w
  rw[← ew]at hR
  have kq:=fun L hR=>Zfm aw capw m2.w m2.heard L hR hw72 c3w (by have:=Z3k rel2.lt (Z3e (n:=2) (by decide) hw72);omega)
  have hen:=en_ok hck rel2.lt
  rw[hmod]
  obtain⟨aS,pS,rfl,hpS,hRS⟩:=Vec.rd hS Zbc
  have hsl:=Wx (Vb m2) (Zda m2) m2.w.length
  have est:(List.range m2.w.length).flatMap (Vb m2)=Xh m2:=rfl
  rw[est]at hRS hsl hS ⊢
  cases hq:quor m2.w m2.heard with
  | false=>
   have ec:Ya m2=(m2,[]):=by unfold Ya;rw[Z16 (fun h=>hkd (ek▸h.1)),Z2d (.inr (by rw[hen,hq]))]
   have ec2:Xt m2 (hs++[f])=hs++[f]:=by unfold Xt;rw[Z16 (fun h=>hkd (ek▸h.1)),Z2d (.inr (by rw[hen,hq]))]
   rw[ec,ec2]
   rw[hq]at kq
   repeat' (first|refine uN ?_|refine uC (kq _ (((hR.cons _).cons _).cons _)) ?_|refine uD (fun _=>kq _ (((hR.cons _).cons _).cons _)) ?_|(refine uB ?_;intro b)|(refine uP ?_ ?_<;>intro h<;>try exact zx)|refine uM ?_|fail)
   exact Z3 (L':=[]::Qg lp aw capw _ c1 m2::L) uL ⟨[],_,c1,Zt,hv1,rfl⟩
  | true=>
   rw[hq]at kq
   have n1:¬ (m2.wait=2∧m2.heard=2 ^ m2.w.length-1):=fun h=>hkd (ek▸h.1)
   have n2:¬ (m2.wait=2∨(Xz m2.w m2.heard).1=false):=fun h=>h.elim (fun h=>hkd (ek▸h)) (fun h=>by rw[hen,hq]at h;cases h)
   have kd:=fun p L=>Zbu lp aw capw (.slice a1 (hs++[f]).length p1) c1 m2 p L (by omega)
   have kp:=fun p L=>Zbb lp aw capw (.slice a1 (hs++[f]).length p1) c1 m2 (hs++[f]) p L (by omega) hv1
   by_cases h6:f.kd=6
   ·have ec:Ya m2=Zdr m2 (V4 m2.phase):=by unfold Ya;rw[Z16 n1,Z16 n2,Z2d (by omega)]
    have ec2:Xt m2 (hs++[f])=hs++[f]:=by unfold Xt;rw[Z16 n1,Z16 n2,Z2d (by omega)]
    rw[ec,ec2]
    repeat' (first|refine uN ?_|refine uC (kq _ (((hR.cons _).cons _).cons _)) ?_|refine uD (fun _=>kq _ (((hR.cons _).cons _).cons _)) ?_|refine uC (Q0 _ _) ?_|refine uD (fun _=>Q0 _ _) ?_|(refine uB ?_;intro b)|(refine uP ?_ ?_<;>intro h<;>try exact zx)|refine uM ?_|fail)
    refine fo 1 ?_
    refine gc (kd _ _) ?_
    rintro v L' ⟨c,hv2,rfl⟩
    repeat' (first|refine uN ?_|(refine uB ?_;intro b)|(refine uP ?_ ?_<;>intro h<;>try exact zx)|refine uM ?_|fail)
    exact Z3 (L':=c::Qg lp aw capw _ c1 (V5 m2)::L) uL ⟨c,_,c1,hv2,hv1,rfl⟩
   ·have kch:=fun L hR=>Zdq aS pS (Xh m2) L hR (by omega)
    cases hch:(Yc (Xh m2)).2 with
    | true=>
     have ec:Ya m2=Zdr m2 (Yc (Xh m2)).1:=by unfold Ya;rw[Z16 n1,Z16 n2,Z16 (by omega),Z2d hch]
     have ec2:Xt m2 (hs++[f])=hs++[f]:=by unfold Xt;rw[Z16 n1,Z16 n2,Z16 (by omega),Z2d hch]
     rw[ec,ec2]
     rw[hch]at kch
     repeat' (first|refine uN ?_|refine uC (kq _ (((hR.cons _).cons _).cons _)) ?_|refine uD (fun _=>kq _ (((hR.cons _).cons _).cons _)) ?_|refine uC (kch _ (hRS _)) ?_|refine uD (fun _=>kch _ (hRS _)) ?_|(refine uB ?_;intro b)|(refine uP ?_ ?_<;>intro h<;>try exact zx)|refine uM ?_|fail)
     refine fo 1 ?_
     refine gc (kd _ _) ?_
     rintro v L' ⟨c,hv2,rfl⟩
     repeat' (first|refine uN ?_|(refine uB ?_;intro b)|(refine uP ?_ ?_<;>intro h<;>try exact zx)|refine uM ?_|fail)
     exact Z3 (L':=c::Qg lp aw capw _ c1 (V5 m2)::L) uL ⟨c,_,c1,hv2,hv1,rfl⟩
    | false=>
     have ec:Ya m2=Znv m2 (Yc (Xh m2)).1:=by unfold Ya;rw[Z16 n1,Z16 n2,Z16 (by omega),Z16 (by rw[hch];decide)]
     have ec2:Xt m2 (hs++[f])=[]:=by unfold Xt;rw[Z16 n1,Z16 n2,Z16 (by omega),Z16 (by rw[hch];decide)]
     rw[ec,ec2]
     rw[hch]at kch
     repeat' (first|refine uN ?_|refine uC (kq _ (((hR.cons _).cons _).cons _)) ?_|refine uD (fun _=>kq _ (((hR.cons _).cons _).cons _)) ?_|refine uC (kch _ (hRS _)) ?_|refine uD (fun _=>kch _ (hRS _)) ?_|(refine uB ?_;intro b)|(refine uP ?_ ?_<;>intro h<;>try exact zx)|refine uM ?_|fail)
     refine fo 1 ?_
     refine gc (kp _ _) ?_
     rintro v L' ⟨c,hv2,rfl⟩
     repeat' (first|refine uN ?_|(refine uB ?_;intro b)|(refine uP ?_ ?_<;>intro h<;>try exact zx)|refine uM ?_|fail)
     exact Z3 (L':=c::Qg lp aw capw Yt [] (Qn m2 (Yc (Xh m2)).1)::L) uL ⟨c,Yt,[],hv2,Zt,rfl⟩
theorem Zjh(lp:Nat)(aw:Option Addr)(capw:Nat)(hv:Value)(hc:List Zp)(m:Ld)(hs:List Fr)(f:Fr)(L:Za)(hR:Rd ic 1 L aw m.w)(hck:Ys m.w=none)(hH:Z0 hv hs hc)(rel:RelH m hs):
  HC prog 147 [pt lp 0,.agg ⟨fc f⟩] (Qg lp aw capw hv hc m::L) (fun v L'=>∃c hv' hc',Z0 v (Zw m f).2 c∧Z0 hv' (Ql m hs f) hc'∧L'=c::Qg lp aw capw hv' hc' (Zw m f).1::L):=by
 by_cases hq:m.wait=0∨¬ X4 m f∨f.yes=false
 ·exact Zt4 lp aw capw hv hc m hs f L hR hck hH rel hq
 ·have hw:m.wait≠0:=fun h=>hq (.inl h)
  have hfit:X4 m f:=Z6n.1 fun h=>hq (.inr (.inl h))
  have hy:f.yes=true:=by
   cases h:f.yes with
   | true=>rfl
   | false=>exact absurd (.inr (.inr h)) hq
  by_cases hk:f.kd=2
  ·exact Zwz lp aw capw hv hc m hs f L hR hck hH rel hw hfit hy hk
  ·by_cases hs':m.seen<f.s.pr
   ·exact Zwx lp aw capw hv hc m hs f L hR hck hH rel hw hfit hy hk hs'
   ·exact Zwy lp aw capw hv hc m hs f L hR hck hH rel hw hfit hy hk hs'
theorem Zve(ws:List Int):okE (Ys ws):=by
 unfold Ys
 split
 ·exact rfl
 ·split
  ·exact rfl
  ·split
   ·exact rfl
   ·trivial
theorem okE_pos{e:Nat}(h:okE (some e)):1≤e:=by
 cases e with
 | zero=>exact absurd (show List.elem 0 all9=true from h) (by decide)
 | succ n=>omega
def Zm5(att:Int):Int:=if att=0 then 2 else 4
theorem Za9(id deal:Int)(a:Option Addr)(cap:Nat)(w:List Int)(att:Int)(L:Za):HC prog 140 [iv id,iv deal,.slice a w.length cap,iv att] L (fun v L'=>∃lp,v=pt lp 0∧L'=Qg lp a cap Yt [] (Zh id deal w att (Zm5 att))::L):=by
 unfold Zm5
 refine uE func140 ntmps140 ?_
 repeat' (first|refine uN ?_|(refine uB ?_;intro b)|(refine uP ?_ ?_<;>intro h<;>try exact zx)|fail)
 ·rw[Z2d h]
  exact Z3 (LS.refl _) ⟨b,rfl,rfl⟩
 ·rw[Z16 h]
  exact Z3 (LS.refl _) ⟨b,rfl,rfl⟩
def ends4:List Int:=[4,5,9,13]
def Zu3:Nat→Nat
 | 0=>4|1=>5|2=>9|_=>13
def Zxz:Nat→Nat
 | 0=>0
 | i+1=>Zu3 i
theorem en4_get{i:Nat}(h:i<4):ends4[i]?=some (Zu3 i:Int):=by
 have:∀i,i<4→ends4[i]?=some (Zu3 i:Int):=by decide
 exact this i h
theorem en4_fact{i:Nat}(h:i<4):Zxz i≤Zu3 i∧Zu3 i≤13∧Zu3 i≤Zxz i+4:=by
 have:∀i,i<4→Zxz i≤Zu3 i∧Zu3 i≤13∧Zu3 i≤Zxz i+4:=by decide
 exact this i h
def Zxl(s:List UInt8)(i:Nat):List Int:=(List.range i).map fun q=>V0 s (Zxz q) (Zu3 q)
theorem Z1w(s:List UInt8)(i:Nat):Zxl s (i+1)=Zxl s i++[V0 s (Zxz i) (Zu3 i)]:=by
 unfold Zxl
 rw[Z4i,Z20];rfl
theorem Zm4(s:List UInt8)(i:Nat):(Zxl s i).length=i:=by simp[Zxl]
theorem Z00(s:List UInt8):Zd0 s=⟨V0 s 0 4,V0 s 4 5,V0 s 5 9,V0 s 9 13⟩:=rfl
theorem slot_cut(b:List UInt8)(i:Nat):(b.take (((i:Int)+1)*18).toNat).drop ((i:Int)*18).toNat=Y9 b i:=by
 unfold Y9
 rw[List.drop_take,show ((i:Int)*18).toNat=i*18 by omega,show (((i:Int)+1)*18).toNat-i*18=18 by omega]
theorem upd_zero(k:Int)(s:List UInt8)(hs:4≤s.length):Uy Zl (Yy k s)=Yy k s:=by
 unfold Uy
 split
 ·rfl
 ·rename_i h
  have hn:=Zj9 k s hs
  have h0:(Yy k s).n=0:=by simp only[Zl]at h;omega
  rw[Q7]at h0 ⊢
  split
  ·rfl
  ·rename_i hc
   rw[Z16 hc]at h0
   omega
theorem deal_two{b:List UInt8}{d:Nat}(hd:d<6)(hl:216≤b.length):Y7 b d=if (Yy 0 (Y9 b (2*d))).n<(Yy 1 (Y9 b (2*d+1))).n then Yy 1 (Y9 b (2*d+1)) else Yy 0 (Y9 b (2*d)):=by
 unfold Y7
 simp only[Vy]
 rw[show ((0:Nat):Int)=0 from rfl,show ((1:Nat):Int)=1 from rfl,Z4t,upd_zero _ _ (by rw[Zce _ _ (by omega) hl];decide)]
 rfl
section
attribute [local irreducible] Zv Zej Zp1 Zp2 Ze7 Zbf V0
theorem Zjf(e:Ent)(L:Za)(h0:0≤e.n∧e.n≤9223372036854775807)(h1:0≤e.s.ph∧e.s.ph≤9223372036854775807)(h2:0≤e.s.pr∧e.s.pr≤9223372036854775807)(h3:0≤e.s.att∧e.s.att≤9223372036854775807):HC prog 262 [iv e.n,.agg ⟨sc e.s⟩] L (fun v L'=>v=bs (Yu e)∧L'=L):=by
 have k1:=fun L=>U2 e.n 4 L h0.1 h0.2 (by decide)
 have k2:=fun L=>U2 e.s.ph 1 L h1.1 h1.2 (by decide)
 have k3:=fun L=>U2 e.s.pr 4 L h2.1 h2.2 (by decide)
 have k4:=fun L=>U2 e.s.att 4 L h3.1 h3.2 (by decide)
 have hcl:Zej (head e)<4294967296:=by unfold Zej;omega
 have k5:=fun L=>U2 (Zej (head e)) 4 L (by omega) (by omega) (by decide)
 have hh:(head e).length=13:=by simp[head,Zy]
 have k6:=fun L=>Za8 (head e) L (by omega)
 have n1:=Zy e.n 4
 have n2:=Zy e.s.ph 1
 have n3:=Zy e.s.pr 4
 have n4:=Zy e.s.att 4
 have n5:=Zy (Zej (head e)) 4
 have e1:Zv e.n 4++Zv e.s.ph 1++Zv e.s.pr 4++Zv e.s.att 4=head e:=rfl
 refine uE func262 ntmps262 ?_
 repeat' (first|refine uN ?_|refine uC (k1 _) ?_|refine uC (k2 _) ?_|refine uC (k3 _) ?_|refine uC (k4 _) ?_|(refine uB ?_;intro b)|refine uM ?_|fail)
 rw[e1]
 repeat' (first|refine uN ?_|refine uC (k5 _) ?_|refine uC (k6 _) ?_|(refine uB ?_;intro b)|refine uM ?_|fail)
 exact Z3 (L':=L) uL ⟨rfl,rfl⟩
theorem Zji(bb:List UInt8)(i:Nat)(L:Za)(hi:i<12)(hl:216≤bb.length)(hh:bb.length≤1000000):HC prog 201 [bs bb,iv i] L (fun v L'=>v=.tuple ⟨[iv (Yy ((i:Int) % 2) (Y9 bb i)).n,.agg ⟨sc (Yy ((i:Int) % 2) (Y9 bb i)).s⟩]⟩∧L'=L):=by
 have hs:=Zce bb i hi hl
 have hc:=slot_cut bb i
 rw[Q7,Z00]
 refine uE func201 ntmps201 ?_
 repeat' (first|refine uN ?_|(refine uB ?_;intro b)|(refine uP ?_ ?_<;>intro h<;>try exact zx)|refine uM ?_|fail)
 rw[hc]
 generalize Y9 bb i=s at*
 rename_i bR
 generalize b=bE
 refine Wf (L':=[]::[(bE,.cells ⟨ends4.map iv⟩ 3)]::[(bR,.cells ⟨sc ⟨0,0,0⟩⟩ 43)]::L) ?_ uL
 refine Zm (σ:=Nat × Value × List Zp) (fun q=>[(1,iv i),(5,pt bR 0),(6,bs s),(7,q.2.1),(8,sl bE 0 4 4),(9,iv (Zxz q.1)),(10,iv q.1)]) (fun q=>q.2.2::[(bE,.cells ⟨ends4.map iv⟩ 3)]::[(bR,.cells ⟨sc ⟨0,0,0⟩⟩ 43)]::L) (fun q=>q.1≤4∧Vec 3 1 ic q.2.1 (Zxl s q.1) q.2.2) (fun q=>4-q.1) (0,Yt,[]) uS (Z15 _) ⟨by simp,Zt⟩ ?_
 rintro⟨i4,v,c⟩ ⟨hi4,hv⟩
 simp only at hi4 hv ⊢
 by_cases hlt:i4<4
 ·obtain⟨f1,f2,f3⟩:=en4_fact hlt
  have ge:=map_getW (enc:=iv) (en4_get hlt)
  repeat' (first|refine uN ?_|(refine uB ?_;intro b)|(refine uP ?_ ?_<;>intro h<;>try exact zx)|refine uG ?_|fail)
  have e0:(Value.int .i64 0)=iv (V0 s (Zxz i4) (Zxz i4)):=by rw[fld_same]
  rw[e0]
  refine Zm (σ:=Nat) (fun k=>[(1,iv i),(5,pt bR 0),(6,bs s),(7,v),(8,sl bE 0 4 4),(9,iv k),(10,iv i4),(11,iv (V0 s (Zxz i4) k))]) (fun _=>c::[(bE,.cells ⟨ends4.map iv⟩ 3)]::[(bR,.cells ⟨sc ⟨0,0,0⟩⟩ 43)]::L) (fun k=>Zxz i4≤k∧k≤Zu3 i4) (fun k=>Zu3 i4-k) (Zxz i4) uS (Z15 _) ⟨Z21 _,f1⟩ ?_
  rintro k ⟨k3,k4⟩
  have hfl:=Zlb (s:=s) (a:=Zxz i4) (k:=k) (by omega)
  by_cases hk:k<Zu3 i4
  ·have hb2:=(s.getD (k:Int).toNat 0).toNat_lt
   have hsn:=fld_snoc (s:=s) k3 (show k<s.length by omega)
   have ek:s.getD (k:Int).toNat 0=s.getD k 0:=rfl
   repeat' (first|refine uN ?_|(refine uB ?_;intro b)|(refine uP ?_ ?_<;>intro h<;>try exact zx)|refine uG ?_|fail)
   rw[ek,← hsn]
   exact Ze (k+1) uS uL ⟨by omega,by omega⟩ (by omega)
  ·have hke:k=Zu3 i4:=by omega
   subst hke
   have hvl:=Zm4 s i4
   repeat' (first|refine uN ?_|(refine uB ?_;intro b)|(refine uP ?_ ?_<;>intro h<;>try exact zx)|refine uG ?_|fail)
   refine fo 1 ?_
   refine Zfc S (V0 s (Zxz i4) (Zu3 i4)) hv (fun _=>rfl) (fun _=>rfl) ?_
   intro v' c' hv'
   rw[← Z1w]at hv'
   repeat' (first|refine uN ?_|(refine uB ?_;intro b)|(refine uP ?_ ?_<;>intro h<;>try exact zx)|refine uG ?_|fail)
   exact Ze (i4+1,v',c') uS uL ⟨by simp only;omega,hv'⟩ (by simp only;omega)
 ·have hi9:i4=4:=by omega
  subst hi9
  rcases hv with⟨rfl,h0,-,rfl⟩|⟨bv,capv,spv,rfl,rfl,hcs,hle,hall⟩
  ·simp[Zm4]at h0
  have ev:(List.map ic (Zxl s 4)).flatten++spv=[iv (V0 s 0 4),iv (V0 s 4 5),iv (V0 s 5 9),iv (V0 s 9 13)]++spv:=rfl
  rw[ev,Zm4]
  have u0:=Zlb (s:=s) (a:=0) (k:=4) (by omega)
  have u1:=Zlb (s:=s) (a:=4) (k:=5) (by omega)
  have u2:=Zlb (s:=s) (a:=5) (k:=9) (by omega)
  have u3:=Zlb (s:=s) (a:=9) (k:=13) (by omega)
  have kb:=fun L=>Zjf ⟨V0 s 0 4,⟨V0 s 4 5,V0 s 5 9,V0 s 9 13⟩⟩ L ⟨u0.1,by simp only;omega⟩ ⟨u1.1,by simp only;omega⟩ ⟨u2.1,by simp only;omega⟩ ⟨u3.1,by simp only;omega⟩
  have hbl:=Zat ⟨V0 s 0 4,⟨V0 s 4 5,V0 s 5 9,V0 s 9 13⟩⟩
  generalize V0 s 0 4=x0 at*
  generalize V0 s 4 5=x1 at*
  generalize V0 s 5 9=x2 at*
  generalize V0 s 9 13=x3 at*
  have kt:=fun L=>W2 165 L
  rw[show bt 165 0=165 by decide +kernel]at kt
  repeat' (first|refine uN ?_|refine uC (kb _) ?_|refine uD (fun _=>kb _) ?_|refine uC (kt _) ?_|refine uD (fun _=>kt _) ?_|(refine uB ?_;intro b)|(refine uP ?_ ?_<;>intro h<;>try exact zx)|refine uM ?_|fail)
  ·rw[Z2d (.inl h)]
   exact U3 (L':=L) uL ⟨rfl,rfl⟩ (hy:=Xj S (hg:=Ym _))
  ·rw[Z2d (.inr (.inl h))]
   exact U3 (L':=L) uL ⟨rfl,rfl⟩ (hy:=Xj S (hg:=Ym _))
  ·rw[Z2d (.inr (.inr h))]
   exact U3 (L':=L) uL ⟨rfl,rfl⟩ (hy:=Xj S (hg:=Ym _))
  ·rename_i h1 h2
   rw[Z16 (fun h0=>h0.elim h1 (fun h0=>h0.elim (fun h0=>h0 h2) (fun h0=>h0 h)))]
   exact U3 (L':=L) uL ⟨rfl,rfl⟩ (hy:=Xj S (hg:=Ym _))
theorem Zfn(bb:List UInt8)(d:Nat)(L:Za)(hd:d<6)(hl:216≤bb.length)(hh:bb.length≤1000000):HC prog 156 [bs bb,iv d] L (fun v L'=>v=.tuple ⟨[iv (Y7 bb d).n,.agg ⟨sc (Y7 bb d).s⟩]⟩∧L'=L):=by
 have k1:=fun L=>Zji bb (2*d) L (by omega) hl hh
 have k2:=fun L=>Zji bb (2*d+1) L (by omega) hl hh
 rw[show (((2*d:Nat):Int) % 2)=0 by omega,show (((2*d:Nat):Int))=2*(d:Int) by omega]at k1
 rw[show (((2*d+1:Nat):Int) % 2)=1 by omega,show (((2*d+1:Nat):Int))=2*(d:Int)+1 by omega]at k2
 rw[deal_two hd hl]
 generalize Yy 0 (Y9 bb (2*d))=e0 at*
 generalize Yy 1 (Y9 bb (2*d+1))=e1 at*
 refine uE func156 ntmps156 ?_
 by_cases h0:e0.n<e1.n
 ·rw[Z2d h0]
  repeat' (first|refine uN ?_|refine uC (k1 _) ?_|refine uD (fun _=>k1 _) ?_|refine uC (k2 _) ?_|refine uD (fun _=>k2 _) ?_|(refine uB ?_;intro b)|(refine uP ?_ ?_<;>intro h<;>try exact zx)|refine uM ?_|fail)
  exact U3 (L':=L) uL ⟨rfl,rfl⟩ (hy:=Xj S (hg:=Ym _))
 ·rw[Z16 h0]
  repeat' (first|refine uN ?_|refine uC (k1 _) ?_|refine uD (fun _=>k1 _) ?_|refine uC (k2 _) ?_|refine uD (fun _=>k2 _) ?_|(refine uB ?_;intro b)|(refine uP ?_ ?_<;>intro h<;>try exact zx)|refine uM ?_|fail)
  exact U3 (L':=L) uL ⟨rfl,rfl⟩ (hy:=Xj S (hg:=Ym _))
end
structure RJ where
 rj:Nat
 rp:Nat
 bN:Nat
 capN:Nat
 spN:List Value
 bS:Nat
 capS:Nat
 spS:List Value
def Zhe(r:RJ)(dead:Bool):List Value:=[pt r.rp 0,sl r.bN 0 6 r.capN,sl r.bS 0 6 r.capS,.bool dead]
def Zaj(r:RJ)(j:Jn):List Zp:=[(r.rj,.cells ⟨Zhe r j.dead⟩ 214),(r.bN,.cells ⟨((j.l.map Ent.n).map ic).flatten++r.spN⟩ 3),(r.bS,.cells ⟨((j.l.map Ent.s).map sc).flatten++r.spS⟩ 43)]
theorem Zwh{b:List UInt8}{d:Nat}(hd:d<6):(Zq b).take (d+1)=(Zq b).take d++[Y7 b d]:=by
 have h:(Zq b).length=6:=by simp[Zq]
 rw[Z2n (by omega)]
 simp[Zq]
theorem Zot(b:List UInt8):(Zq b).length=6:=by simp[Zq]
section
attribute [local irreducible] Zq Y7
theorem Zua(rp:Nat)(m:Pl)(left:Int)(L:Za)(hl:216≤m.b.length)(hh:m.b.length≤1000000):HC prog 138 [pt rp 0] (W5 rp m left::L) (fun v L'=>∃r:RJ,r.rp=rp∧v=pt r.rj 0∧L'=Zaj r ⟨Zq m.b,false⟩::W5 rp m left::L):=by
 refine uE func138 ntmps138 ?_
 repeat' (first|refine uN ?_|(refine uB ?_;intro b)|(refine uP ?_ ?_<;>intro h<;>try exact zx)|refine uG ?_|fail)
 generalize b=b3
 refine Wf (L':=[]::[]::[(b3,.cells ⟨[pt rp 0,Yt,Yt,.bool false]⟩ 214)]::W5 rp m left::L) ?_ uL
 refine Zm (σ:=Nat × (Value × List Zp) × (Value × List Zp)) (fun q=>[(0,pt rp 0),(3,pt b3 0),(4,iv q.1)]) (fun q=>q.2.1.2::q.2.2.2::[(b3,.cells ⟨[pt rp 0,q.2.1.1,q.2.2.1,.bool false]⟩ 214)]::W5 rp m left::L) (fun q=>q.1≤6∧Vec 3 1 ic q.2.1.1 (((Zq m.b).take q.1).map Ent.n) q.2.1.2∧Vec 43 3 sc q.2.2.1 (((Zq m.b).take q.1).map Ent.s) q.2.2.2) (fun q=>6-q.1) (0,(Yt,[]),(Yt,[])) uS (Z15 _) ⟨by simp,Zt,Zt⟩ ?_
 rintro⟨d,⟨vN,cN⟩,⟨vS,cS⟩⟩ ⟨hd,hN,hS⟩
 simp only at hd hN hS ⊢
 by_cases hlt:d<6
 ·have k1:=fun L=>Zfn m.b d L hlt hl hh
  have et:=Zwh (b:=m.b) hlt
  have hol:=Zot m.b
  generalize Y7 m.b d=e at*
  have hNl:(List.map Ent.n (List.take d (Zq m.b))).length≤6:=by simp;omega
  have hSl:(List.map Ent.s (List.take d (Zq m.b))).length≤6:=by simp;omega
  repeat' (first|refine uN ?_|refine uC (k1 _) ?_|refine uD (fun _=>k1 _) ?_|(refine uB ?_;intro b)|(refine uP ?_ ?_<;>intro h<;>try exact zx)|refine uG ?_|fail)
  refine fo 2 ?_
  refine Zfc S e.n hN (fun _=>rfl) (fun _=>rfl) ?_
  intro v1 c1 hv1
  have e1:List.map Ent.n (List.take d (Zq m.b))++[e.n]=List.map Ent.n (List.take (d+1) (Zq m.b)):=by rw[et,Z20];rfl
  rw[e1]at hv1
  obtain⟨a1,p1,rfl,-,-⟩:=Vec.rd hv1 (fun _=>rfl)
  repeat' (first|refine uN ?_|(refine uB ?_;intro b)|(refine uP ?_ ?_<;>intro h<;>try exact zx)|refine uG ?_|fail)
  refine fo 4 ?_
  have scl:∀s,(sc s).length=3:=fun _=>rfl
  have sco:∀s,(sc s).all Value.oneCell'=true:=fun _=>rfl
  refine Zfc (enc:=sc) (xs:=List.map Ent.s (List.take d (Zq m.b))) S e.s hS scl sco ?_
  intro v2 c2 hv2
  have e2:List.map Ent.s (List.take d (Zq m.b))++[e.s]=List.map Ent.s (List.take (d+1) (Zq m.b)):=by rw[et,Z20];rfl
  rw[e2]at hv2
  obtain⟨a2,p2,rfl,-,-⟩:=Vec.rd hv2 (fun _=>rfl)
  repeat' (first|refine uN ?_|(refine uB ?_;intro b)|(refine uP ?_ ?_<;>intro h<;>try exact zx)|refine uG ?_|fail)
  exact Ze (d+1,(_,c1),(_,c2)) uS uL ⟨by simp only;omega,hv1,hv2⟩ (by simp only;omega)
 ·obtain rfl:d=6:=by omega
  have hol:=Zot m.b
  rw[Z3d (by omega)]at hN hS
  rcases hN with⟨rfl,h0,-,rfl⟩|⟨bN,capN,spN,rfl,rfl,hcsN,hleN,hallN⟩
  ·simp[hol]at h0
  rcases hS with⟨rfl,h0,-,rfl⟩|⟨bS,capS,spS,rfl,rfl,hcsS,hleS,hallS⟩
  ·simp[hol]at h0
  simp only[Z26,hol]
  refine fw 2 ?_
  repeat' (first|refine uN ?_|(refine uB ?_;intro b)|(refine uP ?_ ?_<;>intro h<;>try exact zx)|refine uG ?_|fail)
  exact Z3 (L':=Zaj ⟨b3,rp,bN,capN,spN,bS,capS,spS⟩ ⟨Zq m.b,false⟩::W5 rp m left::L) (LS.of_eq rfl) ⟨⟨b3,rp,bN,capN,spN,bS,capS,spS⟩,rfl,rfl,rfl⟩
end
end Go.HL
