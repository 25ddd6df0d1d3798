/- Texts laid into one, without what the claim does not use. Conditions: none. -/
import Derived.Test.YtkookaogdkdegacGreatDoorSPF
set_option linter.unusedVariables false
set_option linter.unusedSimpArgs false
set_option linter.unusedSectionVars false
set_option maxHeartbeats 4000000
set_option maxRecDepth 100000
namespace Go.HL
open Go Go.Proofs Go.Proofs.Tryz
variable[Tasks]
theorem put_st(x0 x1 x2 x3 x4 x5 a b c u v w:Value):Yi [x0,x1,x2,x3,x4,x5,a,b,c] (0+6) [u,v,w] [x0,x1,x2,x3,x4,x5,u,v,w]:=⟨rfl,by simp⟩
def Zkh(n:Nat)(f:Fr):Prop:=¬ Wc f∧f.to<n∧f.fr<n
theorem SI.eq{m:Pl}{j:Jn}(h:SI m j):j=⟨Zq m.b,m.off⟩:=by
 obtain⟨l,d⟩:=j
 have h1:d=m.off:=h.ji.off
 have h2:l=Zq m.b:=h.ji.l
 rw[h1,h2]
theorem allM_mem{m:Ld}{k p:Int}{f:Fr}(h:f∈Zdo m k p):∃i,i<m.w.length∧f=⟨m.id,i,m.deal,k,m.att,false,⟨p,0,0⟩⟩∧(k≠3∨(i:Int)≠m.id):=by
 unfold Zdo at h
 obtain⟨i,hi,hf⟩:=List.mem_flatMap.1 h
 unfold Zbo at hf
 split at hf
 ·rename_i hc
  simp at hf
  exact⟨i,Z4w.1 hi,hf,hc⟩
 ·cases hf
theorem Zgo{w:List Int}{s d:Nat}{m:Ld}(hi:LdI w s d m)(hs:s<w.length)(hw:w.length≤7)(hd:d<6){k p:Int}(hk:1≤k∧k≤7)(hp:0≤p∧p≤5):∀f∈Zdo m k p,Zkh w.length f:=by
 intro f hf
 obtain⟨i,h1,rfl,-⟩:=allM_mem hf
 rw[hi.ww]at h1
 have e1:=hi.id
 have e2:=hi.deal
 have e3:=hi.att0
 have e4:=hi.att1
 unfold Zkh Wc
 simp only
 omega
theorem LdI.is{w:List Int}{s d:Nat}{x:Ld}(h:LdI w s d x):LdIs w s d x.att x:=⟨h.id,h.deal,rfl,h.ww,h.told,h.heard⟩
theorem LdI.of{w:List Int}{s d:Nat}{x y:Ld}(h:LdI w s d x)(hy:LdIs w s d x.att y)(ht:∀t∈y.told,0≤t.ph∧t.ph≤5)(hp:0≤y.phase∧y.phase≤5)(hs:0≤y.seen∧y.seen≤1048576):LdI w s d y:=
 ⟨hy.hw,hy.hid,hy.hdl,by rw[hy.hat];exact h.att0,by rw[hy.hat];exact h.att1,hy.htl,ht,hy.hhd,hp.1,hp.2,hs.1,hs.2⟩
theorem LdI.done{w:List Int}{s d:Nat}{x:Ld}(h:LdI w s d x):LdI w s d (V5 x):=h.of h.is.done h.tok ⟨h.ph0,h.ph1⟩ ⟨h.seen0,h.seen1⟩
theorem LdI.prep{w:List Int}{s d:Nat}{x:Ld}(h:LdI w s d x){p:Int}(hp:0≤p∧p≤5):LdI w s d (Qn x p):=h.of (h.is.prep p) h.tok hp ⟨h.seen0,h.seen1⟩
theorem LdI.m1{w:List Int}{s d:Nat}{x:Ld}(h:LdI w s d x){f:Fr}(hf:¬ Wc f):LdI w s d (Zdi x f):=by
 refine h.of (h.is.m1 f) ?_ ?_ ?_
 ·unfold Zdi;split<;>exact h.tok
 ·unfold Zdi;split<;>exact⟨h.ph0,h.ph1⟩
 ·have h1:=h.seen0
  have h2:=h.seen1
  unfold Wc at hf
  unfold Zdi
  split
  ·exact⟨h1,h2⟩
  ·simp only
   omega
theorem LdI.m2{w:List Int}{s d:Nat}{x:Ld}(h:LdI w s d x){f:Fr}(hf:¬ Wc f)(hfit:X4 x f):LdI w s d (Zbj x f):=by
 have h1:=h.m1 hf
 refine h.of (h.is.m2 f hfit) ?_ ⟨h1.ph0,h1.ph1⟩ ⟨h1.seen0,h1.seen1⟩
 intro t ht
 unfold Zbj at ht
 rcases Z4v ht with h2|h2
 ·exact h.tok t h2
 ·subst h2
  unfold Wc at hf
  omega
theorem Zzm(p:Int):0≤V4 p∧V4 p≤5:=by unfold V4;split<;>(try split)<;>omega
theorem Zk6(xs:List St):0≤(Yc xs).1∧(Yc xs).1≤5:=by
 unfold Yc
 split
 ·simp
 split
 ·simp
 split<;>simp
theorem LdI.count{w:List Int}{s d:Nat}{x:Ld}(h:LdI w s d x)(hs:s<w.length)(hw:w.length≤7)(hd:d<6):LdI w s d (Ya x).1∧∀f∈(Ya x).2,Zkh w.length f:=by
 have hpre:∀p,0≤p∧p≤5→LdI w s d (Znv x p).1∧∀f∈(Znv x p).2,Zkh w.length f:=fun p hp=>⟨h.prep hp,Zgo (h.prep hp) hs hw hd (by omega) hp⟩
 have hdec:∀p,0≤p∧p≤5→LdI w s d (Zdr x p).1∧∀f∈(Zdr x p).2,Zkh w.length f:=fun p hp=>⟨h.done,Zgo h.done hs hw hd (by omega) hp⟩
 unfold Ya
 split
 ·exact hpre 4 (by omega)
 split
 ·exact⟨h,fun f hf=>by cases hf⟩
 split
 ·exact hdec _ (Zzm _)
 split
 ·exact hdec _ (Zk6 _)
 ·exact hpre _ (Zk6 _)
theorem LdI.hear{w:List Int}{s d:Nat}{x:Ld}(h:LdI w s d x)(hs:s<w.length)(hw:w.length≤7)(hd:d<6){f:Fr}(hf:¬ Wc f):LdI w s d (Zw x f).1∧∀g∈(Zw x f).2,Zkh w.length g:=by
 unfold Zw
 split
 ·exact⟨h,fun g hg=>by cases hg⟩
 rename_i hwt
 have hfit:X4 x f:=by
  by_cases hfit:X4 x f
  ·exact hfit
  ·exact absurd (.inr hfit) hwt
 split
 ·unfold noM
  have h1:=h.m1 hf
  split
  ·exact⟨h1.done,Zgo h1.done hs hw hd (by omega) (by omega)⟩
  ·exact⟨⟨h1.ww,h1.id,h1.deal,h1.att0,h1.att1,h1.told,h1.tok,h1.heard,h1.ph0,h1.ph1,h1.seen0,h1.seen1⟩,fun g hg=>by cases hg⟩
 ·exact(h.m2 hf hfit).count hs hw hd
theorem Zke{w:List Int}{s d:Nat}{a k:Int}(h0:0≤a)(h1:a≤1048576):LdI w s d (Zh s d w a k):=
 ⟨rfl,rfl,rfl,h0,h1,rfl,fun t ht=>by
  rw[List.mem_replicate.1 ht |>.2]
  simp[Uc],Z3p _,by simp[Zh],by simp[Zh],by simp[Zh],by simp[Zh]⟩
theorem Zpc{w:List Int}{s d:Nat}{m:Ld}(hi:LdI w s d m)(hs:s<w.length)(hw:w.length≤7)(hd:d<6):∀f∈Xw m,Zkh w.length f:=by
 unfold Xw
 split
 ·exact Zgo hi hs hw hd (by omega) (by omega)
 ·exact Zgo hi hs hw hd (by omega) (by omega)
theorem WI.set{M:Wm}(h:WI M){s:Int}{m:Nd}(h0:0≤s)(hm:NdI M.w s.toNat m):WI (Xm M s m):=by
 refine⟨h.w0,h.wl,h.w1,by simp[Xm,h.wn],h.fr,h.evl,fun q x hx=>?_⟩
 simp only[Xm,Z2z]at hx
 by_cases hq:s.toNat=q
 ·rw[Z2d hq]at hx
  split at hx
  ·cases hx
   rw[← hq]
   exact hm
  ·cases hx
 ·rw[Z16 hq]at hx
  exact h.nd q x hx
theorem WI.setL{M:Wm}(h:WI M){l:List Fr}(hl:∀f∈l,Zkh M.w.length f):WI { M with l:=l }:=⟨h.w0,h.wl,h.w1,h.wn,hl,h.evl,h.nd⟩
theorem WI.setE{M:Wm}(h:WI M){l:List Evt}(hl:l.length≤500):WI { M with ev:=l }:=⟨h.w0,h.wl,h.w1,h.wn,h.fr,hl,h.nd⟩
theorem WI.setB{M:Wm}(h:WI M)(f:Int × Int→Bool):WI { M with br:=f }:=⟨h.w0,h.wl,h.w1,h.wn,h.fr,h.evl,h.nd⟩
theorem WI.erase{M:Wm}(h:WI M)(k:Nat):WI { M with l:=M.l.eraseIdx k }:=h.setL fun f hf=>h.fr f (List.mem_of_mem_eraseIdx hf)
theorem Zoq(s:Int)(m:Nd)(ev:List Evt):(Wh s m ev).1.length=m.done.length:=by
 unfold Wh
 split
 ·rfl
 ·exact Zer 6
theorem Ztf(s:Int)(m:Nd)(ev:List Evt)(h:ev.length≤500):(Wh s m ev).2.length≤500:=by
 unfold Wh
 split
 ·exact h
 ·exact Zg7 h 6
theorem NdI.fall{w:List Int}{s:Nat}{m:Nd}(h:NdI w s m){pl:Pl}(hb:pl.b.length=512)(hsi:SI pl ⟨Zq pl.b,pl.off⟩)(hoff:pl.off=true):NdI w s ⟨pl,none,Z8,m.done⟩:=
 ⟨by simp[Z8],h.done,hb,hsi,fun j ref hs=>(by cases hs),fun _=>hoff,fun d x hx=>(by
  simp only[Z8,Z24]at hx
  split at hx<;>cases hx)⟩
theorem NdI.lead{w:List Int}{s:Nat}{m:Nd}(h:NdI w s m){d:Nat}{x:Ld}(hx:LdI w s d x):NdI w s { m with leads:=m.leads.set d (some x) }:=by
 refine⟨by simp[h.leads],h.done,h.b512,h.si,h.up,h.dn,fun q y hy=>?_⟩
 simp only[Z2z]at hy
 by_cases hq:d=q
 ·rw[Z2d hq]at hy
  split at hy
  ·cases hy
   rw[← hq]
   exact hx
  ·cases hy
 ·rw[Z16 hq]at hy
  exact h.ldi q y hy
theorem Z0x{n:Nat}{s:Nat}{f:Fr}{ref:Int→Bool}{st:St}(hs:s<n)(hn:n≤7)(hf:¬ Wc f)(hfr:f.fr<n)(hst:Zul st)(hk:(Xg ref f st).2.1≠0):Zkh n ⟨s,f.fr,f.dl,(Xg ref f st).2.1,f.att,(Xg ref f st).2.2,(Xg ref f st).1⟩:=by
 obtain⟨⟨g1,g2,g3,g4,g5⟩,-⟩:=Zrh (ref:=ref) hst hf
 have hk7:(Xg ref f st).2.1=0∨(Xg ref f st).2.1=2∨(Xg ref f st).2.1=4∨(Xg ref f st).2.1=6:=by
  unfold Xg
  split
  ·simp
  split
  ·simp
  split
  ·split
   ·simp
   ·split<;>simp
  split<;>simp
 unfold Zkh Wc at*
 simp only
 omega
theorem NdI.hear{w:List Int}{s:Nat}{m:Nd}(h:NdI w s m)(hs:s<w.length)(hw:w.length≤7)(ev:List Evt)(hev:ev.length≤500){f:Fr}(hfr:f.fr<w.length):
  NdI w s (Vu s m ev f).1∧(Vu s m ev f).2.1.length≤500∧∀g∈(Vu s m ev f).2.2.1,Zkh w.length g:=by
 unfold Vu
 cases hsi:m.site with
 | none=>exact⟨h,hev,fun g hg=>by cases hg⟩
 | some q=>
  obtain⟨j,ref⟩:=q
  simp only
  have hS:=h.jn hsi
  obtain⟨a1,a2,a3,a4⟩:=Zhl (id:=(s:Int)) (ref:=ref) hS f
  generalize hr:Zu s ref m.pl j f=r at*
  obtain⟨pl',j',fs,er⟩:=r
  simp only at a1 a2 a3 a4 ⊢
  have hj':=a1.eq
  have hb:pl'.b.length=512:=by rw[a2];exact h.b512
  split
  ·rename_i hoff
   exact⟨h.fall hb (hj'▸a1) hoff,hev,fun g hg=>by cases hg⟩
  ·rename_i hoff
   have hoff':pl'.off=false:=by simpa using hoff
   refine⟨⟨h.leads,by rw[Zoq];exact h.done,hb,hj'▸a1,fun j2 r2 e=>?_,fun e=>(by cases e),h.ldi⟩,Ztf _ _ _ hev,?_⟩
   ·cases e
    rw[hj']
    exact⟨by rw[hoff'],hoff'⟩
   ·intro g hg
    rcases a4 with a4|⟨b1,b2,b3,b4,b5,b6,b7⟩
    ·rw[a4]at hg;cases hg
    ·rw[b7]at hg
     simp only[Z3j]at hg
     subst hg
     unfold Wc at b1
     exact Z0x hs hw (by unfold Wc;exact b1) hfr (hS.st f.dl.toNat (by omega)) b4
theorem WI.hear{M:Wm}(h:WI M){s:Int}(h0:0≤s)(h1:s<M.n.length){f:Fr}(hfr:f.fr<M.w.length):WI (Y4 M s f).1∧∀g∈(Y4 M s f).2.1,Zkh M.w.length g:=by
 have hn:=h.wn
 have hx:=h.nd s.toNat (Zd M s) (getD_some (by omega))
 have e:((s.toNat:Nat):Int)=s:=by omega
 have key:=hx.hear (by omega) h.wl M.ev h.evl hfr
 rw[e]at key
 obtain⟨k1,k2,k3⟩:=key
 exact⟨(h.set h0 k1).setE k2,k3⟩
theorem Zeo{w:List Int}{s d:Nat}(hs:s<w.length)(hw:w.length≤7)(hd:d<6):∀(l:List Fr) (x:Ld) (acc:List Fr),LdI w s d x→(∀f∈l,Zkh w.length f)→(∀f∈acc,Zkh w.length f)→
  LdI w s d (l.foldl (fun q f=>((Zw q.1 f).1,q.2++(Zw q.1 f).2)) (x,acc)).1∧∀f∈(l.foldl (fun q f=>((Zw q.1 f).1,q.2++(Zw q.1 f).2)) (x,acc)).2,Zkh w.length f
 | [],x,acc,hx,_,ha=>⟨hx,ha⟩
 | f::l,x,acc,hx,hl,ha=>by
  rw[Z3y]
  obtain⟨k1,k2⟩:=hx.hear hs hw hd (hl f (by simp)).1
  refine Zeo hs hw hd l _ _ k1 (fun g hg=>hl g (by simp[hg])) fun g hg=>?_
  rcases Z2f.1 hg with hg|hg
  ·exact ha g hg
  ·exact k2 g hg
theorem Zne{α β:Type}(f:α→β→List Zp):∀{l:List α} {k:List β} {d:Nat} {a:α} {b:β},l[d]?=some a→k[d]?=some b→∃A B,(List.zipWith f l k).flatten=A++(f a b++B)∧∀a' b',(List.zipWith f (l.set d a') (k.set d b')).flatten=A++(f a' b'++B)
 | [],_,_,_,_,h,_=>by simp at h
 | _::_,[],_,_,_,_,h=>by simp at h
 | x::l,y::k,0,a,b,h1,h2=>by
  simp at h1 h2
  subst h1;subst h2
  exact⟨[],(List.zipWith f l k).flatten,by simp,fun a' b'=>by simp⟩
 | x::l,y::k,d+1,a,b,h1,h2=>by
  obtain⟨A,B,e1,e2⟩:=Zne f (l:=l) (k:=k) (d:=d) (a:=a) (b:=b) (by simpa using h1) (by simpa using h2)
  exact⟨f x y++A,B,by simp[e1],fun a' b'=>by simp[e2]⟩
theorem Zln{g:NdG}{m:Nd}{d:Nat}{o:Option Ld}{q:Nat × Value × List Zp}(h1:m.leads[d]?=some o)(h2:g.ld[d]?=some q):
  ∃A B,Zcx g m=A++(ldB o q++B)∧∀o' q' (m':Nd) (g':NdG),m'.leads=m.leads.set d o'→g'.ld=g.ld.set d q'→Zcx g' m'=A++(ldB o' q'++B):=by
 obtain⟨A,B,e1,e2⟩:=Zne ldB h1 h2
 refine⟨A,B,e1,fun o' q' m' g' h3 h4=>?_⟩
 unfold Zcx
 rw[h3,h4]
 exact e2 o' q'
theorem Zcd{α:Type}{l:List α}{d:Nat}{x:α}(h:l[d]?=some x):l.set d x=l:=by
 refine Z3i fun i=>?_
 rw[Z2z]
 split
 ·rename_i e
  subst e
  rw[h,Z2d (Z2j.1 h).1]
 ·rfl
theorem Zg2{g g':NdG}{m m':Nd}{d:Nat}{o':Option Ld}{q':Nat × Value × List Zp}(h3:m'.leads=m.leads.set d o')(h4:g'.ld=g.ld.set d q'):Xo g' m'=(Xo g m).set d (Zh4 o' q'):=by
 unfold Xo
 rw[h3,h4]
 refine Z3i fun i=>?_
 simp only[Z5a,Z2z,List.length_zipWith]
 by_cases hd:d=i
 ·subst hd
  simp only[Z4d]
  by_cases ha:d<m.leads.length
  ·by_cases hb:d<g.ld.length
   ·have:d<min m.leads.length g.ld.length:=by omega
    simp[ha,hb,this]
   ·have:¬ d<min m.leads.length g.ld.length:=by omega
    simp[ha,hb];omega
  ·have:¬ d<min m.leads.length g.ld.length:=by omega
   simp[ha];omega
 ·simp only[Z16 hd]
theorem NdOk.lead{g:NdG}{m:Nd}(h:NdOk g m){d:Nat}{x:Ld}{q:Nat × Value × List Zp}(hx:LdOk q.2.1 q.2.2 x):NdOk { g with ld:=g.ld.set d q } { m with leads:=m.leads.set d (some x) }:=by
 refine⟨by simp[h.ld],fun e y hy p hp=>?_,h.map⟩
 simp only[Z2z]at hy hp
 by_cases hde:d=e
 ·rw[Z2d hde]at hy hp
  split at hy
  ·split at hp
   ·cases hy;cases hp;exact hx
   ·cases hp
  ·cases hy
 ·rw[Z16 hde]at hy hp
  exact h.lok e y hy p hp
theorem NdOk.hear{g:NdG}{m:Nd}(h:NdOk g m){d:Nat}{x:Ld}{q:Nat × Value × List Zp}(h2:g.ld[d]?=some q)(hx:LdOk q.2.1 q.2.2 x):NdOk g { m with leads:=m.leads.set d (some x) }:=by
 have:=h.lead (d:=d) hx
 rw[Zcd h2]at this
 exact this
theorem Z1q(id:Int)(ref:Int→Bool)(m:Pl)(j:Jn)(f:Fr):(Zu id ref m j f).2.2.1.length≤1:=by
 unfold Zu
 split
 ·simp
 split
 ·simp
 split
 ·simp
 ·simp only
  split<;>simp
theorem Zen(M:Wm)(s:Int)(f:Fr):(Y4 M s f).2.1.length≤1:=by
 unfold Y4 Vu
 split
 ·simp
 ·rename_i j ref _
  split
  ·simp
  ·exact Z1q s ref _ j f
theorem errs_ls{tab:List (Nat × Nat)}{T:Nat}{E:Nat→Addr}{cs:List Nat}{L L':Za}(h:Errs tab T E cs L)(hl:LS L.flatten L'.flatten):Errs tab T E cs L':=h.mono fun _ _ hb=>hl.mem hb
theorem ls_mid{c A B:List Zp}{D:Za}:LS (c::A::B::D).flatten ((A++(c++B))::D).flatten:=by
 simp only[Z17,Z18]
 refine LS.of_perm ?_
 rw[← Z18,← Z18 A c]
 exact List.perm_append_comm.append_right _
theorem ls_mid'{c A B:List Zp}{D:Za}:LS ((A++(c++B))::D).flatten (c::A::B::D).flatten:=by
 simp only[Z17,Z18]
 refine LS.of_perm ?_
 rw[← Z18,← Z18 c A]
 exact List.perm_append_comm.append_right _
theorem ls7{x0 x1 x2 x3 x4 x5 x6 c A B:List Zp}{D:Za}:LS (x0::x1::x2::x3::x4::x5::x6::(A++(c++B))::D).flatten (x0::x1::x2::x3::x4::x5::x6::c::A::B::D).flatten:=LS.k (LS.k (LS.k (LS.k (LS.k (LS.k (LS.k ls_mid'))))))
theorem Rd.ls{α:Type}{enc:α→List Value}{sz:Nat}{L L':Za}{a:Option Addr}{xs:List α}(h:Rd enc sz L a xs)(hl:LS L.flatten L'.flatten):Rd enc sz L' a xs:=h.mono fun _ _ hb=>hl.mem hb
theorem WdIn.sp{L L':Za}{G:WdG}{M:Wm}(h:WdIn L G M)(hl:LS L.flatten L'.flatten):WdIn L' G M:=by
 obtain⟨h1,⟨a2,c2,e2,r2⟩,⟨a3,c3,e3,r3⟩,⟨a4,c4,e4,r4⟩,h5⟩:=h
 exact⟨hl.mem h1,⟨a2,c2,e2,r2.ls hl⟩,⟨a3,c3,e3,r3.ls hl⟩,⟨a4,c4,e4,r4.ls hl⟩,h5⟩
attribute [local irreducible] HW HO HQ HD HC QOp Has Upd Yi Gets Vv W6 Xn Zaf Wa Yz Zcl Xy
section
attribute [local irreducible] V3 Yl Xs Zu Wb Zq
theorem Wu{ρ:Z9}{L:Za}{ty:TypeId}{pos:String}{af:Array Edge}{d:Option Tmp}{g:Option (Nat × Bool)}{r:Nat}{x y:Operand}{es:List MapEntry}{ck:Nat}{f:Int × Int→Bool}{a b:Int}{v:Bool}(h00:Ul ρ=true:=by exact rfl)(hx:ev ρ x=some (.map (some r)):=by exact rfl)(hy:ev ρ y=some (.agg ⟨[iv a,iv b]⟩):=by exact rfl)
  (hb:Has L r (.map ⟨es⟩ ck):=by (repeat (first|assumption|exact Zk|exact Yr (by assumption)|apply Qp|apply Zb)))(hF:Xy pk es f:=by assumption)(hv:f (a,b)=v:=by assumption):
  QOp prog ⟨d,.lookup 107 x y false,ty,pos,af,g⟩ ρ L (.bool v):=hv▸qmP h00 hx hy (hb:=hb) (hF:=hF)
theorem Zm8(T:Nat)(E:Nat→Addr)(G:WdG)(M:Wm)(k:Int)(L:Za)(hG:Er T E [2,3,4,5,6] L)(hW:WdOk G M)(hM:WI M)(hl:M.l.length≤99999999):
  HC prog 23 [pt G.wp 0,iv k] (Xq G M++L) (fun v L'=>v=eV T E (Ww M k).2∧Zgk G (Ww M k).1 L L'):=by
 unfold Ww
 have hself:=Vr hW L
 have hI:=Zec hW L
 have ka:=Ze0 T E G M k _ (Vn hG.sub G M) hI
 cases he:Zu4 M k with
 | some e=>
  simp only[he]at ka ⊢
  generalize Xq G M++L=H at*
  refine uE func23 ntmps23 ?_
  repeat' (first|refine uN ?_|refine uC (ka) ?_|refine X7 Wu ?_|refine Qm Wu ?_|refine Zfu 100 (by exact rfl) (fun _=>Wu) ?_|(refine uB ?_;intro b)|(refine uP ?_ ?_<;>intro h<;>try exact zx)|refine uM ?_|fail)
  exact Us rfl ⟨rfl,hself⟩
 | none=>
  simp only[he]at ka ⊢
  clear hself
  have hk:0≤k∧k<M.l.length:=by
   unfold Zu4 at he
   split at he
   ·cases he
   ·omega
  obtain⟨hk0,hk1⟩:=hk
  have hgk:M.l[k.toNat]'(by omega)=M.l.getD k.toNat Yb:=by
   rw[List.getD,Z2c (by omega)];rfl
  obtain⟨hbad,hto,hfr⟩:=hM.fr (M.l.getD k.toNat Yb) (by rw[← hgk];exact Z3c _)
  have hM1:=hM.erase k.toNat
  have hW1:∀lv lc,Z0 lv (M.l.eraseIdx k.toNat) lc→WdOk { G with lv:=lv,lc:=lc } { M with l:=M.l.eraseIdx k.toNat }:=fun lv lc hv=>hW.setL hv
  have kd:=fun L=>Zgr G.lv M.l G.lc k (k+1) L hW.l (by omega) (by omega) (by omega) rfl
  obtain⟨a5,cap5,he5,-,hR5⟩:=hW.l.rd Zi
  have hR6:=(hR5 []).mono (L':=G.lc::[]) fun b o hb=>by
   simp only[Has,Z17,Z22,Z2p]at hb ⊢
   simp[hb]
  obtain⟨b5,i5,l5,F5,fr5,e6,hb5,hg5⟩:=hR6.at (j:=k) (by omega) (by omega)
  have hb5':∀H,Has (G.lc::H) b5 (.cells ⟨l5⟩ F5 fr5):=fun H=>by
   simp only[Has,Z17,Z22,Z2p]at hb5
   exact Yr hb5
  rw[hgk]at hg5
  rw[e6]at he5
  clear hR5 hR6 e6 hb5
  have hn0:0≤(M.l.getD k.toNat Yb).to:=by unfold Wc at hbad;omega
  have hn1:(M.l.getD k.toNat Yb).to<M.n.length:=by rw[hM.wn];exact hto
  have hd0:0≤(M.l.getD k.toNat Yb).dl∧(M.l.getD k.toNat Yb).dl<6:=by unfold Wc at hbad;omega
  have hnp:=Zg8 hW hn0 hn1 (H:=G.nc::[]) (fun b o hb=>Yr hb)
  have hN:=Zzj hW.ndl hn0 hn1 L
  have hF:=hW.br
  obtain⟨⟨nb,ni,nl,nF,nfr,ncap,e7,hnb,hng⟩,-,-⟩:=hnp
  have hnb':∀H,Has (G.nc::H) nb (.cells ⟨nl⟩ nF nfr):=fun H=>by
   simp only[Has,Z17,Z22,Z2p]at hnb
   exact Yr hnb
  clear hnb
  have e8:∀l,(Zd { M with l:=l } (M.l.getD k.toNat Yb).to)=Zd M (M.l.getD k.toNat Yb).to:=fun l=>rfl
  rw[e8]
  have hni:=Uh hM hn0 hn1
  have hok:=Qe hW hn0 hn1
  generalize hf:M.l.getD k.toNat Yb=f at*
  have hcl:∀lv lc,Z0 lv (M.l.eraseIdx k.toNat) lc→Zgk G { M with l:=M.l.eraseIdx k.toNat } L (Xq { G with lv:=lv,lc:=lc } { M with l:=M.l.eraseIdx k.toNat }++L):=fun lv lc hv=>Zkv (hW1 lv lc hv) rfl rfl
  have hsc:(Zd M f.to).site=none∨∃q,(Zd M f.to).site=some q:=by
   cases (Zd M f.to).site with
   | none=>exact .inl rfl
   | some q=>exact .inr ⟨q,rfl⟩
  rcases hsc with hs|⟨q,hs⟩
  ·rw[Z2d (.inl (by rw[hs];rfl))]
   obtain⟨ffr,fto,fdl,fkd,fatt,fys,fs⟩:=f
   simp only at hbad hto hfr hg5 hng hn0 hn1 hN hs ⊢
   unfold Zdm at hN
   rw[hs]at hN
   have g0:(V3 (.pointer none) (Zo G fto).bp (Xo (Zo G fto) (Zd M fto)) (Zd M fto).done)[0+0]?=some (.pointer none):=Vd rfl
   simp only[Xq,Zhv,Zbx,Z19,Z2b]at hcl ka ⊢
   rw[e7,he5]at ka ⊢
   rw[e7]at hcl
   rw[he5]at kd
   have hb5a:=hb5' (G.ec::Qs G.nd M.n 0::L)
   have hnba:=hnb' ([(G.mb,.map ⟨G.es⟩ G.ck)]::G.ec::Qs G.nd M.n 0::L)
   refine uE func23 ntmps23 ?_
   repeat' (first|refine uN ?_|refine uC (ka) ?_|refine X7 Wu ?_|refine Qm Wu ?_|refine Zfu 100 (by exact rfl) (fun _=>Wu) ?_|(refine uB ?_;intro b)|(refine uP ?_ ?_<;>intro h<;>try exact zx)|refine uM ?_|fail)
   refine fo 5 ?_
   refine gc (kd _) ?_
   rintro v L' ⟨c',hv',rfl⟩
   obtain⟨a6,cap6,rfl,-,-⟩:=hv'.rd Zi
   repeat' (first|refine uN ?_|refine uC (ka) ?_|refine X7 Wu ?_|refine Qm Wu ?_|refine Zfu 100 (by exact rfl) (fun _=>Wu) ?_|(refine uB ?_;intro b)|(refine uP ?_ ?_<;>intro h<;>try exact zx)|refine uM ?_|fail)
   all_goals exact Z3 uL ⟨rfl,hcl _ c' hv'⟩
  ·obtain⟨j,ref⟩:=q
   have hbr0:∀b,M.br (Zlr f)=b→M.br (min f.fr f.to,max f.fr f.to)=b:=fun b h=>h
   obtain⟨dn,hdn⟩:=Z2t hd0.1
   have hd6:dn<6:=by omega
   have g0:(V3 (pt (Zo G f.to).sp 0) (Zo G f.to).bp (Xo (Zo G f.to) (Zd M f.to)) (Zd M f.to).done)[0+0]?=some (pt (Zo G f.to).sp 0):=Vd rfl
   have hm1:(Zd M f.to).leads[dn]?=some ((Zd M f.to).leads.getD dn none):=getD_some (by rw[hni.leads];exact hd6)
   obtain⟨q,hq⟩:∃q,(Zo G f.to).ld[dn]?=some q:=⟨_,Z2c (by rw[hok.ld];exact hd6)⟩
   have hv:=Zg1 hm1 hq
   have gL:=Zg5 (sv:=pt (Zo G f.to).sp 0) (bp:=(Zo G f.to).bp) (dn:=(Zd M f.to).done) hv
   have hNv:Zdm (Zo G f.to) (Zd M f.to)=.cells ⟨V3 (pt (Zo G f.to).sp 0) (Zo G f.to).bp (Xo (Zo G f.to) (Zd M f.to)) (Zd M f.to).done⟩ 122:=by unfold Zdm;rw[hs];rfl
   by_cases hbr:M.br (Zlr f)=true
   ·rw[Z2d (.inr hbr)]
    have hbr':=hbr0 _ hbr
    rw[hNv]at hN
    obtain⟨ffr,fto,fdl,fkd,fatt,fys,fs⟩:=f
    simp only at hbad hto hfr hg5 hng hn0 hn1 hN hs hbr' g0 ⊢
    simp only[Xq,Zhv,Zbx,Z19,Z2b]at hcl ka ⊢
    rw[e7,he5]at ka ⊢
    rw[e7]at hcl
    rw[he5]at kd
    have hb5a:=hb5' (G.ec::Qs G.nd M.n 0::L)
    have hnba:=hnb' ([(G.mb,.map ⟨G.es⟩ G.ck)]::G.ec::Qs G.nd M.n 0::L)
    refine uE func23 ntmps23 ?_
    repeat' (first|refine uN ?_|refine uC (ka) ?_|refine X7 Wu ?_|refine Qm Wu ?_|refine Zfu 100 (by exact rfl) (fun _=>Wu) ?_|(refine uB ?_;intro b)|(refine uP ?_ ?_<;>intro h<;>try exact zx)|refine uM ?_|fail)
    refine fo 5 ?_
    refine gc (kd _) ?_
    rintro v L' ⟨c',hv',rfl⟩
    obtain⟨a6,cap6,rfl,-,-⟩:=hv'.rd Zi
    repeat' (first|refine uN ?_|refine uC (ka) ?_|refine X7 Wu ?_|refine Qm Wu ?_|refine Zfu 100 (by exact rfl) (fun _=>Wu) ?_|(refine uB ?_;intro b)|(refine uP ?_ ?_<;>intro h<;>try exact zx)|refine uM ?_|fail)
    all_goals exact Z3 uL ⟨rfl,hcl _ c' hv'⟩
   ·have hbrf:M.br (Zlr f)=false:=by simpa using hbr
    rw[Z16 (by simp[hbrf,hs])]
    have hbr':=hbr0 _ hbrf
    by_cases hkd:f.kd=2∨f.kd=4∨f.kd=6
    ·rw[Z2d hkd]
     rw[show f.dl.toNat=dn by omega]
     cases hx:(Zd M f.to).leads.getD dn none with
     | none=>
      simp only
      rw[hx]at gL
      simp only[Zh4]at gL
      rw[hNv]at hN
      obtain⟨ffr,fto,fdl,fkd,fatt,fys,fs⟩:=f
      simp only at hbad hto hfr hg5 hng hn0 hn1 hN hs hbr' g0 gL hkd hdn ⊢
      subst hdn
      simp only[Xq,Zhv,Zbx,Z19,Z2b]at hcl ka ⊢
      rw[e7,he5]at ka ⊢
      rw[e7]at hcl
      rw[he5]at kd
      have hb5a:=hb5' (G.ec::Qs G.nd M.n 0::L)
      have hnba:=hnb' ([(G.mb,.map ⟨G.es⟩ G.ck)]::G.ec::Qs G.nd M.n 0::L)
      refine uE func23 ntmps23 ?_
      repeat' (first|refine uN ?_|refine uC (ka) ?_|refine X7 Wu ?_|refine Qm Wu ?_|refine Zfu 100 (by exact rfl) (fun _=>Wu) ?_|(refine uB ?_;intro b)|(refine uP ?_ ?_<;>intro h<;>try exact zx)|refine uM ?_|fail)
      refine fo 5 ?_
      refine gc (kd _) ?_
      rintro v L' ⟨c',hv',rfl⟩
      obtain⟨a6,cap6,rfl,-,-⟩:=hv'.rd Zi
      repeat' (first|refine uN ?_|refine uC (ka) ?_|refine X7 Wu ?_|refine Qm Wu ?_|refine Zfu 100 (by exact rfl) (fun _=>Wu) ?_|(refine uB ?_;intro b)|(refine uP ?_ ?_<;>intro h<;>try exact zx)|refine uM ?_|fail)
      all_goals exact Z3 uL ⟨rfl,hcl _ c' hv'⟩
     | some x=>
      simp only
      rw[hx]at hm1 gL hv
      simp only[Zh4]at gL hv
      have hLI:=hni.ldi dn x hm1
      have hLO:=hok.lok dn x hm1 q hq
      have hhd:x.heard<2 ^ x.w.length:=by rw[hLI.ww];exact hLI.heard
      have hLs:LdIs M.w x.id x.deal x.att x:=⟨rfl,rfl,rfl,hLI.ww,hLI.told,hLI.heard⟩
      have hLh:=hLs.hear f
      have hLO':=hLs.ok hLh hLO
      have hhl:=Zb3 x f
      have hwl:=hM.wl
      rw[hLI.ww]at hhl
      refine HC.node (M':={ Xm { M with l:=M.l.eraseIdx k.toNat } f.to { Zd M f.to with leads:=(Zd M f.to).leads.set dn (some (Zw x f).1) }with l:=M.l.eraseIdx k.toNat++(Zw x f).2 }) hW hn0 hn1 ?_
      obtain⟨A,B,eA,eB⟩:=Zln hm1 hq
      have eB':=eB (some (Zw x f).1) q { Zd M f.to with leads:=(Zd M f.to).leads.set dn (some (Zw x f).1) } (Zo G f.to) rfl (Zcd hq).symm
      have eV':Xo (Zo G f.to) { Zd M f.to with leads:=(Zd M f.to).leads.set dn (some (Zw x f).1) }=Xo (Zo G f.to) (Zd M f.to):=by
       rw[Zg2 (g:=Zo G f.to) (m:=Zd M f.to) (o':=some (Zw x f).1) (q':=q) rfl (Zcd hq).symm]
       exact Zcd hv
      have hokD:=hok.hear hq hLO'
      have hls:∀X,LS (Wp G f.to (Zo G f.to) (Zd M f.to) X L).flatten ([(G.wp,Zbx G)]::G.ec::[((Zo G f.to).np,.cells ⟨V3 (pt (Zo G f.to).sp 0) (Zo G f.to).bp (Xo (Zo G f.to) (Zd M f.to)) (Zd M f.to).done⟩ 122)]::Zjz (Zo G f.to).sp (Zo G f.to).bj (Zo G f.to).mb f.to::Zkd (Zo G f.to).mb (Zo G f.to).es (Zo G f.to).ck::Xs (Zo G f.to).bp (Zo G f.to).ba (Zd M f.to).pl::jC (Zo G f.to).bj (Zo G f.to).bp j::Zax q.1 q.2.1 q.2.2 x::A::B::G.lc::G.wc::G.nc::[(G.mb,.map ⟨G.es⟩ G.ck)]::X::L).flatten:=fun X=>by
       simp only[Wp,Zdl,hNv,hs,Zo7,Zo6,Zo5]
       rw[eA]
       iterate 7 refine LS.k ?_
       exact ls_mid'
      have kat:=Ze0 T E G M k _ (errs_ls (Zp3 hG.sub G f.to (Zo G f.to) (Zd M f.to) (V1 G.nd M.n 0 f.to.toNat)) (hls _)) ((Zro hW f.to _ _ _ L).sp (hls _))
      rw[he]at kat
      clear hls
      have kh:=fun L hG=>Zli T E q.1 q.2.1 q.2.2 x f L hG hLO hhd
      generalize V1 G.nd M.n 0 f.to.toNat=X at*
      simp only[Zbx]at kat
      simp only[Wp,Zdl,hNv,hs,Zj1,Zo7,Zo6,Zo5,Zbx]
      rw[eA]
      rw[e7,he5]at kat ⊢
      rw[he5]at kd
      generalize hmm:Zd M f.to=m at*
      generalize Zo G f.to=g at*
      have hokD2:NdOk g ⟨m.pl,some (j,ref),m.leads.set dn (some (Zw x f).1),m.done⟩:=by
       have:=hokD
       rw[hs]at this
       exact this
      have eB2:=eB (some (Zw x f).1) q ⟨m.pl,some (j,ref),m.leads.set dn (some (Zw x f).1),m.done⟩ g rfl (Zcd hq).symm
      have eV2:Xo g ⟨m.pl,some (j,ref),m.leads.set dn (some (Zw x f).1),m.done⟩=Xo g m:=eV'
      obtain⟨ffr,fto,fdl,fkd,fatt,fys,fs⟩:=f
      simp only at hbad hto hfr hg5 hng hn0 hn1 hs hbr' g0 gL hkd hdn kh hhl hLO' hLh eB2 eV2 hokD2 kat ⊢
      clear eB' eV' hokD
      subst hdn
      have hb5a:=hb5' (G.wc::G.nc::[(G.mb,.map ⟨G.es⟩ G.ck)]::X::L)
      have hnba:=hnb' ([(G.mb,.map ⟨G.es⟩ G.ck)]::X::L)
      refine HC.sp (L':=[(G.wp,.cells ⟨[G.wv,sl nb ni M.n.length ncap,.map (some G.mb),sl b5 i5 M.l.length cap5,G.ev]⟩ 110)]::G.ec::[(g.np,.cells ⟨V3 (pt g.sp 0) g.bp (Xo g m) m.done⟩ 122)]::Zjz g.sp g.bj g.mb fto::Zkd g.mb g.es g.ck::Xs g.bp g.ba m.pl::jC g.bj g.bp j::Zax q.1 q.2.1 q.2.2 x::A::B::G.lc::G.wc::G.nc::[(G.mb,.map ⟨G.es⟩ G.ck)]::X::L) ?_ ?_
      ·refine uE func23 ntmps23 ?_
       repeat' (first|refine uN ?_|refine uC (kat) ?_|refine X7 Wu ?_|refine Qm Wu ?_|refine Zfu 100 (by exact rfl) (fun _=>Wu) ?_|(refine uB ?_;intro b)|(refine uP ?_ ?_<;>intro h<;>try exact zx)|refine uM ?_|fail)
       refine fo 11 ?_
       refine gc (kd _) ?_
       rintro v L' ⟨c',hv',rfl⟩
       obtain⟨a6,cap6,rfl,-,-⟩:=hv'.rd Zi
       repeat' (first|refine uN ?_|refine uC (kat) ?_|refine X7 Wu ?_|refine Qm Wu ?_|refine Zfu 100 (by exact rfl) (fun _=>Wu) ?_|(refine uB ?_;intro b)|(refine uP ?_ ?_<;>intro h<;>try exact zx)|refine uM ?_|fail)
       all_goals refine fo 9 ?_
       all_goals refine gc (kh _ (by repeat (first|exact hG|exact hG.sub|apply Errs.cons))) ?_
       all_goals rintro v L' ⟨c2,hv2,rfl⟩
       all_goals obtain⟨a7,cap7,rfl,-,hR7⟩:=hv2.rd Zi
       all_goals repeat' (first|refine uN ?_|refine uC (kat) ?_|refine X7 Wu ?_|refine Qm Wu ?_|refine Zfu 100 (by exact rfl) (fun _=>Wu) ?_|(refine uB ?_;intro b)|(refine uP ?_ ?_<;>intro h<;>try exact zx)|refine uM ?_|fail)
       all_goals refine fo 2 ?_
       all_goals refine Z1z S hv' (Rd.cons (hR7 _) _) Zi W8 ?_ (hby:=by simp only[Z4b];split<;>omega) (hmax:=by simp only[Z4b];split<;>omega)
       all_goals intro v'' c'' hv''
       all_goals obtain⟨a8,cap8,rfl,-,-⟩:=hv''.rd Zi
       all_goals repeat' (first|refine uN ?_|refine uC (kat) ?_|refine X7 Wu ?_|refine Qm Wu ?_|refine Zfu 100 (by exact rfl) (fun _=>Wu) ?_|(refine uB ?_;intro b)|(refine uP ?_ ?_<;>intro h<;>try exact zx)|refine uM ?_|fail)
       all_goals refine Z3 (L':=Wp { G with lv:=.slice a8 (M.l.eraseIdx k.toNat++(Zw x ⟨ffr,fto,dn,fkd,fatt,fys,fs⟩).2).length cap8,lc:=c'' } fto g ⟨m.pl,some (j,ref),m.leads.set dn (some (Zw x ⟨ffr,fto,dn,fkd,fatt,fys,fs⟩).1),m.done⟩ X L) ?_ ⟨rfl,{ G with lv:=.slice a8 (M.l.eraseIdx k.toNat++(Zw x ⟨ffr,fto,dn,fkd,fatt,fys,fs⟩).2).length cap8,lc:=c'' },{ M with l:=M.l.eraseIdx k.toNat++(Zw x ⟨ffr,fto,dn,fkd,fatt,fys,fs⟩).2 },g,⟨m.pl,some (j,ref),m.leads.set dn (some (Zw x ⟨ffr,fto,dn,fkd,fatt,fys,fs⟩).1),m.done⟩,hW.setL hv'',rfl,rfl,rfl,hokD2,rfl,rfl,rfl⟩
       all_goals simp only[Wp,Zdl,Zdm,Zj1,Zo7,Zo6,Zo5,Zbx,eV2]
       all_goals rw[eB2,e7]
       all_goals simp only[ldB,Zax]
       all_goals exact LS.trans ls7 uL
      ·iterate 7 refine LS.k ?_
       exact ls_mid
    ·rw[Z16 hkd]
     have kh:=fun lv lc hv L hG=>Zhr T E { G with lv:=lv,lc:=lc } { M with l:=M.l.eraseIdx k.toNat } f.to f L hG (hW1 lv lc hv) hM1 hn0 hn1 (by rw[e8,hs];simp)
     have hhl:=Zen { M with l:=M.l.eraseIdx k.toNat } f.to f
     have hml:(Y4 { M with l:=M.l.eraseIdx k.toNat } f.to f).1.l=M.l.eraseIdx k.toNat:=rfl
     rw[hNv]at hN
     obtain⟨ffr,fto,fdl,fkd,fatt,fys,fs⟩:=f
     simp only at hbad hto hfr hg5 hng hn0 hn1 hN hs hbr' g0 hkd kh hhl hml ⊢
     clear hdn
     generalize Y4 { M with l:=M.l.eraseIdx k.toNat } fto ⟨ffr,fto,fdl,fkd,fatt,fys,fs⟩=R at*
     simp only[Xq,Zhv,Zbx,Z19,Z2b]at ka ⊢
     rw[e7,he5]at ka ⊢
     rw[he5]at kd
     have hb5a:=hb5' (G.ec::Qs G.nd M.n 0::L)
     have hnba:=hnb' ([(G.mb,.map ⟨G.es⟩ G.ck)]::G.ec::Qs G.nd M.n 0::L)
     refine uE func23 ntmps23 ?_
     repeat' (first|refine uN ?_|refine uC (ka) ?_|refine X7 Wu ?_|refine Qm Wu ?_|refine Zfu 100 (by exact rfl) (fun _=>Wu) ?_|(refine uB ?_;intro b)|(refine uP ?_ ?_<;>intro h<;>try exact zx)|refine uM ?_|fail)
     refine fo 5 ?_
     refine gc (kd _) ?_
     rintro v L' ⟨c',hv',rfl⟩
     obtain⟨a6,cap6,rfl,-,-⟩:=hv'.rd Zi
     repeat' (first|refine uN ?_|refine uC (ka) ?_|refine X7 Wu ?_|refine Qm Wu ?_|refine Zfu 100 (by exact rfl) (fun _=>Wu) ?_|(refine uB ?_;intro b)|(refine uP ?_ ?_<;>intro h<;>try exact zx)|refine uM ?_|fail)
     refine Uk (L':=Xq { G with lv:=.slice a6 (M.l.eraseIdx k.toNat).length cap6,lc:=c' } { M with l:=M.l.eraseIdx k.toNat }++L) ?_ ?_
     ·refine gc (kh _ _ hv' _ (by repeat (first|exact hG|exact hG.sub|apply Errs.cons))) ?_
      rintro v L' ⟨c2,⟨fv,hfv,rfl⟩,G2,e1,e2,hW2,rfl⟩
      obtain⟨a7,cap7,rfl,-,hR7⟩:=hfv.rd Zi
      obtain⟨a8,cap8,he8,-,-⟩:=hW2.l.rd Zi
      have hv2:=hW2.l
      rw[hml]at hv2 he8
      have hcl2:∀lv lc,Z0 lv (M.l.eraseIdx k.toNat++R.2.1) lc→Zgk G { R.1 with l:=M.l.eraseIdx k.toNat++R.2.1 } L (Xq { G2 with lv:=lv,lc:=lc } { R.1 with l:=M.l.eraseIdx k.toNat++R.2.1 }++L):=fun lv lc hv=>⟨{ G2 with lv:=lv,lc:=lc },e1,e2,hW2.setL hv,rfl⟩
      simp only[Xq,Zhv,Zbx,Z19,Z2b,e1]at hcl2 ⊢
      rw[he8]at hv2 ⊢
      repeat' (first|refine uN ?_|refine uC (ka) ?_|refine X7 Wu ?_|refine Qm Wu ?_|refine Zfu 100 (by exact rfl) (fun _=>Wu) ?_|(refine uB ?_;intro b)|(refine uP ?_ ?_<;>intro h<;>try exact zx)|refine uM ?_|fail)
      refine fo 4 ?_
      refine Z1z S hv2 (Rd.cons ((hR7 []).mono fun b o hb=>?_) _) Zi W8 ?_ (hby:=by simp only[Z4b];split<;>omega) (hmax:=by simp only[Z4b];split<;>omega)
      ·exact Zb (Zb (Zb (Zb (Zb (Zb (Yr (by simpa[Has] using hb)))))))
      intro v'' c'' hv''
      obtain⟨a9,cap9,rfl,-,-⟩:=hv''.rd Zi
      repeat' (first|refine uN ?_|refine uC (ka) ?_|refine X7 Wu ?_|refine Qm Wu ?_|refine Zfu 100 (by exact rfl) (fun _=>Wu) ?_|(refine uB ?_;intro b)|(refine uP ?_ ?_<;>intro h<;>try exact zx)|refine uM ?_|fail)
      exact Z3 uL ⟨rfl,hcl2 _ c'' hv''⟩
     ·simp only[Xq,Zhv,Zbx,Z19,Z2b,e7]
      exact uL
end
theorem Zuu{G G':WdG}{M M1:Wm}{s:Int}{g':NdG}{m':Nd}(L:Za)(hl:G.nd.length=M.n.length)(h0:0≤s)(h1:s<M.n.length)(hW:WdOk G' M1)(e1:G'.nd=G.nd)(e2:M1.n=M.n)(e3:G'.wp=G.wp)(hN:NdOk g' m')(e4:g'.np=(Zo G s).np):
  ∃L',Zgk G (Xm M1 s m') L L'∧LS L'.flatten (Wp G' s g' m' (V1 G.nd M.n 0 s.toNat) L).flatten:=by
 have hnp:g'.np=(Zo G' s).np:=by rw[e4];unfold Zo;rw[e1]
 refine⟨Xq { G' with nd:=G'.nd.set s.toNat g' } (Xm M1 s m')++L,⟨{ G' with nd:=G'.nd.set s.toNat g' },e3,?_,hW.put h0 (by rw[e2];exact h1) hN hnp,rfl⟩,?_⟩
 ·simp only
  rw[← e1]
  exact Zql h0 (by rw[e1];omega) hnp
 ·simp only[Xq,Xm,e1,e2]
  exact Zm7 (G:=G') h0 (by omega) (by omega) L
theorem LS.cutAt{a A x B:List Zp}{L L1:Za}(k0:Nat)(h:LS a (A::B::L1).flatten)(hp:Zdj k0 L=some (A++(x++B),L1):=by exact rfl):LS a L.flatten:=by
 refine LS.trans h (LS.trans ?_ (LS.of_perm (Vo hp).symm.flatten))
 simp only[Z17,Z18]
 exact LS.boths A (LS.skips x (LS.refl _))
theorem Zdb(m:Ld):(Xw m).length≤m.w.length:=by
 unfold Xw
 split<;>exact U1 _ (Zgn m _ _) _
theorem Zlo{M:Wm}(h:WI M){s d a:Int}(h0:0≤s)(h1:s<M.n.length)(hd:0≤d∧d<6)(ha:a≤1048576):Zdx s d M.w a=none:=by
 unfold Zdx
 rw[h.w0]
 have:=h.wn
 simp only
 rw[Z16 (by omega)]
theorem Zr2{M:Wm}{d:Int}{i:Nat}(hi:i<M.n.length)(hb:V6 d (Zd M (i:Int))=true):M.n.any (V6 d)=true:=by
 rw[Z4l]
 refine⟨_,?_,hb⟩
 unfold Zd
 simp only[Z2w]
 rw[List.getD,Z2c hi]
 exact Z3c _
theorem Zn7{M:Wm}{d:Int}(h:∀i,i<M.n.length→V6 d (Zd M (i:Int))=false):M.n.any (V6 d)=false:=by
 rw[Z4y]
 intro x hx
 obtain⟨i,hi,rfl⟩:=List.mem_iff_getElem.1 hx
 have:=h i hi
 unfold Zd at this
 simp only[Z2w]at this
 rw[List.getD,Z2c hi]at this
 simp only[Z46]at this
 rw[this]
 simp
section
attribute [local irreducible] V3 Yl Xs Zu Wb Zq
theorem Zrn(T:Nat)(E:Nat→Addr)(G:WdG)(M:Wm)(s d:Int)(L:Za)(hG:Er T E [2,3,4,6,8] L)(hW:WdOk G M)(hM:WI M)(hl:M.l.length≤99999999):
  HC prog 21 [pt G.wp 0,iv s,iv d] (Xq G M++L) (fun v L'=>v=eV T E (U6 M s d).2∧Zgk G (U6 M s d).1 L L'):=by
 unfold U6
 have hself:=Vr hW L
 have hI:=Zec hW L
 have hwn:=hM.wn
 have hwl:=hM.wl
 obtain⟨an,capn,hnv,hnr⟩:=hI.ns
 by_cases h:d<0∨6≤d∨s<0∨M.n.length≤s
 ·simp only[Z2d h]
  have hG':=Vn hG G M
  have hw:=hI.wp
  unfold Zbx at hw
  rw[hnv]at hw
  generalize Xq G M++L=H at*
  refine uE func21 ntmps21 ?_
  repeat' (first|refine uN ?_|(refine uB ?_;intro b)|refine dg S 100 (fun _ _=>?_)|(refine uP ?_ ?_<;>intro h<;>try exact zx)|refine uM ?_|fail)
  all_goals exact Us rfl ⟨rfl,hself⟩
 simp only[Z16 h]
 rcases Zbw (M:=M) (s:=s)with⟨e,he⟩|⟨he,hn,h0,h1,j,ref,hs⟩
 ·have ku:=Zlm s hG.sub hW
  have hG':=Vn hG G M
  have hw:=hI.wp
  unfold Zbx at hw
  rw[hnv]at hw
  generalize Xq G M++L=H at*
  simp only[he]at ku ⊢
  refine uE func21 ntmps21 ?_
  repeat' (first|refine uN ?_|refine uC (ku) ?_|(refine uB ?_;intro b)|refine dg S 100 (fun _ _=>?_)|(refine uP ?_ ?_<;>intro h<;>try exact zx)|refine uM ?_|fail)
  exact Us rfl ⟨rfl,hself⟩
 ·simp only[he]
  have ku:=Zlm s hG.sub hW
  have hG':=Vn hG G M
  have hw:=hI.wp
  unfold Zbx at hw
  rw[hnv]at hw
  generalize hH:Xq G M++L=H at*
  simp only[he,Zxj hn]at ku
  refine uE func21 ntmps21 ?_
  repeat' (first|refine uN ?_|refine uC (ku) ?_|(refine uB ?_;intro b)|refine dg S 100 (fun _ _=>?_)|(refine uP ?_ ?_<;>intro h<;>try exact zx)|refine uM ?_|fail)
  have hB:∀{i:Int} (h0:0≤i) (h1:i<M.n.length) {b:Nat} {o:Obj},(b,o)∈Zon (Zo G i) i (Zd M i)→Has H b o:=fun {i} h0 h1 {b o} hb=>by
   have:=Zrp hW.ndl h0 h1 hb L
   subst hH
   unfold Has Xq at*
   rw[Z18,Z2l]
   exact Z2q _ this
  obtain⟨dn,rfl⟩:=Z2t (show 0≤d by omega)
  have hd6:dn<6:=by omega
  refine Zm (σ:=Nat) (fun i=>[(0,pt G.wp 0),(1,iv s),(2,iv dn),(7,pt (Zo G s).np 0),(45,.slice an M.n.length capn),(46,iv M.n.length),(47,iv i)]) (fun _=>H) (fun i=>i≤M.n.length∧∀k,k<i→V6 dn (Zd M (k:Int))=false) (fun i=>M.n.length-i) 0 uS (Z15 _) ⟨by simp,fun k hk=>by omega⟩ ?_
  rintro i ⟨hi,hfree⟩
  by_cases hlt:i<M.n.length
  ·have hBi:=fun {b o}=>hB (i:=(i:Int)) (by omega) (by omega) (b:=b) (o:=o)
   have hni:=Uh hM (s:=(i:Int)) (by omega) (by omega)
   have hok:=Qe hW (s:=(i:Int)) (by omega) (by omega)
   obtain⟨⟨b,bi,l,F,fr,cap2,e7,hb,hg2⟩,-,-⟩:=Zg8 hW (s:=(i:Int)) (by omega) (by omega) (H:=H) (fun b o hb=>by
    subst hH
    simp only[Has,Xq,Zhv,Z17,Z19,Z2b]
    simp[hb])
   rw[hnv]at e7
   obtain⟨rfl,-,rfl⟩:=Z4q e7
   have hNi:Has H (Zo G i).np (Zdm (Zo G i) (Zd M i)):=hBi (by simp[Zon,Zdl])
   have kst:=Zrs T E G M i dn H hG'.sub hI hW.ndl (fun _=>hNi) (fun _=>⟨by rw[hni.b512];omega,by rw[hni.b512];omega,fun p hp=>hBi (by
    unfold Zon Xs
    simp only[Z2h,Z4m,Z6j]at hp
    rcases hp with rfl|rfl
    ·simp[plB]
    ·simp[plD])⟩)
   have e1:Zht M i dn=none:=by
    unfold Zht
    rw[nodeE_ok (by omega) (by omega)]
    simp only
    rw[Z16 (by omega)]
   have e2:Zrr M i dn=Znq (Zd M i).pl dn:=by unfold Zrr;rw[e1]
   rw[e1,e2]at kst
   have hm1:(Zd M i).leads[dn]?=some ((Zd M i).leads.getD dn none):=getD_some (by rw[hni.leads];exact hd6)
   obtain⟨q,hq⟩:∃q,(Zo G i).ld[dn]?=some q:=⟨_,Z2c (by rw[hok.ld];exact hd6)⟩
   have hv:=Zg1 hm1 hq
   have gL:=Zg5 (sv:=Zj1 (Zo G i) (Zd M i).site) (bp:=(Zo G i).bp) (dn:=(Zd M i).done) hv
   have hbz:V6 dn (Zd M i)=(decide (Znq (Zd M i).pl dn≠Uc) || ((Zd M i).leads.getD dn none).isSome):=rfl
   have hbu:=Zr2 (M:=M) (d:=dn) hlt
   unfold Zdm at hNi
   generalize hmi:Zd M i=m at*
   generalize Zo G i=g at*
   generalize Znq m.pl dn=st at*
   obtain⟨ph,pr,att⟩:=st
   cases hx:m.leads.getD dn none with
   | some x=>
    rw[hx]at gL hbz
    simp only[Zh4]at gL
    have hb1:V6 dn m=true:=by rw[hbz];simp
    rw[Z2d (hbu hb1)]
    repeat' (first|refine uN ?_|refine uC (kst) ?_|(refine uB ?_;intro b)|refine dg S 100 (fun _ _=>?_)|(refine uP ?_ ?_<;>intro h<;>try exact zx)|refine uM ?_|fail)
    all_goals exact Z3 (LS.c (LS.refl _)) ⟨rfl,hself⟩
   | none=>
    rw[hx]at gL hbz
    simp only[Zh4]at gL
    by_cases hz:ph=0∧pr=0∧att=0
    ·obtain⟨rfl,rfl,rfl⟩:=hz
     have hb0:V6 dn m=false:=by rw[hbz];rfl
     repeat' (first|refine uN ?_|refine uC (kst) ?_|(refine uB ?_;intro b)|refine dg S 100 (fun _ _=>?_)|(refine uP ?_ ?_<;>intro h<;>try exact zx)|refine uM ?_|fail)
     all_goals refine Ze (i+1) uS (LS.c (LS.refl _)) ⟨by omega,fun k hk=>?_⟩ (by omega)
     all_goals by_cases e:k=i
     all_goals first|(subst e;rw[hmi];exact hb0;done)|exact hfree k (by omega)
    ·have hb1:V6 dn m=true:=by
      rw[hbz,Z29]
      ·rfl
      ·intro e
       cases e
       exact hz ⟨rfl,rfl,rfl⟩
     rw[Z2d (hbu hb1)]
     repeat' (first|refine uN ?_|refine uC (kst) ?_|(refine uB ?_;intro b)|refine dg S 100 (fun _ _=>?_)|(refine uP ?_ ?_<;>intro h<;>try exact zx)|refine uM ?_|fail)
     all_goals first|exact Z3 (LS.c (LS.refl _)) ⟨rfl,hself⟩|(exfalso;simp_all;done)
  ·obtain rfl:i=M.n.length:=by omega
   have hany:M.n.any (V6 (dn:Int))=false:=Zn7 hfree
   simp only[hany,Z2r,Z3h]
   subst hH
   obtain⟨aw,capw,hwv,-,hwr⟩:=hW.w.rd X0
   obtain⟨al,capl,hlv5,-,hlr⟩:=hW.l.rd Zi
   have hvl:=hW.l
   have hok:=Qe hW h0 h1
   have hni:=Uh hM h0 h1
   have hm1:(Zd M s).leads[dn]?=some ((Zd M s).leads.getD dn none):=getD_some (by rw[hni.leads];exact hd6)
   obtain⟨q,hq⟩:∃q,(Zo G s).ld[dn]?=some q:=⟨_,Z2c (by rw[hok.ld];exact hd6)⟩
   have hv:=Zg1 hm1 hq
   obtain⟨A,B,eA,eB⟩:=Zln hm1 hq
   have hlE:=Zlo hM (s:=s) (d:=dn) (a:=0) h0 h1 ⟨by omega,by omega⟩ (by omega)
   have kb:=fun L hG hR=>Zrz T E s dn aw capw M.w L hG hR (by omega)
   rw[hlE]at kb
   rw[hlv5]at hvl
   have hsl:=Zdb (Zh s dn M.w 0 2)
   have hslw:(Zh s dn M.w 0 2).w=M.w:=rfl
   rw[hslw]at hsl
   have hsh:=fun G' M1 g' m' a b c d e f=>Zuu (G:=G) (G':=G') (M:=M) (M1:=M1) (s:=s) (g':=g') (m':=m') L hW.ndl h0 h1 a b c d e f
   have hWL:=fun {lv lc l} hv=>hW.setL (lv:=lv) (lc:=lc) (l:=l) hv
   have hlv:(Xo (Zo G s) (Zd M s)).length=6:=by simp[Xo,hni.leads,hok.ld]
   refine Wf (L':=Wp G s (Zo G s) (Zd M s) (V1 G.nd M.n 0 s.toNat) L) ?_ (Zkx hW.ndl h0 h1 L)
   generalize V1 G.nd M.n 0 s.toNat=X at*
   generalize hmm:Zd M s=m at*
   generalize hgg:Zo G s=g at*
   obtain⟨pl,site,leads,done⟩:=m
   simp only at hs hm1 hlv
   subst hs
   simp only[Wp,Zdl,Zdm,Zj1,Zo7,Zo6,Zo5,Zbx]
   rw[hwv,hnv,hlv5]
   repeat' (first|refine uN ?_|refine uC (ku) ?_|(refine uB ?_;intro b)|refine dg S 100 (fun _ _=>?_)|(refine uP ?_ ?_<;>intro h<;>try exact zx)|refine uM ?_|fail)
   refine Zfu 4 (by exact rfl) (fun _=>qe S) ?_
   refine Zfu 4 (by exact rfl) (fun _=>qe S) ?_
   refine da 101 ?_
   refine gc (kb _ (by repeat (first|exact hG|exact hG.sub|apply Errs.cons)) ?_) ?_
   ·repeat (first|exact hwr _|apply Rd.cons)
   rintro v L' ⟨lp,wv',wc',rfl,hLd,rfl⟩
   have gP:=Zs9 (sv:=pt g.sp 0) (bp:=g.bp) (lv:=Xo g ⟨pl,some (j,ref),leads,done⟩) (dn:=done) (d:=dn) (pt lp 0) (by omega)
   have gL2:=Zg5 (sv:=pt g.sp 0) (bp:=g.bp) (lv:=(Xo g ⟨pl,some (j,ref),leads,done⟩).set dn (pt lp 0)) (dn:=done) (d:=dn) (v:=pt lp 0) (by simp[hlv,hd6])
   have kst:=fun L=>Zjm lp wv' wc' (Zh s dn M.w 0 2) L hLd
   repeat' (first|refine uN ?_|refine uC (ku) ?_|(refine uB ?_;intro b)|refine dg S 100 (fun _ _=>?_)|(refine uP ?_ ?_<;>intro h<;>try exact zx)|refine uM ?_|fail)
   refine gc (kst _) ?_
   rintro v L' ⟨c2,hv2,rfl⟩
   obtain⟨a7,cap7,rfl,-,hR7⟩:=hv2.rd Zi
   repeat' (first|refine uN ?_|refine uC (ku) ?_|(refine uB ?_;intro b)|refine dg S 100 (fun _ _=>?_)|(refine uP ?_ ?_<;>intro h<;>try exact zx)|refine uM ?_|fail)
   refine fo 10 ?_
   refine Z1z S hvl (Rd.cons (hR7 _) _) Zi W8 ?_ (hby:=by omega) (hmax:=by omega)
   intro v'' c'' hv''
   obtain⟨a8,cap8,rfl,-,-⟩:=hv''.rd Zi
   repeat' (first|refine uN ?_|refine uC (ku) ?_|(refine uB ?_;intro b)|refine dg S 100 (fun _ _=>?_)|(refine uP ?_ ?_<;>intro h<;>try exact zx)|refine uM ?_|fail)
   obtain⟨L2,hw2,hls2⟩:=hsh { G with lv:=.slice a8 (M.l++Xw (Zh s dn M.w 0 2)).length cap8,lc:=c'' } { M with l:=M.l++Xw (Zh s dn M.w 0 2) } { g with ld:=g.ld.set dn (lp,wv',wc') } ⟨pl,some (j,ref),leads.set dn (some (Zh s dn M.w 0 2)),done⟩
    (hW.setL hv'') rfl rfl rfl (hok.lead (q:=(lp,wv',wc')) hLd) rfl
   refine Z3 (LS.trans hls2 ?_) ⟨rfl,hw2⟩
   have eB2:=eB (some (Zh s dn M.w 0 2)) (lp,wv',wc') ⟨pl,some (j,ref),leads.set dn (some (Zh s dn M.w 0 2)),done⟩ { g with ld:=g.ld.set dn (lp,wv',wc') } rfl rfl
   have eV2:=Zg2 (g:=g) (g':={ g with ld:=g.ld.set dn (lp,wv',wc') }) (m:=⟨pl,some (j,ref),leads,done⟩) (m':=⟨pl,some (j,ref),leads.set dn (some (Zh s dn M.w 0 2)),done⟩) (o':=some (Zh s dn M.w 0 2)) (q':=(lp,wv',wc')) rfl rfl
   simp only[Wp,Zdl,Zdm,Zj1,Zo7,Zo6,Zo5,Zbx,eV2]
   rw[eB2,eA,hwv,hnv]
   simp only[ldB,Zax,Zh4]
   refine LS.trans ls7 (LS.cutAt 10 ?_)
   exact uL
end
theorem Zry{k s a j:Int}(hk:0<k)(hs0:0≤s)(hs1:s<k)(hj0:0≤j)(hj:j≤(s-a) % k):((a+j) % k=s↔j=(s-a) % k):=by
 have hr0:=Z5n (s-a) (by omega:k≠0)
 have hr1:=Z5m (s-a) hk
 have e1:=Int.emod_add_mul_ediv (s-a) k
 have e2:=Int.emod_add_mul_ediv (a+j) k
 have h0:=Z5n (a+j) (by omega:k≠0)
 have h1:=Z5m (a+j) hk
 generalize (s-a) % k=r at*
 generalize (a+j) % k=t at*
 generalize (s-a) / k=u at*
 generalize (a+j) / k=v at*
 have e3:s-t=(r-j)+k*(u+v):=by rw[Int.mul_add];omega
 constructor
 ·intro h
  subst h
  have:(r-j)=- (k*(u+v)):=by omega
  have hz:u+v=0:=by
   rcases Int.lt_trichotomy (u+v) 0 with h|h|h
   ·have:k*(u+v)≤k*(-1):=Z45 (by omega) (by omega)
    omega
   ·exact h
   ·have:k*1≤k*(u+v):=Z45 (by omega) (by omega)
    omega
  rw[hz]at this
  omega
 ·intro h
  subst h
  have hz:u+v=0:=by
   rcases Int.lt_trichotomy (u+v) 0 with h|h|h
   ·have:k*(u+v)≤k*(-1):=Z45 (by omega) (by omega)
    omega
   ·exact h
   ·have:k*1≤k*(u+v):=Z45 (by omega) (by omega)
    omega
  rw[hz]at e3
  omega
theorem Zi1(x:Ld)(l:List Fr)(i:Nat)(h:i<l.length):Zz x (l.take (i+1))=((Zw (Zz x (l.take i)).1 l[i]).1,(Zz x (l.take i)).2++(Zw (Zz x (l.take i)).1 l[i]).2):=by
 unfold Zz
 rw[List.take_add_one,Z2c h,Option.toList_some,Z5b]
 rfl
section
attribute [local irreducible] V3 Yl Xs Zu Wb Zq
theorem Zxv(T:Nat)(E:Nat→Addr)(G:WdG)(M:Wm)(s d p:Int)(L:Za)(hG:Er T E [2,3,4,5,6] L)(hW:WdOk G M)(hM:WI M)(hl:M.l.length≤99999900)(h0:0≤s)(h1:s<M.n.length)(hs:(Zd M s).site≠none)(hd:0≤d∧d<6)(hp:0≤p∧p≤1048576):
  HC prog 144 [pt G.wp 0,iv s,iv d,iv p] (Xq G M++L) (fun v L'=>v=.bool (Zd8 M s d p).2∧Zgk G (Zd8 M s d p).1 L L'):=by
 have hself:=Vr hW L
 have hI:=Zec hW L
 have hwn:=hM.wn
 have hwl:=hM.wl
 have hw1:=hM.w1
 have hG':=Vn hG G M
 have hw:=hI.wp
 obtain⟨⟨nb,ni,nl,nF,nfr,ncap,hnv,hnb,hng⟩,-,-⟩:=Zg8 hW h0 h1 (H:=Xq G M++L) (fun b o hb=>by
  simp only[Has,Xq,Zhv,Z17,Z19,Z2b]
  simp[hb])
 obtain⟨aw,capw,hwv,-,hwr⟩:=hW.w.rd X0
 unfold Zbx at hw
 rw[hnv,hwv]at hw
 have hok:=Qe hW h0 h1
 have hni:=Uh hM h0 h1
 obtain⟨dn,rfl⟩:=Z2t hd.1
 have hd6:dn<6:=by omega
 have hm1:(Zd M s).leads[dn]?=some ((Zd M s).leads.getD dn none):=getD_some (by rw[hni.leads];exact hd6)
 obtain⟨q,hq⟩:∃q,(Zo G s).ld[dn]?=some q:=⟨_,Z2c (by rw[hok.ld];exact hd6)⟩
 have hv:=Zg1 hm1 hq
 have gL:=Zg5 (sv:=Zj1 (Zo G s) (Zd M s).site) (bp:=(Zo G s).bp) (dn:=(Zd M s).done) hv
 have hN:=Zkw hW.ndl h0 h1 L
 have hB:∀{b:Nat} {o:Obj},(b,o)∈Zon (Zo G s) s (Zd M s)→Has (Xq G M++L) b o:=fun {b o} hb=>by
  have:=Zrp hW.ndl h0 h1 hb L
  unfold Has Xq at*
  rw[Z18,Z2l]
  exact Z2q _ this
 have kse:∀x,(Zd M s).leads[dn]?=some (some x)→HC prog 191 [pt q.1 0] (Xq G M++L) (fun v L'=>v=iv x.seen∧L'=(Xq G M++L)):=fun x hx=>lseenH q.1 q.2.1 x _ (hni.ldi dn x hx).told (hB (by
  unfold Zon
  exact Z2q _ (ldBs_mem hx hq (by simp[Zax]))))
 have hab:0≤Xf (Zd M s) dn p∧Xf (Zd M s) dn p≤1048576:=by
  unfold Xf
  split
  ·exact hp
  ·rename_i x hx
   have:=hni.ldi dn x (by rw[hm1];simp only[Z2w]at hx;rw[hx])
   have h1:=this.seen0
   have h2:=this.seen1
   omega
 have hr0:=Z5n (s-(Xf (Zd M s) dn p+1)) (by omega:(M.w.length:Int)≠0)
 have hr1:=Z5m (s-(Xf (Zd M s) dn p+1)) (by omega:(0:Int)<M.w.length)
 unfold Zdm at hN
 generalize hH:Xq G M++L=H at*
 unfold Zd8 Zm1
 have habv:Xf (Zd M s) dn p=match (Zd M s).leads.getD dn none with
  | none=>p
  | some x=>max p x.seen:=rfl
 generalize hab2:Xf (Zd M s) dn p=ab at*
 dsimp only
 refine uE func144 ntmps144 ?_
 apply Zf8 (ι:=Int) (fun a=>a=ab) (fun a=>[(0,pt G.wp 0),(1,iv s),(2,iv dn),(9,pt (Zo G s).np 0),(12,iv M.w.length),(13,iv (a+1))]) (fun _=>H)
 ·intro key
  cases hx:(Zd M s).leads.getD dn none with
  | none=>
   rw[hx]at gL habv
   simp only[Zh4]at gL habv
   repeat' (first|refine uN ?_|refine uC (kse _ hx) ?_|refine uD (fun _=>kse _ hx) ?_|(refine uB ?_;intro b)|(refine uP ?_ ?_<;>intro h<;>try exact zx)|refine uM ?_|fail)
   exact Wf (Zbp (key _ habv.symm) uS) (LS.refl _)
  | some x=>
   rw[hx]at gL habv hm1
   simp only[Zh4]at gL habv
   have kse2:=kse x hm1
   repeat' (first|refine uN ?_|refine uC (kse2) ?_|(refine uB ?_;intro b)|(refine uP ?_ ?_<;>intro h<;>try exact zx)|refine uM ?_|fail)
   exact Wf (Zbp (key _ habv.symm) uS) (LS.refl _)
 rintro ab' rfl
 refine Zm (σ:=Int) (fun x=>[(0,pt G.wp 0),(1,iv s),(2,iv dn),(9,pt (Zo G s).np 0),(12,iv M.w.length),(13,iv x)]) (fun _=>H) (fun x=>∃j:Nat,x=ab'+1+j∧(j:Int)≤(s-(ab'+1)) % M.w.length) (fun x=>(ab'+1+(s-(ab'+1)) % M.w.length-x).toNat) (ab'+1) uS (Z15 _) ⟨0,by simp,hr0⟩ ?_
 rintro x ⟨j,rfl,hj⟩
 have hst:=Zry (k:=M.w.length) (s:=s) (a:=ab'+1) (j:=j) (by omega) h0 (by omega) (by omega) hj
 by_cases hlt:(j:Int)=(s-(ab'+1)) % M.w.length
 ·rw [← hlt]
  have hst2:=hst.2 hlt
  have kH:=fun x=>Zhr T E G M s (Qd s dn x) L hG.sub hW hM h0 h1 hs
  have hRI:=fun x=>hM.hear (f:=Qd s dn x) h0 h1 (by show s<_;omega)
  have hRl:=fun x=>Zen M s (Qd s dn x)
  have hRw:∀x,(Y4 M s (Qd s dn x)).1.w=M.w:=fun x=>rfl
  have hRL:∀x,(Y4 M s (Qd s dn x)).1.l=M.l:=fun x=>rfl
  have hRn:∀x,(Y4 M s (Qd s dn x)).1.n.length=M.n.length:=fun x=>by
   exact(hRI x).1.wn.trans ((congrArg List.length (hRw x)).trans hwn.symm)
  subst hH
  clear hst kse hB hnb
  have ha1:1≤ab'+1+j:=by omega
  have ha2:ab'+1+j≤1048590:=by omega
  have ha3:0≤ab'+1+(j:Int):=by omega
  clear hj
  generalize ab'+1+(j:Int)=a at*
  specialize kH a
  specialize hRI a
  specialize hRl a
  specialize hRw a
  specialize hRL a
  specialize hRn a
  generalize Y4 M s (Qd s dn a)=R at*
  obtain⟨M2,told,ok⟩:=R
  simp only at kH hRI hRl hRw hRL hRn ⊢
  obtain⟨hM2,hfo⟩:=hRI
  repeat' (first|refine uN ?_|refine uC (hab) ?_|(refine uB ?_;intro b)|(refine uP ?_ ?_<;>intro h<;>try exact zx)|refine uM ?_|fail)
  ·rw[Z2d h]
   exact Z3 (LS.refl _) ⟨rfl,hself⟩
  all_goals rw[Z16 h]
  all_goals refine gc kH ?_
  all_goals rintro v L' ⟨c,⟨fv,hfv,rfl⟩,G2,e1,e2,hW2,rfl⟩
  all_goals obtain⟨af,capf,rfl,-,hRf⟩:=hfv.rd Zi
  all_goals cases ok with
  | false=>
   simp only[Z4d]
   repeat' (first|refine uN ?_|refine uC (hab) ?_|(refine uB ?_;intro b)|(refine uP ?_ ?_<;>intro h<;>try exact zx)|refine uM ?_|fail)
   refine Z3 (L':=Xq G2 M2++L) ?_ ⟨rfl,G2,e1,e2,hW2,rfl⟩
   simp only[Z2l,Z17]
   exact LS.boths _ (LS.skips _ (LS.refl _))
  | true=>
   simp only[Bool.true_eq_false,Z3h]
   have h1':s<M2.n.length:=by rw[hRn];exact h1
   have hl2:=hW2.ndl
   have hnp2:=Zyq e2 h0 (by rw[hW.ndl];exact h1)
   have hok2:=Qe hW2 h0 h1'
   have hni2:=Uh hM2 h0 h1'
   have hw22:=hW2.w
   rw[hRw]at hw22
   obtain⟨aw2,capw2,hwv2,-,hwr2⟩:=hw22.rd X0
   obtain⟨al2,capl2,hlv2,-,-⟩:=hW2.l.rd Zi
   have hvl:=hW2.l
   rw[hlv2]at hvl
   have hm2:(Zd M2 s).leads[dn]?=some ((Zd M2 s).leads.getD dn none):=getD_some (by rw[hni2.leads];exact hd6)
   obtain⟨q2,Zjv⟩:∃q2,(Zo G2 s).ld[dn]?=some q2:=⟨_,Z2c (by rw[hok2.ld];exact hd6)⟩
   have hv2:=Zg1 hm2 Zjv
   obtain⟨A,B,eA,eB⟩:=Zln hm2 Zjv
   have htE:tryE s dn M.w a=none:=by
    unfold tryE
    rw[Zlo hM h0 h1 hd (by omega)]
    simp only
    rw[Z16 (by omega)]
   have kt:=fun L hG hR=>Z1u T E s dn aw2 capw2 M.w a L hG hR (by omega)
   rw[htE]at kt
   have hNI:LdI M.w s.toNat dn (Zh s dn M.w a 4):=by
    have:=Zke (w:=M.w) (s:=s.toNat) (d:=dn) (a:=a) (k:=4) (by omega) (by omega)
    rw[show ((s.toNat:Nat):Int)=s by omega]at this
    exact this
   have hsl:=Zdb (Zh s dn M.w a 4)
   have hslw:(Zh s dn M.w a 4).w=M.w:=rfl
   rw[hslw]at hsl
   have hsh:=fun G' M1 g' m' a b c d e f=>Zuu (G:=G2) (G':=G') (M:=M2) (M1:=M1) (s:=s) (g':=g') (m':=m') L hl2 h0 h1' a b c d e f
   have hlvs:(Xo (Zo G2 s) (Zd M2 s)).length=6:=by simp[Xo,hni2.leads,hok2.ld]
   refine Uk (L':=Wp G2 s (Zo G2 s) (Zd M2 s) (V1 G2.nd M2.n 0 s.toNat) (c::L)) ?_ (Zkx hl2 h0 h1' _)
   simp only[← hnp2]
   have hGP:∀L L',Zgk G2 { Xm M2 s { Zd M2 s with leads:=(Zd M2 s).leads.set dn (some (Zz (Zh s dn M.w a 4) told).1) }with l:=M2.l++Xw (Zh s dn M.w a 4)++(Zz (Zh s dn M.w a 4) told).2 } L L'→
     Zgk G { Xm M2 s { Zd M2 s with leads:=(Zd M2 s).leads.set dn (some (Zz (Zh s dn M.w a 4) told).1) }with l:=M2.l++Xw (Zh s dn M.w a 4)++(Zz (Zh s dn M.w a 4) told).2 } L L':=fun L L' h=>by
    obtain⟨G3,f1,f2,f3,f4⟩:=h
    exact⟨G3,f1.trans e1,f2.trans e2,f3,f4⟩
   generalize V1 G2.nd M2.n 0 s.toNat=X at*
   generalize hmm:Zd M2 s=m at*
   generalize hgg:Zo G2 s=g at*
   simp only[Wp,Zdl,Zdm,Zbx,e1]
   rw[hwv2,hlv2]
   repeat' (first|refine uN ?_|refine uC (hab) ?_|(refine uB ?_;intro b)|(refine uP ?_ ?_<;>intro h<;>try exact zx)|refine uM ?_|fail)
   refine gc (kt _ (by repeat (first|exact hG|exact hG.sub|apply Errs.cons)) ?_) ?_
   ·repeat (first|exact hwr2 _|apply Rd.cons)
   rintro v L' ⟨lp,wv',wc',rfl,hLd,rfl⟩
   have gP:=Zs9 (sv:=Zj1 g m.site) (bp:=g.bp) (lv:=Xo g m) (dn:=m.done) (d:=dn) (pt lp 0) (by omega)
   have kst:=fun L=>Zjm lp wv' wc' (Zh s dn M.w a 4) L hLd
   repeat' (first|refine uN ?_|refine uC (hab) ?_|(refine uB ?_;intro b)|(refine uP ?_ ?_<;>intro h<;>try exact zx)|refine uM ?_|fail)
   refine gc (kst _) ?_
   rintro v L' ⟨c2,hv2,rfl⟩
   obtain⟨a7,cap7,rfl,-,hR7⟩:=hv2.rd Zi
   repeat' (first|refine uN ?_|refine uC (hab) ?_|(refine uB ?_;intro b)|(refine uP ?_ ?_<;>intro h<;>try exact zx)|refine uM ?_|fail)
   refine fo 10 ?_
   refine Z1z S hvl (Rd.cons (hR7 _) _) Zi W8 ?_ (hby:=by rw[hRL];omega) (hmax:=by rw[hRL];omega)
   intro v'' c'' hv''
   obtain⟨a8,cap8,rfl,-,-⟩:=hv''.rd Zi
   repeat' (first|refine uN ?_|refine uC (hab) ?_|(refine uB ?_;intro b)|(refine uP ?_ ?_<;>intro h<;>try exact zx)|refine uM ?_|fail)
   have hho:=fun i=>Zeo (w:=M.w) (s:=s.toNat) (d:=dn) (by omega) hwl hd6 (told.take i) (Zh s dn M.w a 4) [] hNI (fun f hf=>hfo f (Z4x hf)) (fun f hf=>by cases hf)
   change ∀i,LdI M.w s.toNat dn (Zz (Zh s dn M.w a 4) (told.take i)).1∧∀f∈(Zz (Zh s dn M.w a 4) (told.take i)).2,Zkh M.w.length f at hho
   refine Zm (σ:=Nat × Value × List Zp) (fun r=>[(0,pt G.wp 0),(16,pt lp 0),(96,.slice af told.length capf),(97,iv told.length),(98,iv r.1)])
    (fun r=>r.2.2::Zax lp wv' wc' (Zz (Zh s dn M.w a 4) (told.take r.1)).1::[(G.wp,.cells ⟨[.slice aw2 M.w.length capw2,G2.nv,.map (some G2.mb),r.2.1,G2.ev]⟩ 110)]::G2.ec::[(g.np,.cells ⟨V3 (Zj1 g m.site) g.bp ((Xo g m).set dn (pt lp 0)) m.done⟩ 122)]::Zo7 g s m.site::Zo6 g m.site::Xs g.bp g.ba m.pl::Zo5 g m.site::Zcx g m::G2.wc::G2.nc::[(G2.mb,.map ⟨G2.es⟩ G2.ck)]::X::c::L)
    (fun r=>r.1≤told.length∧(Zz (Zh s dn M.w a 4) (told.take r.1)).2.length≤7*r.1∧Z0 r.2.1 (M2.l++Xw (Zh s dn M.w a 4)++(Zz (Zh s dn M.w a 4) (told.take r.1)).2) r.2.2) (fun r=>told.length-r.1) (0,.slice a8 (M2.l++Xw (Zh s dn M.w a 4)).length cap8,c'') uS (by refine List.Sublist.cons_cons _ (List.Sublist.cons _ (Z15 _))) ⟨by simp,by simp[Zz],by simpa[Zz] using hv''⟩ ?_
   rintro⟨i,lv3,lc3⟩ ⟨hi,hlen,hv3⟩
   simp only at hi hlen hv3 ⊢
   obtain⟨hI3,hF3⟩:=hho i
   have hlast:i=told.length→Zz (Zh s dn M.w a 4) (told.take i)=Zz (Zh s dn M.w a 4) told:=fun e=>by rw[e,Z4c]
   have hsucc:=fun h=>Zi1 (Zh s dn M.w a 4) told i h
   have hLO3:LdOk wv' wc' (Zz (Zh s dn M.w a 4) (told.take i)).1:=hLd.of hI3.ww (by rw[hI3.told];rfl)
   have hhd3:(Zz (Zh s dn M.w a 4) (told.take i)).1.heard<2 ^ (Zz (Zh s dn M.w a 4) (told.take i)).1.w.length:=by rw[hI3.ww];exact hI3.heard
   obtain⟨al3,capl3,hlv3,-,-⟩:=hv3.rd Zi
   subst hlv3
   by_cases hit:i<told.length
   ·specialize hsucc hit
    have hq:=hho (i+1)
    have hl3:=Zb3 (Zz (Zh s dn M.w a 4) (told.take i)).1 told[i]
    rw[hI3.ww]at hl3
    rw[hsucc]at hq
    have kh:=fun L hG=>Zli T E lp wv' wc' (Zz (Zh s dn M.w a 4) (told.take i)).1 told[i] L hG hLO3 hhd3
    obtain⟨b5,i5,l5,F5,fr5,e6,hb5,hg5⟩:=(hRf L).at (j:=(i:Int)) (by omega) (by omega)
    subst e6
    have hgi:told[(i:Int).toNat]'(by omega)=told[i]:=rfl
    rw[hgi]at hg5
    clear hlast hI3 hF3 hho
    generalize Zz (Zh s dn M.w a 4) (told.take i)=Q at*
    obtain⟨x3,fs3⟩:=Q
    simp only at hlen hv3 hLO3 hhd3 hl3 kh hsucc ⊢
    generalize told[i]=f at*
    obtain⟨ffr,fto,fdl,fkd,fatt,fys,fs⟩:=f
    repeat' (first|refine uN ?_|refine uC (hab) ?_|(refine uB ?_;intro b)|(refine uP ?_ ?_<;>intro h<;>try exact zx)|refine uM ?_|fail)
    refine fo 2 ?_
    refine gc (kh _ (by repeat (first|exact hG|exact hG.sub|apply Errs.cons))) ?_
    rintro v L' ⟨c4,hv4,rfl⟩
    obtain⟨a9,cap9,rfl,-,hR9⟩:=hv4.rd Zi
    repeat' (first|refine uN ?_|refine uC (hab) ?_|(refine uB ?_;intro b)|(refine uP ?_ ?_<;>intro h<;>try exact zx)|refine uM ?_|fail)
    refine fo 3 ?_
    refine Z1z S hv3 (Rd.cons (hR9 _) _) Zi W8 ?_ (hby:=by simp only[Z2i,hRL];omega) (hmax:=by simp only[Z2i,hRL];omega)
    intro v5 c5 hv5
    obtain⟨a10,cap10,rfl,-,-⟩:=hv5.rd Zi
    repeat' (first|refine uN ?_|refine uC (hab) ?_|(refine uB ?_;intro b)|(refine uP ?_ ?_<;>intro h<;>try exact zx)|refine uM ?_|fail)
    refine Ze (i+1,.slice a10 (M2.l++Xw (Zh s dn M.w a 4)++fs3++(Zw x3 ⟨ffr,fto,fdl,fkd,fatt,fys,fs⟩).2).length cap10,c5) uS ?_ ⟨by simp only;omega,?_,?_⟩ (by simp only;omega)
    ·simp only[hsucc,Zax]
     exact uL
    ·simp only[hsucc,Z2i]
     omega
    ·simp only[hsucc]
     rw[← Z18]
     exact hv5
   ·obtain rfl:i=told.length:=by omega
    rw[hlast rfl]at hv3 hI3 ⊢
    have hLO4:=hlast rfl▸hLO3
    repeat' (first|refine uN ?_|refine uC (hab) ?_|(refine uB ?_;intro b)|(refine uP ?_ ?_<;>intro h<;>try exact zx)|refine uM ?_|fail)
    obtain⟨L2,hw2,hls2⟩:=hsh { G2 with lv:=.slice al3 (M2.l++Xw (Zh s dn M.w a 4)++(Zz (Zh s dn M.w a 4) told).2).length capl3,lc:=lc3 } { M2 with l:=M2.l++Xw (Zh s dn M.w a 4)++(Zz (Zh s dn M.w a 4) told).2 } { g with ld:=g.ld.set dn (lp,wv',wc') } { m with leads:=m.leads.set dn (some (Zz (Zh s dn M.w a 4) told).1) }
     (hW2.setL hv3) rfl rfl rfl (hok2.lead (q:=(lp,wv',wc')) hLO4) rfl
    refine Z3 (LS.trans hls2 ?_) ⟨rfl,hGP _ _ hw2⟩
    have eB2:=eB (some (Zz (Zh s dn M.w a 4) told).1) (lp,wv',wc') { m with leads:=m.leads.set dn (some (Zz (Zh s dn M.w a 4) told).1) } { g with ld:=g.ld.set dn (lp,wv',wc') } rfl rfl
    have eV2:=Zg2 (g:=g) (g':={ g with ld:=g.ld.set dn (lp,wv',wc') }) (m:=m) (m':={ m with leads:=m.leads.set dn (some (Zz (Zh s dn M.w a 4) told).1) }) (o':=some (Zz (Zh s dn M.w a 4) told).1) (q':=(lp,wv',wc')) rfl rfl
    simp only[Wp,Zdl,Zdm,Zbx,eV2]
    rw[eB2,eA,hwv2,e1]
    simp only[ldB,Zax,Zh4]
    refine LS.trans ls7 (LS.cutAt 9 ?_)
    exact uL
 ·have hst2:¬ (ab'+1+j) % M.w.length=s:=fun h=>hlt (hst.1 h)
  repeat' (first|refine uN ?_|refine uC (hab) ?_|(refine uB ?_;intro b)|(refine uP ?_ ?_<;>intro h<;>try exact zx)|refine uM ?_|fail)
  refine Ze (ab'+1+(j:Int)+1) uS (LS.refl _) ⟨j+1,by push_cast;omega,by push_cast;omega⟩ (by omega)
end
end Go.HL
namespace Go.HL
open Go Go.Proofs Go.Proofs.Tryz
variable[Tasks]
theorem si_new{n:Nat}(h:216≤n)(h2:n≤1000000):SI ⟨Yg n,false,-1⟩ ⟨Zq (Yg n),false⟩:=by
 refine⟨⟨by simpa[Yg] using h,by simpa[Yg] using h2,by simp,by simp,rfl,rfl⟩,fun d hd=>?_⟩
 have:Xp ⟨Zq (Yg n),false⟩ d=Uc:=by
  unfold Xp
  rw[Zl7 h]
  show ((List.replicate 6 Zl).getD d Zl).s=Uc
  rw[List.getD,Z24]
  split<;>rfl
 rw[this]
 exact⟨by decide,by decide,by decide,by decide,by decide⟩
theorem WI.at{M:Wm}(h:WI M){s:Int}(h0:0≤s)(h1:s<M.n.length):NdI M.w s.toNat (Zd M s):=h.nd s.toNat _ (getD_some (by omega))
theorem Zs7{M:Wm}{s:Int}{m:Nd}(h0:0≤s)(h1:s<M.n.length):Zd (Xm M s m) s=m:=by
 unfold Zd Xm
 simp only
 rw[List.getD,List.getElem?_set_self (by omega)]
 rfl
structure Same(M M':Wm):Prop where
 w:M'.w=M.w
 n:M'.n.length=M.n.length
theorem Same.refl(M:Wm):Same M M:=⟨rfl,rfl⟩
theorem Same.trans{A B C:Wm}(h:Same A B)(h':Same B C):Same A C:=⟨h'.w.trans h.w,h'.n.trans h.n⟩
theorem Zmw(M:Wm)(s:Int)(m:Nd):Same M (Xm M s m):=⟨rfl,by simp[Xm]⟩
theorem Zo3(M:Wm)(s:Int)(f:Fr):Same M (Y4 M s f).1:=⟨rfl,by simp[Y4,Xm]⟩
theorem hearW_l(M:Wm)(s:Int)(f:Fr):(Y4 M s f).1.l=M.l:=rfl
theorem Zvu{M:Wm}{s:Int}{f:Fr}(h0:0≤s)(h1:s<M.n.length)(h:(Y4 M s f).2.2=true):(Zd (Y4 M s f).1 s).site≠none:=by
 have e:Zd (Y4 M s f).1 s=(Vu s (Zd M s) M.ev f).1:=by
  unfold Y4
  exact Zs7 h0 h1
 rw[e]
 unfold Y4 at h
 simp only at h
 unfold Vu at h ⊢
 split at h
 ·cases h
 ·split at h
  ·cases h
  ·rename_i hoff
   simp only[Z16 hoff]
   simp
theorem Zoh(M:Wm)(s:Int)(f:Fr):(Y4 M s f).2.1.length≤1:=by
 unfold Y4 Vu
 split
 ·simp
 ·rename_i j ref _
  split
  ·simp
  ·simp only
   unfold Zu
   split
   ·simp
   split
   ·simp
   split
   ·simp
   ·simp only
    split<;>simp
theorem Zlj{w:List Int}{s d:Nat}(hs:s<w.length)(hw:w.length≤7)(hd:d<6):∀(l:List Fr) (x:Ld) (acc:List Fr),LdI w s d x→(∀f∈l,Zkh w.length f)→(l.foldl (fun q f=>((Zw q.1 f).1,q.2++(Zw q.1 f).2)) (x,acc)).2.length≤acc.length+7*l.length
 | [],x,acc,hx,_=>by simp
 | f::l,x,acc,hx,hl=>by
  rw[Z3y]
  have k1:=(hx.hear hs hw hd (hl f (by simp)).1).1
  have k2:=Zb3 x f
  rw[hx.ww]at k2
  have:=Zlj hs hw hd l _ (acc++(Zw x f).2) k1 (fun g hg=>hl g (by simp[hg]))
  simp only[Z2i,Z2y]at this ⊢
  omega
theorem Zpb(m:Ld):(Xw m).length≤m.w.length:=by
 unfold Xw
 split<;>exact U1 _ (Zgn m _ _) _
structure TryOk(M M':Wm)(s:Int)(b:Bool):Prop where
 wi:WI M'
 same:Same M M'
 len:M'.l.length≤M.l.length+14
 up:b=true→(Zd M' s).site≠none
theorem Zur{w:List Int}{s:Nat}{m:Nd}(hm:NdI w s m){d p:Int}(hd:0≤d∧d<6)(hp:0≤p∧p≤1048576):0≤Xf m d p∧Xf m d p≤1048576:=by
 unfold Xf
 split
 ·exact hp
 ·rename_i x hx
  have:=hm.ldi d.toNat x (by
   have h6:=hm.leads
   rw[getD_some (x:=none) (l:=m.leads) (i:=d.toNat) (by omega),hx])
  have h1:=this.seen0
  have h2:=this.seen1
  omega
theorem try_ok{M:Wm}(h:WI M){s d p:Int}(h0:0≤s)(h1:s<M.n.length)(hs:(Zd M s).site≠none)(hd:0≤d∧d<6)(hp:0≤p∧p≤1048576):TryOk M (Zd8 M s d p).1 s (Zd8 M s d p).2:=by
 have hn:=h.wn
 have hw:=h.wl
 have hw1:=h.w1
 have hab:=Zur (h.at h0 h1) hd hp
 unfold Zd8
 simp only
 generalize ha:Zm1 M.w.length s (Xf (Zd M s) d p+1)=a
 have ha1:1≤a:=by
  unfold Zm1 at ha
  have:=Z5n (s-(Xf (Zd M s) d p+1)) (by omega:(M.w.length:Int)≠0)
  omega
 split
 ·exact⟨h,.refl _,by simp,fun _=>hs⟩
 rename_i hle
 obtain⟨hI,hF⟩:=h.hear (f:=Qd s d a) h0 h1 (by show s<_;omega)
 have hS:=Zo3 M s (Qd s d a)
 have hone:=Zoh M s (Qd s d a)
 have hl:=hearW_l M s (Qd s d a)
 have hst:=Zvu (f:=Qd s d a) h0 h1
 generalize Y4 M s (Qd s d a)=R at*
 split
 ·rename_i hr
  exact⟨hI,hS,by rw[hl];omega,fun e=>by cases e⟩
 rename_i hr
 have hr':R.2.2=true:=by simpa using hr
 have h1':s<R.1.n.length:=by rw[hS.n];exact h1
 have hx:=hI.at h0 h1'
 have hNI:LdI M.w s.toNat d.toNat (Zh s d M.w a 4):=by
  have:=Zke (w:=M.w) (s:=s.toNat) (d:=d.toNat) (a:=a) (k:=4) (by omega) (by omega)
  rw[show ((s.toNat:Nat):Int)=s by omega,show ((d.toNat:Nat):Int)=d by omega]at this
  exact this
 have hho:=Zeo (w:=M.w) (s:=s.toNat) (d:=d.toNat) (by omega) hw (by omega) R.2.1 (Zh s d M.w a 4) [] hNI hF (fun f hf=>by cases hf)
 have hhl:=Zlj (w:=M.w) (s:=s.toNat) (d:=d.toNat) (by omega) hw (by omega) R.2.1 (Zh s d M.w a 4) [] hNI hF
 change LdI M.w s.toNat d.toNat (Zz (Zh s d M.w a 4) R.2.1).1∧∀f∈(Zz (Zh s d M.w a 4) R.2.1).2,Zkh M.w.length f at hho
 change (Zz (Zh s d M.w a 4) R.2.1).2.length≤_ at hhl
 have hso:=Zpc hNI (by omega) hw (by omega)
 have hsl:=Zpb (Zh s d M.w a 4)
 rw[show (Zh s d M.w a 4).w=M.w from rfl]at hsl
 have hset:=hI.set (m:={ Zd R.1 s with leads:=(Zd R.1 s).leads.set d.toNat (some (Zz (Zh s d M.w a 4) R.2.1).1) }) h0 (hx.lead (by rw[hS.w];exact hho.1))
 refine⟨hset.setL fun f hf=>?_,hS.trans ⟨rfl,by simp[Xm]⟩,?_,fun _=>?_⟩
 ·show Zkh R.1.w.length f
  rw[hS.w]
  rw[hl]at hf
  rcases Z2f.1 hf with hf|hf
  ·rcases Z2f.1 hf with hf|hf
   ·exact h.fr f hf
   ·exact hso f hf
  ·exact hho.2 f hf
 ·simp only[Z2i,hl]
  simp only[Z23]at hhl
  omega
 ·have e:(Zd (Xm R.1 s { Zd R.1 s with leads:=(Zd R.1 s).leads.set d.toNat (some (Zz (Zh s d M.w a 4) R.2.1).1) }) s).site≠none:=by
   rw[Zs7 h0 h1']
   exact hst hr'
  exact e
theorem Zvk{M:Wm}(h:WI M){s:Int}{d:Nat}(h0:0≤s)(h1:s<M.n.length)(hd:d<6){st:St}(hst:Zul st):∀f∈Vx M s d st,Zkh M.w.length f:=by
 intro f hf
 have hn:=h.wn
 have hw:=h.wl
 unfold Vx at hf
 obtain⟨i,hi,rfl⟩:=Z2v.1 hf
 have:=Z4w.1 hi
 obtain⟨g1,g2,g3,g4,g5⟩:=hst
 unfold Zkh Wc
 simp only
 omega
theorem Zds(M:Wm)(s d:Int)(st:St):(Vx M s d st).length=M.w.length:=by simp[Vx]
structure TickOk(M:Wm)(q:Wm × Bool)(s:Int)(k:Nat):Prop where
 wi:WI q.1
 same:Same M q.1
 len:q.1.l.length≤M.l.length+14*k
 up:q.2=true→(Zd q.1 s).site≠none
theorem tickD_ok{M:Wm}{q:Wm × Bool}{s:Int}{k d:Nat}(h:TickOk M q s k)(h0:0≤s)(h1:s<M.n.length)(hd:d<6):TickOk M (tickD s q d) s (k+1):=by
 obtain⟨M1,b⟩:=q
 have hl:=h.len
 have hwl:=h.wi.wl
 have hn:=h.same.n
 simp only at hl hn hwl
 unfold tickD
 split
 ·exact⟨h.wi,h.same,by simp only;omega,h.up⟩
 split
 ·exact⟨h.wi,h.same,by simp only;omega,fun e=>by cases e⟩
 rename_i hb _ j ref hs
 have hs':(Zd M1 s).site=some (j,ref):=hs
 have hni:=h.wi.at (s:=s) h0 (by simp only;omega)
 have hS:=(hni.jn hs').st d hd
 split
 ·exact⟨h.wi,h.same,by simp only;omega,h.up⟩
 split
 ·refine⟨h.wi.setL fun f hf=>?_,⟨h.same.w,h.same.n⟩,?_,fun _=>h.up (by simpa using hb)⟩
  ·rcases Z2f.1 hf with hf|hf
   ·exact h.wi.fr f hf
   ·exact Zvk h.wi h0 (by simp only;omega) hd hS f hf
  ·simp only[Z2i,Zds]
   omega
 ·obtain⟨g1,g2,g3,g4,g5⟩:=hS
  have ht:=try_ok h.wi (s:=s) (d:=d) (p:=(Xp j d).pr) h0 (by simp only;omega) (h.up (by simpa using hb)) (by omega) (by omega)
  have h4:(Zd8 M1 s d (Xp j d).pr).1.l.length≤M1.l.length+14:=ht.len
  have h5:(Zd8 M1 s d (Xp j d).pr).1.l.length≤M.l.length+14*(k+1):=by omega
  exact⟨ht.wi,h.same.trans ht.same,h5,ht.up⟩
theorem Zcg{M:Wm}(h:WI M){s:Int}(h0:0≤s)(h1:s<M.n.length)(hs:(Zd M s).site≠none):∀k,k≤6→TickOk M ((List.range k).foldl (tickD s) (M,true)) s k
 | 0,_=>⟨h,.refl _,by simp,fun _=>hs⟩
 | k+1,hk=>by
  rw[Z4i,Z5b]
  exact tickD_ok (Zcg h h0 h1 hs k (by omega)) h0 h1 (by omega)
structure StepOk(M M':Wm)(k:Nat):Prop where
 wi:WI M'
 same:Same M M'
 len:M'.l.length≤M.l.length+k
theorem StepOk.refl{M:Wm}(h:WI M)(k:Nat):StepOk M M k:=⟨h,.refl _,by omega⟩
theorem StepOk.mono{M M':Wm}{k k':Nat}(h:StepOk M M' k)(hk:k≤k'):StepOk M M' k':=⟨h.wi,h.same,by have:=h.len;omega⟩
theorem Zez{M:Wm}{s:Int}(h:Zd9 M s=none):0≤s∧s<M.n.length∧(Zd M s).site≠none:=by
 unfold Zd9 at h
 split at h
 ·cases h
 ·rename_i hn
  obtain⟨h0,h1⟩:=Za6 hn
  split at h
  ·cases h
  ·rename_i hs
   exact⟨h0,h1,fun e=>hs (by rw[e];rfl)⟩
theorem tick_ok{M:Wm}(h:WI M)(s:Int):StepOk M (Zbn M s).1 84:=by
 unfold Zbn
 split
 ·exact .refl h _
 ·rename_i hu
  obtain⟨h0,h1,hs⟩:=Zez hu
  have:=Zcg h h0 h1 hs 6 (by omega)
  exact⟨this.wi,this.same,this.len⟩
theorem begin_ok{M:Wm}(h:WI M)(s d:Int):StepOk M (U6 M s d).1 7:=by
 have hn:=h.wn
 have hw:=h.wl
 unfold U6
 split
 ·exact .refl h _
 rename_i hb
 split
 ·exact .refl h _
 split
 ·exact .refl h _
 have hNI:LdI M.w s.toNat d.toNat (Zh s d M.w 0 2):=by
  have:=Zke (w:=M.w) (s:=s.toNat) (d:=d.toNat) (a:=0) (k:=2) (by omega) (by omega)
  rw[show ((s.toNat:Nat):Int)=s by omega,show ((d.toNat:Nat):Int)=d by omega]at this
  exact this
 have hso:=Zpc hNI (by omega) hw (by omega)
 have hsl:=Zpb (Zh s d M.w 0 2)
 rw[show (Zh s d M.w 0 2).w=M.w from rfl]at hsl
 have hset:=h.set (m:={ Zd M s with leads:=(Zd M s).leads.set d.toNat (some (Zh s d M.w 0 2)) }) (s:=s) (by omega) ((h.at (by omega) (by omega)).lead hNI)
 refine⟨hset.setL fun f hf=>?_,⟨rfl,by simp[Xm]⟩,by simp;omega⟩
 rcases Z2f.1 hf with hf|hf
 ·exact h.fr f hf
 ·exact hso f hf
theorem Z1g{M:Wm}(h:WI M)(s d:Int):StepOk M (Up M s d).1 0:=by
 unfold Up
 split
 ·exact .refl h _
 split
 ·exact .refl h _
 rename_i hu
 obtain⟨h0,h1,hs⟩:=Zez hu
 have hx:=h.at h0 h1
 refine⟨h.set h0 ?_,Zmw _ _ _,by simp[Xm]⟩
 unfold Q2
 split
 ·exact hx
 ·rename_i j ref hj
  exact⟨hx.leads,hx.done,hx.b512,hx.si,fun j2 r2 e=>by cases e;exact hx.up j ref hj,fun e=>(by cases e),hx.ldi⟩
theorem Zlc{M:Wm}(h:WI M){k:Int}(hk:Zu4 M k=none):Zkh M.w.length (M.l.getD k.toNat Yb)∧0≤k∧k<M.l.length:=by
 unfold Zu4 at hk
 split at hk
 ·cases hk
 ·have hlt:k.toNat<M.l.length:=by omega
  have e:M.l.getD k.toNat Yb=M.l[k.toNat]:=by rw[List.getD,Z2c hlt];rfl
  rw[e]
  exact⟨h.fr _ (Z3c _),by omega,by omega⟩
theorem Zvl{M:Wm}(h:WI M)(k:Int):StepOk M (Ww M k).1 6:=by
 have hn:=h.wn
 have hw:=h.wl
 unfold Ww
 split
 ·exact .refl h _
 rename_i hk
 obtain⟨⟨hbad,hto,hfr⟩,hk0,hk1⟩:=Zlc h hk
 generalize M.l.getD k.toNat Yb=f at*
 have hE:=h.erase k.toNat
 have hel:(M.l.eraseIdx k.toNat).length=M.l.length-1:=by rw[Z4b,Z2d (by omega)]
 have hS1:Same M { M with l:=M.l.eraseIdx k.toNat }:=⟨rfl,rfl⟩
 have hb2:=hbad
 unfold Wc at hb2
 simp only
 split
 ·exact⟨hE,hS1,by simp only[hel];omega⟩
 split
 ·split
  ·exact⟨hE,hS1,by simp only[hel];omega⟩
  ·rename_i x hx
   have hni:=hE.at (s:=f.to) (by omega) (by simp only;omega)
   have h6:=hni.leads
   have hLI:=hni.ldi f.dl.toNat x (by rw[getD_some (x:=none) (by omega),hx])
   obtain⟨k1,k2⟩:=hLI.hear (by simp only;omega) hw (by omega) hbad
   have k3:=Zb3 x f
   rw[hLI.ww]at k3
   have hset:=hE.set (m:={ Zd { M with l:=M.l.eraseIdx k.toNat } f.to with leads:=(Zd { M with l:=M.l.eraseIdx k.toNat } f.to).leads.set f.dl.toNat (some (Zw x f).1) }) (s:=f.to) (by omega) (hni.lead k1)
   refine⟨hset.setL fun g hg=>?_,⟨rfl,by simp[Xm]⟩,?_⟩
   ·rcases Z2f.1 hg with hg|hg
    ·exact hE.fr g hg
    ·exact k2 g hg
   ·simp only[Z2i,hel]
    simp only at k3
    omega
 ·obtain⟨k1,k2⟩:=hE.hear (s:=f.to) (f:=f) (by omega) (by simp only;omega) hfr
  have k3:=Zoh { M with l:=M.l.eraseIdx k.toNat } f.to f
  have k4:=Zo3 { M with l:=M.l.eraseIdx k.toNat } f.to f
  refine⟨k1.setL fun g hg=>?_,⟨k4.w,k4.n⟩,?_⟩
  ·show Zkh (Y4 { M with l:=M.l.eraseIdx k.toNat } f.to f).1.w.length g
   rw[k4.w]
   rcases Z2f.1 hg with hg|hg
   ·exact hE.fr g hg
   ·exact k2 g hg
  ·simp only[Z2i,hel]
   omega
theorem drop_ok{M:Wm}(h:WI M)(k:Int):StepOk M (Zdg M k).1 0:=by
 unfold Zdg
 split
 ·exact .refl h _
 ·exact⟨h.erase _,⟨rfl,rfl⟩,by simp only[Z4b];split<;>omega⟩
theorem twice_ok{M:Wm}(h:WI M)(k:Int):StepOk M (Zam M k).1 1:=by
 unfold Zam
 split
 ·exact .refl h _
 rename_i hk
 obtain⟨hf,hk0,hk1⟩:=Zlc h hk
 refine⟨h.setL fun g hg=>?_,⟨rfl,rfl⟩,?_⟩
 ·rcases Z2f.1 hg with hg|hg
  ·exact h.fr g (Z4x hg)
  ·rcases Z2h.1 hg with hg|hg
   ·rw[hg];exact hf
   ·exact h.fr g (List.mem_of_mem_drop hg)
 ·simp only[Z2i,Z3g,Z2y,Z3l]
  omega
theorem link_ok{M:Wm}(h:WI M)(a b:Int)(c:Bool):StepOk M (Zdh M a b c).1 0:=by
 unfold Zdh
 split
 ·exact .refl h _
 ·exact⟨h.setB _,⟨rfl,rfl⟩,by simp⟩
theorem cut_ok{M:Wm}(h:WI M)(s n:Int)(hn:n≤9223372036854775807):StepOk M (Zjr M s n).1 0:=by
 unfold Zjr
 split
 ·exact .refl h _
 split
 ·exact .refl h _
 rename_i hn0 _ hu
 obtain⟨h0,h1,hs⟩:=Zez hu
 have hx:=h.at h0 h1
 refine⟨h.set h0 ⟨hx.leads,hx.done,hx.b512,hx.si.cut (by omega) hn,hx.up,hx.dn,hx.ldi⟩,Zmw _ _ _,by simp[Xm]⟩
theorem SI.down{m:Pl}{b:Bool}(h:SI m ⟨Zq m.b,b⟩):SI { m with off:=true } ⟨Zq m.b,true⟩:=⟨⟨h.ji.lo,h.ji.hi,h.ji.c0,h.ji.c1,rfl,rfl⟩,h.st⟩
theorem down_ok{M:Wm}(h:WI M)(s:Int):StepOk M (Zdf M s).1 0:=by
 unfold Zdf
 split
 ·exact .refl h _
 rename_i hu
 obtain⟨h0,h1,hs⟩:=Zez hu
 have hx:=h.at h0 h1
 exact⟨h.set h0 (hx.fall hx.b512 hx.si.down rfl),Zmw _ _ _,by simp[Xm]⟩
theorem NdI.boot{w:List Int}{s:Nat}{m:Nd}(h:NdI w s m)(dn:List Bool)(hd:dn.length=6):NdI w s { U8 m with done:=dn }:=
 ⟨h.leads,hd,h.b512,h.si.boot,fun j ref e=>by cases e;exact⟨rfl,rfl⟩,fun e=>(by cases e),h.ldi⟩
theorem up_ok{M:Wm}(h:WI M)(s:Int):StepOk M (Zzd M s).1 0:=by
 unfold Zzd
 split
 ·exact .refl h _
 split
 ·exact .refl h _
 rename_i hu _
 obtain⟨h0,h1⟩:=Za6 hu
 have hx:=h.at h0 h1
 exact⟨(h.set h0 (hx.boot _ (by rw[Zoq];exact hx.done))).setE (Ztf _ _ _ h.evl),⟨rfl,by simp[Xm]⟩,by simp[Xm]⟩
theorem newNd_I(w:List Int)(s:Nat):NdI w s newNd:=by
 have hS:=si_new (n:=512) (by omega) (by omega)
 refine⟨rfl,rfl,(by show (Yg 512).length=512;unfold Yg;exact Z66),hS,fun j ref e=>by cases e;exact⟨rfl,rfl⟩,fun e=>(by cases e),fun d x hx=>?_⟩
 simp only[newNd,Z8,Z24]at hx
 split at hx<;>cases hx
theorem new_ok{w:List Int}(h:Ys w=none):WI (Vg w):=by
 obtain⟨c1,c2,-⟩:=Vm h
 refine⟨h,c2,c1,by simp[Vg],fun f hf=>(by cases hf),by simp[Vg],fun s m hm=>?_⟩
 simp only[Vg,Z24]at hm
 split at hm
 ·cases hm
  exact newNd_I _ _
 ·cases hm
def W3(s:Int)(M:Wm)(k:Nat):Wm × Bool:=(List.range k).foldl (tickD s) (M,true)
theorem Zgg(s:Int)(M:Wm)(k:Nat):W3 s M (k+1)=tickD s (W3 s M k) k:=by
 unfold W3
 rw[Z4i,Z5b]
 rfl
theorem Zgf{s:Int}{M:Wm}{k:Nat}(h:(W3 s M k).2=false):∀j,W3 s M (k+j)=W3 s M k
 | 0=>rfl
 | j+1=>by
  rw[← Z6t,Zgg,Zgf h j]
  unfold tickD
  rw[Z2d h]
theorem Zpw(M:Wm)(s d:Int)(st:St)(i:Nat):((List.range (i+1)).map fun(i:Nat)=>(⟨s,(i:Int),d,7,st.pr,false,⟨st.ph,0,0⟩⟩:Fr))=((List.range i).map fun(i:Nat)=>(⟨s,(i:Int),d,7,st.pr,false,⟨st.ph,0,0⟩⟩:Fr))++[⟨s,(i:Int),d,7,st.pr,false,⟨st.ph,0,0⟩⟩]:=by
 rw[Z4i,Z20]
 rfl
theorem ls_out{A L:Za}{c:List Zp}:LS (A++L).flatten (c::(A++L)).flatten:=by
 rw[Z17]
 exact LS.skips c (LS.refl _)
theorem ls_in{A L:Za}{c:List Zp}:LS (A++(c::L)).flatten (c::(A++L)).flatten:=by
 simp only[Z17,Z2l]
 refine LS.of_perm ?_
 rw[← Z18,← Z18]
 exact List.perm_append_comm.append_right _
attribute [local irreducible] HW HO HQ HD HC QOp Has Upd Yi Gets Vv W6 Xn Zaf Wa Yz Zcl Xy
section
attribute [local irreducible] V3 Yl Xs Zu Wb Zq Zd8
theorem Zu0(T:Nat)(E:Nat→Addr)(G:WdG)(M:Wm)(s:Int)(L:Za)(hG:Er T E [2,3,4,5,6] L)(hW:WdOk G M)(hM:WI M)(hl:M.l.length≤99999000):
  HC prog 83 [pt G.wp 0,iv s] (Xq G M++L) (fun v L'=>v=eV T E (Zbn M s).2∧Zgk G (Zbn M s).1 L L'):=by
 unfold Zbn
 have hself:=Vr hW L
 rcases Zbw (M:=M) (s:=s)with⟨e,he⟩|⟨he,hn,h0,h1,j,ref,hs⟩
 ·have ku:=Zlm s hG.sub hW
  have hG':=Vn hG G M
  generalize Xq G M++L=H at*
  simp only[he]at ku ⊢
  refine uE func83 ntmps83 ?_
  repeat' (first|refine uN ?_|refine uC (ku) ?_|(refine uB ?_;intro b)|(refine uP ?_ ?_<;>intro h<;>try exact zx)|refine uM ?_|fail)
  exact Us rfl ⟨rfl,hself⟩
 ·have ku:=Zlm s hG.sub hW
  simp only[he,Zxj hn]at ku ⊢
  have hticks:=fun k hk=>Zcg hM h0 h1 (by rw[hs];simp) k hk
  change ∀k,k≤6→TickOk M (W3 s M k) s k at hticks
  change HC _ _ _ _ (fun v L'=>v=eV T E none∧Zgk G (W3 s M 6).1 L L')
  refine uE func83 ntmps83 ?_
  repeat' (first|refine uN ?_|refine uC (ku) ?_|(refine uB ?_;intro b)|(refine uP ?_ ?_<;>intro h<;>try exact zx)|refine uM ?_|fail)
  refine Zm (σ:=Nat × WdG) (fun r=>[(0,pt G.wp 0),(1,iv s),(5,pt (Zo G s).np 0),(20,iv r.1)]) (fun r=>Xq r.2 (W3 s M r.1).1++L)
   (fun r=>r.1≤6∧(W3 s M r.1).2=true∧WdOk r.2 (W3 s M r.1).1∧r.2.wp=G.wp∧r.2.nd.map (·.np)=G.nd.map (·.np)) (fun r=>6-r.1) (0,G) uS (Z15 _) ⟨by simp,rfl,hW,rfl,rfl⟩ ?_
  rintro⟨d,G1⟩ ⟨hd,hon,hW1,e1,e2⟩
  simp only at hd hon hW1 e1 e2 ⊢
  obtain⟨hM1,hsame,hlen,hsite⟩:=hticks d hd
  have hsite1:=hsite hon
  have hnx:=Zgg s M d
  by_cases hd6:d<6
  ·have hnx2:=hticks (d+1) (by omega)
   have hstop:=fun h=>Zgf (s:=s) (M:=M) (k:=d+1) h (5-d)
   rw[show d+1+(5-d)=6 by omega]at hstop
   generalize W3 s M d=q at*
   obtain⟨M1,b⟩:=q
   simp only at hon hW1 hM1 hsame hlen hsite1 ⊢
   subst hon
   have h1':s<M1.n.length:=by rw[hsame.n];exact h1
   have hnp2:=Zyq e2 h0 (by rw[hW.ndl];exact h1)
   have hok:=Qe hW1 h0 h1'
   have hni:=Uh hM1 h0 h1'
   obtain⟨⟨j1,ref1⟩,hs1⟩:=Option.ne_none_iff_exists'.1 hsite1
   have hj:=hni.jn hs1
   have hst:=hj.st d hd6
   have hB:∀{b:Nat} {o:Obj},(b,o)∈Zon (Zo G1 s) s (Zd M1 s)→Has (Xq G1 M1++L) b o:=fun {b o} hb=>by
    have:=Zrp hW1.ndl h0 h1' hb L
    unfold Has Xq at*
    rw[Z18,Z2l]
    exact Z2q _ this
   have hN:Has (Xq G1 M1++L) (Zo G1 s).np (Zdm (Zo G1 s) (Zd M1 s)):=Zkw hW1.ndl h0 h1' L
   have hA1:Has (Xq G1 M1++L) (Zo G1 s).sp (.cells ⟨[pt (Zo G1 s).bj 0,iv s,.map (some (Zo G1 s).mb)]⟩ 187):=hB (by simp[Zon,hs1,siB,Zjz])
   have hA2:Has (Xq G1 M1++L) (Zo G1 s).bj (.cells ⟨Yl (Zo G1 s).bp j1⟩ 261):=hB (by simp[Zon,hs1,siB,jC])
   have kst:=Zfr (Zo G1 s).sp (Zo G1 s).bj (Zo G1 s).mb (Zo G1 s).bp s j1 d _ hA1 hA2 hj.ji.jn.len hd6
   have htd:W3 s M (d+1)=if Xp j1 d=Uc then (M1,true) else if (Xp j1 d).ph=2∨(Xp j1 d).ph=3 then ({ M1 with l:=M1.l++Vx M1 s d (Xp j1 d) },true) else Zd8 M1 s d (Xp j1 d).pr:=by
    rw[hnx]
    unfold tickD
    simp only[hs1,Bool.true_eq_false,Z3h]
   have g0:(V3 (pt (Zo G1 s).sp 0) (Zo G1 s).bp (Xo (Zo G1 s) (Zd M1 s)) (Zd M1 s).done)[0+0]?=some (pt (Zo G1 s).sp 0):=Vd rfl
   unfold Zdm at hN
   rw[hs1]at hN
   simp only[Zj1,hnp2]at hN
   change HC _ _ _ _ (fun v L'=>v=.tuple ⟨[.agg ⟨sc (Xp j1 d)⟩,.nilIface]⟩∧_)at kst
   have hdl:=Zds M1 s d (Xp j1 d)
   have hdF:Vx M1 s d (Xp j1 d)=(List.range M1.w.length).map fun(i:Nat)=>(⟨s,(i:Int),d,7,(Xp j1 d).pr,false,⟨(Xp j1 d).ph,0,0⟩⟩:Fr):=rfl
   have hsuccF:=fun i=>Zpw M1 s d (Xp j1 d) i
   generalize Xp j1 d=st at*
   obtain⟨ph,pr,att⟩:=st
   obtain⟨q1,q2,q3,q4,q5⟩:=hst
   simp only at q1 q2 q3 q4 q5 hdF hsuccF
   have hwn:=hM1.wn
   have hwl:=hM1.wl
   by_cases hz:ph=0∧pr=0∧att=0
   ·obtain⟨rfl,rfl,rfl⟩:=hz
    rw[Z2d (show (⟨0,0,0⟩:St)=Uc from rfl)]at htd
    clear hA1 hA2 hB
    generalize hH:Xq G1 M1++L=H at*
    repeat' (first|refine uN ?_|refine uC (kst) ?_|(refine uB ?_;intro b)|(refine uP ?_ ?_<;>intro h<;>try exact zx)|refine uM ?_|fail)
    all_goals subst hH
    all_goals refine Ze (d+1,G1) uS ?_ ⟨by simp only;omega,by simp only[htd],by simp only[htd];exact hW1,e1,e2⟩ (by simp only;omega)
    all_goals simp only[htd]
    all_goals exact ls_out
   have hz2:¬ ((⟨ph,pr,att⟩:St)=Uc):=fun e=>by cases e;exact hz ⟨rfl,rfl,rfl⟩
   rw[Z16 hz2]at htd
   by_cases hf:ph=2∨ph=3
   ·rw[Z2d hf]at htd
    obtain⟨aw2,capw2,hwv2,-,-⟩:=hW1.w.rd X0
    obtain⟨al2,capl2,hlv2,-,-⟩:=hW1.l.rd Zi
    have hvl:=hW1.l
    rw[hlv2]at hvl
    have hwp:=(Zec hW1 L).wp
    unfold Zbx at hwp
    rw[hwv2,hlv2]at hwp
    rw[e1]at hwp
    clear hA1 hA2 hB
    generalize hH:Xq G1 M1++L=H at*
    repeat' (first|refine uN ?_|refine uC (kst) ?_|(refine uB ?_;intro b)|(refine uP ?_ ?_<;>intro h<;>try exact zx)|refine uM ?_|fail)
    all_goals subst hH
    all_goals refine Wf (L':=[(b,.cells ⟨sc ⟨ph,pr,att⟩⟩ 43)]::G1.lc::[(G.wp,.cells ⟨[.slice aw2 M1.w.length capw2,G1.nv,.map (some G1.mb),.slice al2 M1.l.length capl2,G1.ev]⟩ 110)]::G1.wc::G1.nc::[(G1.mb,.map ⟨G1.es⟩ G1.ck)]::G1.ec::Qs G1.nd M1.n 0::L) ?_ (by simp only[Xq,Zhv,Zbx,Z19,Z2b,hwv2,hlv2,e1];exact uL)
    all_goals refine Zm (σ:=Nat × Value × List Zp) (fun r=>[(0,pt G.wp 0),(1,iv s),(5,pt (Zo G s).np 0),(7,iv d),(8,pt b 0),(20,iv d),(49,iv M1.w.length),(50,iv r.1)]) (fun r=>[(b,.cells ⟨sc ⟨ph,pr,att⟩⟩ 43)]::r.2.2::[(G.wp,.cells ⟨[.slice aw2 M1.w.length capw2,G1.nv,.map (some G1.mb),r.2.1,G1.ev]⟩ 110)]::G1.wc::G1.nc::[(G1.mb,.map ⟨G1.es⟩ G1.ck)]::G1.ec::Qs G1.nd M1.n 0::L) (fun r=>r.1≤M1.w.length∧Z0 r.2.1 (M1.l++(List.range r.1).map fun(i:Nat)=>(⟨s,(i:Int),d,7,pr,false,⟨ph,0,0⟩⟩:Fr)) r.2.2) (fun r=>M1.w.length-r.1) (0,.slice al2 M1.l.length capl2,G1.lc) uS (Z15 _) ⟨by simp,by simpa using hvl⟩ ?_
    all_goals rintro⟨i,lv3,lc3⟩ ⟨hi,hv3⟩
    all_goals simp only at hi hv3 ⊢
    all_goals obtain⟨al3,capl3,hlv3,-,-⟩:=hv3.rd Zi
    all_goals subst hlv3
    all_goals
     by_cases hit:i<M1.w.length
     ·repeat' (first|refine uN ?_|(refine uB ?_;intro b)|(refine uP ?_ ?_<;>intro h<;>try exact zx)|refine uM ?_|fail)
      refine fo 2 ?_
      refine Zfc S (⟨s,(i:Int),d,7,pr,false,⟨ph,0,0⟩⟩:Fr) hv3 Zi W8 ?_ (hby:=by simp only[Z2i,Z26,List.length_range];omega) (hmax:=by simp only[Z2i,Z26,List.length_range];omega)
      intro v' c' hv'
      obtain⟨a6,cap6,he6,-,-⟩:=hv'.rd Zi
      subst he6
      rw[Z18,← hsuccF i]at hv'
      repeat' (first|refine uN ?_|(refine uB ?_;intro b)|(refine uP ?_ ?_<;>intro h<;>try exact zx)|refine uM ?_|fail)
      refine Ze (i+1,_,c') uS ?_ ⟨by simp only;omega,hv'⟩ (by simp only;omega)
      rw[Z18,← hsuccF i]
      exact uL
     ·obtain rfl:i=M1.w.length:=by omega
      rw[← hdF]at hv3
      repeat' (first|refine uN ?_|(refine uB ?_;intro b)|(refine uP ?_ ?_<;>intro h<;>try exact zx)|refine uM ?_|fail)
      refine Ze (d+1,{ G1 with lv:=.slice al3 (M1.l++Vx M1 s d ⟨ph,pr,att⟩).length capl3,lc:=lc3 }) uS ?_ ⟨by simp only;omega,by simp only[htd],by simp only[htd];exact hW1.setL hv3,e1,e2⟩ (by simp only;omega)
      simp only[htd,Xq,Zhv,Zbx,Z19,Z2b,hwv2,e1,hdF]
      exact uL
   ·rw[Z16 hf]at htd
    have hk:=fun L hG=>Zxv T E G1 M1 s d pr L hG hW1 hM1 (by omega) h0 h1' hsite1 (by omega) (by omega)
    rw[← htd]at hk
    simp only[e1]at hk
    have ho:(W3 s M (d+1)).2=true∨(W3 s M (d+1)).2=false:=by cases (W3 s M (d+1)).2<;>simp
    clear hA1 hA2 hB
    generalize hH:Xq G1 M1++L=H at*
    rcases ho with ho|ho
    ·rw[ho]at hk
     repeat' (first|refine uN ?_|refine uC (kst) ?_|(refine uB ?_;intro b)|(refine uP ?_ ?_<;>intro h<;>try exact zx)|refine uM ?_|fail)
     all_goals subst hH
     all_goals refine Uk (L':=Xq G1 M1++([(b,.cells ⟨sc ⟨ph,pr,att⟩⟩ 43)]::L)) ?_ ls_in
     all_goals refine gc (hk _ (hG.cons _)) ?_
     all_goals rintro v L' ⟨rfl,G3,f1,f2,f3,rfl⟩
     all_goals repeat' (first|refine uN ?_|refine uC (kst) ?_|(refine uB ?_;intro b)|(refine uP ?_ ?_<;>intro h<;>try exact zx)|refine uM ?_|fail)
     all_goals refine Ze (d+1,G3) uS ?_ ⟨by simp only;omega,ho,f3,f1.trans e1,f2.trans e2⟩ (by simp only;omega)
     all_goals simp only[Z2l,Z17]
     all_goals exact LS.boths _ (LS.skips _ (LS.refl _))
    ·rw[ho]at hk
     rw[hstop ho]
     repeat' (first|refine uN ?_|refine uC (kst) ?_|(refine uB ?_;intro b)|(refine uP ?_ ?_<;>intro h<;>try exact zx)|refine uM ?_|fail)
     all_goals subst hH
     all_goals refine Uk (L':=Xq G1 M1++([(b,.cells ⟨sc ⟨ph,pr,att⟩⟩ 43)]::L)) ?_ ls_in
     all_goals refine gc (hk _ (hG.cons _)) ?_
     all_goals rintro v L' ⟨rfl,G3,f1,f2,f3,rfl⟩
     all_goals repeat' (first|refine uN ?_|refine uC (kst) ?_|(refine uB ?_;intro b)|(refine uP ?_ ?_<;>intro h<;>try exact zx)|refine uM ?_|fail)
     all_goals refine Z3 (L':=Xq G3 (W3 s M (d+1)).1++L) ?_ ⟨rfl,G3,f1.trans e1,f2.trans e2,f3,rfl⟩
     all_goals simp only[Z2l,Z17]
     all_goals exact LS.boths _ (LS.skips _ (LS.refl _))
  ·obtain rfl:d=6:=by omega
   repeat' (first|refine uN ?_|(refine uB ?_;intro b)|(refine uP ?_ ?_<;>intro h<;>try exact zx)|refine uM ?_|fail)
   exact Us rfl ⟨rfl,G1,e1,e2,hW1,rfl⟩
end
def Zqj(np bp ba sp bj mb:Nat):NdG:=⟨np,bp,ba,sp,bj,mb,[],0,List.replicate 6 (0,.pointer none,[])⟩
theorem Ztb:∀{gs:List NdG} {ms:List Nd} {i:Nat} {g:NdG} {m:Nd},gs.length=ms.length→Qs (gs++[g]) (ms++[m]) i=Qs gs ms i++Zon g ((i+gs.length:Nat):Int) m
 | [],[],i,g,m,_=>by simp[Qs]
 | [],_::_,_,_,_,h=>by simp at h
 | _::_,[],_,_,_,h=>by simp at h
 | g0::gs,m0::ms,i,g,m,h=>by
  have ih:=Ztb (gs:=gs) (ms:=ms) (i:=i+1) (g:=g) (m:=m) (by simpa using h)
  simp only[Z19,Qs,ih,Z18,Z2y]
  rw[show i+1+gs.length=i+(gs.length+1) by omega]
theorem newNd_ok(np bp ba sp bj mb:Nat):NdOk (Zqj np bp ba sp bj mb) newNd:=by
 refine⟨rfl,fun d x hx=>?_,fun j ref e=>by cases e;exact Zlw⟩
 simp only[newNd,Z8,Z24]at hx
 split at hx<;>cases hx
theorem Z0r(np bp ba sp bj mb:Nat):Zcx (Zqj np bp ba sp bj mb) newNd=[]:=rfl
theorem Z0s(np bp ba sp bj mb:Nat):V3 (Zj1 (Zqj np bp ba sp bj mb) newNd.site) bp (Xo (Zqj np bp ba sp bj mb) newNd) newNd.done=[pt sp 0,pt bp 0,.pointer none,.pointer none,.pointer none,.pointer none,.pointer none,.pointer none,.bool false,.bool false,.bool false,.bool false,.bool false,.bool false]:=rfl
theorem nds_new{gs:List NdG}{i:Nat}(np bp ba sp bj mb:Nat)(h:gs.length=i):Qs (gs++[Zqj np bp ba sp bj mb]) (List.replicate (i+1) newNd) 0=Qs gs (List.replicate i newNd) 0++(Zdl (Zqj np bp ba sp bj mb) newNd++(Xs bp ba ⟨Yg 512,false,-1⟩++(Zjz sp bj mb i++(Zkd mb [] 0++jC bj bp ⟨Zq (Yg 512),false⟩)))):=by
 rw[Z7e,Ztb (show gs.length=(List.replicate i newNd).length by rw[Z66,h]),h]
 unfold Zon
 rw[Z0r,Z2p,Z3o]
 have:siB (Zqj np bp ba sp bj mb) i newNd.site=Zjz sp bj mb i++Zkd mb [] 0++jC bj bp ⟨Zq (Yg 512),false⟩:=rfl
 rw[this]
 simp only[Z18]
 rfl
section
attribute [local irreducible] Xs Zq Yg
theorem Zm9(T:Nat)(E:Nat→Addr)(aw:Option Addr)(capw:Nat)(w:List Int)(L:Za)(hG:Er T E [2,3,4,6] L)(hR:Rd ic 1 L aw w)(hl:w.length≤1000000):
  HC prog 17 [.slice aw w.length capw] L (fun u L'=>match Ys w with
   | some e=>u=.tuple ⟨[.pointer none,eV T E (some e)]⟩∧L'=L
   | none=>∃G,u=.tuple ⟨[pt G.wp 0,.nilIface]⟩∧WdOk G (Vg w)∧L'=Xq G (Vg w)++L):=by
 have kc:=Zdp T E aw capw w L hG.sub hR hl
 cases hc:Ys w with
 | some e=>
  rw[hc]at kc
  refine uE func17 ntmps17 ?_
  repeat' (first|refine uN ?_|refine uC (kc) ?_|(refine uB ?_;intro b)|(refine uP ?_ ?_<;>intro h<;>try exact zx)|fail)
  exact Z14 rfl ⟨rfl,rfl⟩
 | none=>
  rw[hc]at kc
  obtain⟨c1,c2,-⟩:=Vm hc
  obtain⟨a0,rfl⟩:∃a0,aw=some a0:=by
   rcases hR with rfl|⟨b,i,l,E,fr,h,-⟩
   ·simp at c1
   ·exact⟨_,h⟩
  have kcl:=fun L hR=>Zvf a0 capw w L hR (by omega)
  have kp:=fun L hG=>Zoo T E 512 L hG
  rw[show Ztc 512=some ⟨Yg 512,false,-1⟩ from rfl]at kp
  have hz:=Zpj 512
  have ks:=fun(i:Nat) (hi:i<7) bp ba L hG=>Zmy T E (i:Int) bp ba ⟨Yg 512,false,-1⟩ L hG (by simp only;omega)
  have hse:∀i:Nat,i<7→Zo8 (i:Int) ⟨Yg 512,false,-1⟩=none:=fun i hi=>by
   unfold Zo8
   rw[Z16 (by omega)]
   simp only
   rw[Z16 (by omega)]
   simp
  refine uE func17 ntmps17 ?_
  repeat' (first|refine uN ?_|refine uC (kc) ?_|(refine uB ?_;intro b)|(refine uP ?_ ?_<;>intro h<;>try exact zx)|fail)
  refine gc (kcl _ (by (repeat (first|exact hR|apply Rd.cons)))) ?_
  rintro u L' ⟨cw,hvw,rfl⟩
  obtain⟨aw2,capw2,rfl,-,-⟩:=hvw.rd X0
  repeat' (first|refine uN ?_|refine uC (kc) ?_|(refine uB ?_;intro b)|(refine uP ?_ ?_<;>intro h<;>try exact zx)|fail)
  rename_i mb
  obtain⟨wp,rfl⟩:∃wp,wp=b:=⟨b,rfl⟩
  refine Wf (L':=[(wp,.cells ⟨[.slice aw2 w.length capw2,Yt,.map (some mb),Yt,Yt]⟩ 110)]::[]::[(mb,.map ⟨[]⟩ 0)]::cw::[]::L) ?_ uL
  refine Zm (σ:=Nat × Value × List Zp × List NdG) (fun r=>[(5,pt wp 0),(20,.slice (some a0) w.length capw),(21,iv w.length),(22,iv r.1)])
   (fun r=>[(wp,.cells ⟨[.slice aw2 w.length capw2,r.2.1,.map (some mb),Yt,Yt]⟩ 110)]::r.2.2.1::[(mb,.map ⟨[]⟩ 0)]::cw::Qs r.2.2.2 (List.replicate r.1 newNd) 0::L)
   (fun r=>r.1≤w.length∧r.2.2.2.length=r.1∧Vec 117 1 pc r.2.1 (r.2.2.2.map (·.np)) r.2.2.1∧∀(k:Nat) (g:NdG),r.2.2.2[k]?=some g→NdOk g newNd) (fun r=>w.length-r.1) (0,Yt,[],[]) uS (Z15 _) ⟨by simp,rfl,Zt,fun k g h=>by simp at h⟩ ?_
  rintro⟨i,nv,nc,gs⟩ ⟨hi,hgl,hnv,hgk⟩
  simp only at hi hgl hnv hgk ⊢
  obtain⟨an,capn,he,-,-⟩:=hnv.rd Vh
  subst he
  have hml:(gs.map (·.np)).length=i:=by simp[hgl]
  by_cases hit:i<w.length
  ·have ks2:=ks i (by omega)
   rw[hse i (by omega)]at ks2
   repeat' (first|refine uN ?_|refine uC (kc) ?_|(refine uB ?_;intro b)|(refine uP ?_ ?_<;>intro h<;>try exact zx)|fail)
   refine gc (kp _ (by repeat (first|exact hG|exact hG.sub|apply Errs.cons))) ?_
   rintro v L' ⟨bp,ba,rfl,rfl⟩
   repeat' (first|refine uN ?_|refine uC (kc) ?_|(refine uB ?_;intro b)|(refine uP ?_ ?_<;>intro h<;>try exact zx)|fail)
   refine gc (ks2 bp ba _ (by repeat (first|exact hG|exact hG.sub|apply Errs.cons))) ?_
   rintro v L' ⟨sp,bj,mb2,rfl,rfl⟩
   repeat' (first|refine uN ?_|refine uC (kc) ?_|(refine uB ?_;intro b)|(refine uP ?_ ?_<;>intro h<;>try exact zx)|fail)
   rename_i np
   refine fo 7 ?_
   refine Zfc S np hnv Vh Zf9 ?_ (hby:=by rw[hml];omega) (hmax:=by rw[hml];omega)
   intro v' c' hv'
   obtain⟨an2,capn2,he2,-,-⟩:=hv'.rd Vh
   subst he2
   have hnew:=newNd_ok np bp ba sp bj mb2
   repeat' (first|refine uN ?_|refine uC (kc) ?_|(refine uB ?_;intro b)|(refine uP ?_ ?_<;>intro h<;>try exact zx)|fail)
   refine Ze (i+1,.slice an2 (gs.map (·.np)++[np]).length capn2,c',gs++[Zqj np bp ba sp bj mb2]) uS ?_ ⟨by simp only;omega,by simp[hgl],by rw[Z20];exact hv',fun k g hk=>?_⟩ (by simp only;omega)
   ·simp only[nds_new np bp ba sp bj mb2 hgl]
    refine LS.trans (b:=([(wp,.cells ⟨[.slice aw2 w.length capw2,.slice an2 (gs.map (·.np)++[np]).length capn2,.map (some mb),Yt,Yt]⟩ 110)]::c'::[(mb,.map ⟨[]⟩ 0)]::cw::Qs gs (List.replicate i newNd) 0::Zdl (Zqj np bp ba sp bj mb2) newNd::Xs bp ba ⟨Yg 512,false,-1⟩::Zjz sp bj mb2 i::Zkd mb2 [] 0::jC bj bp ⟨Zq (Yg 512),false⟩::L).flatten) (LS.of_eq ?_) ?_
    ·simp only[Z17,Z18]
    ·simp only[Zdl,Zdm,Z0s]
     exact uL
   ·rw[List.getElem?_append]at hk
    split at hk
    ·exact hgk k g hk
    ·rename_i hk2
     have:k-gs.length=0:=by
      by_cases e:k-gs.length=0
      ·exact e
      ·simp[e]at hk
     rw[this]at hk
     cases hk
     exact hnew
  ·obtain rfl:i=w.length:=by omega
   repeat' (first|refine uN ?_|refine uC (kc) ?_|(refine uB ?_;intro b)|(refine uP ?_ ?_<;>intro h<;>try exact zx)|fail)
   refine U3 (L':=Xq ⟨wp,.slice aw2 w.length capw2,cw,.slice an (gs.map (·.np)).length capn,nc,mb,[],0,Yt,[],Yt,[],gs⟩ (Vg w)++L) ?_ ⟨⟨wp,.slice aw2 w.length capw2,cw,.slice an (gs.map (·.np)).length capn,nc,mb,[],0,Yt,[],Yt,[],gs⟩,rfl,⟨hvw,hnv,by simp[Vg,hgl],Zlw,Zt,Zt,fun s g m h1 h2=>?_⟩,rfl⟩
   ·simp only[Xq,Zhv,Zbx,Z19,Z2b,Vg]
    exact uL
   ·simp only[Vg,Z24]at h2
    split at h2
    ·cases h2
     exact hgk s g h1
    ·cases h2
end
def Zbg(M:Wm)(v:Int):Wm × Option Nat:=
 if v % 16<9∧M.l.length=0 then (M,some 4) else
 if v % 16=7 then Zdg M (v / 16 % M.l.length) else
 if v % 16=8 then Zam M (v / 16 % M.l.length) else
 if v % 16=9 then U6 M (v / 16 % 7) (v / 16 / 7 % 6) else
 if v % 16=10 then Zbn M (v / 16 % 7) else
 if v % 16=11 then Up M (v / 16 % 7) (v / 16 / 7 % 6) else
 if v % 16=12 then Zdh M (v / 16 % 7) (v / 16 / 7 % 6) (decide (v / 16 % 2=0)) else
 if v % 16=13 then Zjr M (v / 16 % 7) (v / 16 % 40) else
 if v % 16=14 then Zdf M (v / 16 % 7) else
 if v % 16=15 then Zzd M (v / 16 % 7) else
 Ww M (v / 16 % M.l.length)
theorem one_ok{M:Wm}(h:WI M)(v:Int):StepOk M (Zbg M v).1 84:=by
 unfold Zbg
 split
 ·exact .refl h _
 split
 ·exact(drop_ok h _).mono (by omega)
 split
 ·exact(twice_ok h _).mono (by omega)
 split
 ·exact(begin_ok h _ _).mono (by omega)
 split
 ·exact(tick_ok h _).mono (by omega)
 split
 ·exact(Z1g h _ _).mono (by omega)
 split
 ·exact(link_ok h _ _ _).mono (by omega)
 split
 ·exact(cut_ok h _ _ (by omega)).mono (by omega)
 split
 ·exact(down_ok h _).mono (by omega)
 split
 ·exact(up_ok h _).mono (by omega)
 ·exact(Zvl h _).mono (by omega)
def okW(e:Option Nat):Prop:=e=none∨e=some 2∨e=some 4∨e=some 6∨e=some 8
theorem Zyp(M:Wm)(s:Int):okW (Vc M s):=by unfold Vc okW;split<;>simp
theorem Zus(M:Wm)(s:Int):okW (Zd9 M s):=by
 unfold Zd9
 have:=Zyp M s
 split
 ·rename_i e he
  rw[he]at this
  exact this
 ·unfold okW;split<;>simp
theorem wat_w(M:Wm)(k:Int):okW (Zu4 M k):=by unfold Zu4 okW;split<;>simp
theorem begin_w(M:Wm)(s d:Int):okW (U6 M s d).2:=by
 unfold U6
 split
 ·unfold okW;simp
 have:=Zus M s
 split
 ·rename_i e he
  rw[he]at this
  exact this
 split<;>(unfold okW;simp)
theorem refuse_w(M:Wm)(s d:Int):okW (Up M s d).2:=by
 unfold Up
 split
 ·unfold okW;simp
 have:=Zus M s
 split
 ·rename_i e he
  rw[he]at this
  exact this
 ·unfold okW;simp
theorem tick_w(M:Wm)(s:Int):okW (Zbn M s).2:=by
 unfold Zbn
 have:=Zus M s
 split
 ·rename_i e he
  rw[he]at this
  exact this
 ·unfold okW;simp
theorem Zzu(M:Wm)(k:Int):okW (Ww M k).2:=by
 unfold Ww
 have:=wat_w M k
 split
 ·rename_i e he
  rw[he]at this
  exact this
 ·simp only
  split
  ·unfold okW;simp
  split
  ·split<;>(unfold okW;simp)
  ·unfold okW;simp
theorem drop_w(M:Wm)(k:Int):okW (Zdg M k).2:=by
 unfold Zdg
 have:=wat_w M k
 split
 ·rename_i e he
  rw[he]at this
  exact this
 ·unfold okW;simp
theorem twice_w(M:Wm)(k:Int):okW (Zam M k).2:=by
 unfold Zam
 have:=wat_w M k
 split
 ·rename_i e he
  rw[he]at this
  exact this
 ·unfold okW;simp
theorem link_w(M:Wm)(a b:Int)(c:Bool):okW (Zdh M a b c).2:=by unfold Zdh;split<;>(unfold okW;simp)
theorem cut_w(M:Wm)(s n:Int):okW (Zjr M s n).2:=by
 unfold Zjr
 split
 ·unfold okW;simp
 have:=Zus M s
 split
 ·rename_i e he
  rw[he]at this
  exact this
 ·unfold okW;simp
theorem down_w(M:Wm)(s:Int):okW (Zdf M s).2:=by
 unfold Zdf
 have:=Zus M s
 split
 ·rename_i e he
  rw[he]at this
  exact this
 ·unfold okW;simp
theorem up_w(M:Wm)(s:Int):okW (Zzd M s).2:=by
 unfold Zzd
 have:=Zyp M s
 split
 ·rename_i e he
  rw[he]at this
  exact this
 ·split<;>(unfold okW;simp)
theorem one_w(M:Wm)(v:Int):okW (Zbg M v).2:=by
 unfold Zbg
 split
 ·unfold okW;simp
 split
 ·exact drop_w _ _
 split
 ·exact twice_w _ _
 split
 ·exact begin_w _ _ _
 split
 ·exact tick_w _ _
 split
 ·exact refuse_w _ _ _
 split
 ·exact link_w _ _ _ _
 split
 ·exact cut_w _ _ _
 split
 ·exact down_w _ _
 split
 ·exact up_w _ _
 ·exact Zzu _ _
theorem okW.ok{e:Option Nat}(h:okW e):okE e:=by
 rcases h with h|h|h|h|h<;>(rw[h];first|exact .inl rfl|(refine .inr ⟨_,rfl,?_⟩;decide)|trivial|decide)
section
attribute [local irreducible] V3 Yl Xs Zu Wb Zq Zd8 Zbn U6 Ww Zzd
theorem Z0y(T:Nat)(E:Nat→Addr)(G:WdG)(M:Wm)(v:Int)(L:Za)(hG:Er T E [2,3,4,5,6,8] L)(hW:WdOk G M)(hM:WI M)(hl:M.l.length≤99999000)(hv:0≤v)(hv2:v≤9223372036854775807):
  HC prog 104 [pt G.wp 0,iv v] (Xq G M++L) (fun u L'=>u=eV T E (Zbg M v).2∧Zgk G (Zbg M v).1 L L'):=by
 have hself:=Vr hW L
 have hI:=Zec hW L
 have hG':=Vn hG G M
 have kf:=Zxr G M _ hI
 have k7:=fun k=>Zuw T E G M k L hG.sub hW (by omega)
 have k8:=fun k=>Zrt T E G M k L hG.sub hW (by omega)
 have k9:=fun s d=>Zrn T E G M s d L hG.sub hW hM (by omega)
 have k10:=fun s=>Zu0 T E G M s L hG.sub hW hM (by omega)
 have k11:=fun s d=>Zn5 T E G M s d L hG.sub hW hM
 have k12:=fun a b w=>Zuy T E G M a b w L hG.sub hW
 have k13:=fun s n=>Zxo T E G M s n L hG.sub hW hM
 have k14:=fun s=>Zuv T E G M s L hG.sub hW hM
 have k15:=fun s=>Zxw T E G M s L hG.sub hW hM
 have k0:=fun k=>Zm8 T E G M k L hG.sub hW hM (by omega)
 generalize Xq G M++L=H at*
 unfold Zbg
 have hq0:0≤v / 16:=by omega
 have hr0:0≤v % 16∧v % 16<16:=by omega
 refine uE func104 ntmps104 ?_
 repeat' (first|refine uN ?_|refine uC (kf) ?_|(refine uP ?_ ?_<;>intro h<;>try exact zx)|fail)
 all_goals first|(rw[Z2d (show v % 16<9∧M.l.length=0 by omega)];exact Us rfl ⟨rfl,hself⟩)|(refine gc (k7 _) ?_;rintro u L' ⟨rfl,hP⟩;(repeat' (first|refine uN ?_|refine uC (kf) ?_|(refine uP ?_ ?_<;>intro h<;>try exact zx)|fail));rw[Z16 (show ¬ (v % 16<9∧M.l.length=0) by omega),Z2d (show v % 16=7 by omega)];exact Us rfl ⟨rfl,hP⟩)|(refine gc (k8 _) ?_;rintro u L' ⟨rfl,hP⟩;(repeat' (first|refine uN ?_|refine uC (kf) ?_|(refine uP ?_ ?_<;>intro h<;>try exact zx)|fail));rw[Z16 (show ¬ (v % 16<9∧M.l.length=0) by omega),Z16 (show ¬ v % 16=7 by omega),Z2d (show v % 16=8 by omega)];exact Us rfl ⟨rfl,hP⟩)|(refine gc (k9 _ _) ?_;rintro u L' ⟨rfl,hP⟩;(repeat' (first|refine uN ?_|refine uC (kf) ?_|(refine uP ?_ ?_<;>intro h<;>try exact zx)|fail));rw[Z16 (show ¬ (v % 16<9∧M.l.length=0) by omega),Z16 (show ¬ v % 16=7 by omega),Z16 (show ¬ v % 16=8 by omega),Z2d (show v % 16=9 by omega)];exact Us rfl ⟨rfl,hP⟩)|(refine gc (k10 _) ?_;rintro u L' ⟨rfl,hP⟩;(repeat' (first|refine uN ?_|refine uC (kf) ?_|(refine uP ?_ ?_<;>intro h<;>try exact zx)|fail));rw[Z16 (show ¬ (v % 16<9∧M.l.length=0) by omega),Z16 (show ¬ v % 16=7 by omega),Z16 (show ¬ v % 16=8 by omega),Z16 (show ¬ v % 16=9 by omega),Z2d (show v % 16=10 by omega)];exact Us rfl ⟨rfl,hP⟩)|(refine gc (k11 _ _) ?_;rintro u L' ⟨rfl,hP⟩;(repeat' (first|refine uN ?_|refine uC (kf) ?_|(refine uP ?_ ?_<;>intro h<;>try exact zx)|fail));rw[Z16 (show ¬ (v % 16<9∧M.l.length=0) by omega),Z16 (show ¬ v % 16=7 by omega),Z16 (show ¬ v % 16=8 by omega),Z16 (show ¬ v % 16=9 by omega),Z16 (show ¬ v % 16=10 by omega),Z2d (show v % 16=11 by omega)];exact Us rfl ⟨rfl,hP⟩)|(refine gc (k12 _ _ _) ?_;rintro u L' ⟨rfl,hP⟩;(repeat' (first|refine uN ?_|refine uC (kf) ?_|(refine uP ?_ ?_<;>intro h<;>try exact zx)|fail));rw[Z16 (show ¬ (v % 16<9∧M.l.length=0) by omega),Z16 (show ¬ v % 16=7 by omega),Z16 (show ¬ v % 16=8 by omega),Z16 (show ¬ v % 16=9 by omega),Z16 (show ¬ v % 16=10 by omega),Z16 (show ¬ v % 16=11 by omega),Z2d (show v % 16=12 by omega)];exact Us rfl ⟨rfl,hP⟩)|(refine gc (k13 _ _) ?_;rintro u L' ⟨rfl,hP⟩;(repeat' (first|refine uN ?_|refine uC (kf) ?_|(refine uP ?_ ?_<;>intro h<;>try exact zx)|fail));rw[Z16 (show ¬ (v % 16<9∧M.l.length=0) by omega),Z16 (show ¬ v % 16=7 by omega),Z16 (show ¬ v % 16=8 by omega),Z16 (show ¬ v % 16=9 by omega),Z16 (show ¬ v % 16=10 by omega),Z16 (show ¬ v % 16=11 by omega),Z16 (show ¬ v % 16=12 by omega),Z2d (show v % 16=13 by omega)];exact Us rfl ⟨rfl,hP⟩)|(refine gc (k14 _) ?_;rintro u L' ⟨rfl,hP⟩;(repeat' (first|refine uN ?_|refine uC (kf) ?_|(refine uP ?_ ?_<;>intro h<;>try exact zx)|fail));rw[Z16 (show ¬ (v % 16<9∧M.l.length=0) by omega),Z16 (show ¬ v % 16=7 by omega),Z16 (show ¬ v % 16=8 by omega),Z16 (show ¬ v % 16=9 by omega),Z16 (show ¬ v % 16=10 by omega),Z16 (show ¬ v % 16=11 by omega),Z16 (show ¬ v % 16=12 by omega),Z16 (show ¬ v % 16=13 by omega),Z2d (show v % 16=14 by omega)];exact Us rfl ⟨rfl,hP⟩)|(refine gc (k15 _) ?_;rintro u L' ⟨rfl,hP⟩;(repeat' (first|refine uN ?_|refine uC (kf) ?_|(refine uP ?_ ?_<;>intro h<;>try exact zx)|fail));rw[Z16 (show ¬ (v % 16<9∧M.l.length=0) by omega),Z16 (show ¬ v % 16=7 by omega),Z16 (show ¬ v % 16=8 by omega),Z16 (show ¬ v % 16=9 by omega),Z16 (show ¬ v % 16=10 by omega),Z16 (show ¬ v % 16=11 by omega),Z16 (show ¬ v % 16=12 by omega),Z16 (show ¬ v % 16=13 by omega),Z16 (show ¬ v % 16=14 by omega),Z2d (show v % 16=15 by omega)];exact Us rfl ⟨rfl,hP⟩)|(refine gc (k0 _) ?_;rintro u L' ⟨rfl,hP⟩;(repeat' (first|refine uN ?_|refine uC (kf) ?_|(refine uP ?_ ?_<;>intro h<;>try exact zx)|fail));rw[Z16 (show ¬ (v % 16<9∧M.l.length=0) by omega),Z16 (show ¬ v % 16=7 by omega),Z16 (show ¬ v % 16=8 by omega),Z16 (show ¬ v % 16=9 by omega),Z16 (show ¬ v % 16=10 by omega),Z16 (show ¬ v % 16=11 by omega),Z16 (show ¬ v % 16=12 by omega),Z16 (show ¬ v % 16=13 by omega),Z16 (show ¬ v % 16=14 by omega),Z16 (show ¬ v % 16=15 by omega)];exact Us rfl ⟨rfl,hP⟩)
end
end Go.HL
namespace Go.HL
open Go Go.Proofs Go.Proofs.Tryz
variable[Tasks]
def Zak(q:Wm × List Int)(v:Int):Wm × List Int:=if 0≤v then ((Zbg q.1 v).1,q.2++[cdN (Zbg q.1 v).2]) else (q.1,q.2++[-1])
def Zal(M:Wm)(l:List Int):Wm × List Int:=(l.take 3000).foldl Zak (M,[])
theorem runV_ok{M:Wm}{q:Wm × List Int}{k:Nat}(h:StepOk M q.1 k)(v:Int):StepOk M (Zak q v).1 (k+84)∧(Zak q v).2.length=q.2.length+1:=by
 unfold Zak
 split
 ·have h2:=one_ok h.wi v
  have h3:=h.len
  have h4:=h2.len
  exact⟨⟨h2.wi,h.same.trans h2.same,by simp only;omega⟩,by simp⟩
 ·exact⟨h.mono (by omega),by simp⟩
theorem Zhh:∀(l:List Int) {M:Wm} {q:Wm × List Int} {k:Nat},StepOk M q.1 k→StepOk M (l.foldl Zak q).1 (k+84*l.length)∧(l.foldl Zak q).2.length=q.2.length+l.length
 | [],M,q,k,h=>⟨h,by simp⟩
 | v::l,M,q,k,h=>by
  obtain⟨h1,h2⟩:=runV_ok h v
  obtain⟨h3,h4⟩:=Zhh l h1
  rw[Z3y]
  refine⟨h3.mono (by simp only[Z2y];omega),by rw[h4,h2,Z2y];omega⟩
theorem run_ok{M:Wm}(h:WI M)(l:List Int):StepOk M (Zal M l).1 (84*l.length)∧(Zal M l).2.length≤l.length:=by
 obtain⟨h1,h2⟩:=Zhh (l.take 3000) (M:=M) (q:=(M,[])) (k:=0) (.refl h 0)
 have:(l.take 3000).length≤l.length:=by simp;omega
 exact⟨h1.mono (by omega),by unfold Zal;rw[h2];simp;omega⟩
theorem Zbv(M:Wm)(l:List Int)(i:Nat)(h:i<l.length):(l.take (i+1)).foldl Zak (M,[])=Zak ((l.take i).foldl Zak (M,[])) l[i]:=by
 rw[List.take_add_one,Z2c h,Option.toList_some,Z5b]
 rfl
theorem Zp6{A L:Za}{b:Nat}{o:Obj}(h:Has L b o):Has (A++L) b o:=by
 unfold Has at*
 rw[Z2l]
 exact Z2q _ h
theorem ls_in'{A L:Za}{c:List Zp}:LS (c::(A++L)).flatten (A++(c::L)).flatten:=by
 simp only[Z17,Z2l]
 refine LS.of_perm ?_
 rw[← Z18,← Z18]
 exact List.perm_append_comm.append_right _
attribute [local irreducible] HW HO HQ HD HC QOp Has Upd Yi Gets Vv W6 Xn Zaf Wa Yz Zcl Xy
section
attribute [local irreducible] Zbg
theorem Z1k(T:Nat)(E:Nat→Addr)(G:WdG)(M:Wm)(a:Option Addr)(cap:Nat)(l:List Int)(L:Za)(hE:Ez T E L)(hW:WdOk G M)(hM:WI M)(hl:M.l.length+84*l.length≤99999000)(hR:Rd ic 1 L a l)(hcap:l.length≤cap)(hd:∀v∈l,v≤9223372036854775807):
  HC prog 42 [pt G.wp 0,.slice a l.length cap] (Xq G M++L) (fun v L'=>∃c,Vec 3 1 ic v (Zal M l).2 c∧Zgk G (Zal M l).1 (c::L) L'):=by
 have hlen:(l.take 3000).length=min 3000 l.length:=Z3g
 refine uE func42 ntmps42 ?_
 repeat' (first|refine uN ?_|(refine uB ?_;intro b)|(refine uP ?_ ?_<;>intro h<;>try exact zx)|fail)
 generalize hN:(min (l.length:Int) 3000).toNat=N
 have hN1:N≤l.length:=by omega
 have hN2:N=min 3000 l.length:=by omega
 have hfin:(l.take N).foldl Zak (M,[])=Zal M l:=by
  unfold Zal
  congr 1
  rw[hN2]
  by_cases h:l.length≤3000
  ·rw[Nat.min_eq_right h,Z3d (Z21 _),Z3d h]
  ·rw[Z41 (by omega)]
 have hok:=fun i=>Zhh (l.take i) (M:=M) (q:=(M,[])) (k:=0) (.refl hM 0)
 have hsucc:=Zbv M l
 refine Wf (L':=[]::(Xq G M++L)) ?_ (LS.refl _)
 refine Zm (σ:=Nat × Value × List Zp × WdG) (fun r=>[(0,pt G.wp 0),(5,r.2.1),(13,.slice a N cap),(14,iv N),(15,iv r.1)])
  (fun r=>r.2.2.1::(Xq r.2.2.2 ((l.take r.1).foldl Zak (M,[])).1++L))
  (fun r=>r.1≤N∧Vec 3 1 ic r.2.1 ((l.take r.1).foldl Zak (M,[])).2 r.2.2.1∧WdOk r.2.2.2 ((l.take r.1).foldl Zak (M,[])).1∧r.2.2.2.wp=G.wp∧r.2.2.2.nd.map (·.np)=G.nd.map (·.np)) (fun r=>N-r.1) (0,Yt,[],G) uS (Z15 _) ⟨by simp,Zt,hW,rfl,rfl⟩ ?_
 rintro⟨i,v1,c,G1⟩ ⟨hi,hv,hW1,e1,e2⟩
 simp only at hi hv hW1 e1 e2 ⊢
 obtain⟨a5,cap5,he5,-,-⟩:=hv.rd X0
 subst he5
 obtain⟨⟨hM1,hsame,hlen⟩,hl2⟩:=hok i
 have hti:(l.take i).length=i:=by rw[Z3g];omega
 rw[hti]at hlen hl2
 by_cases hit:i<N
 ·have hs:=hsucc i (by omega)
  obtain⟨b,bi,q,F,fr,rfl,hb,hg⟩:=hR.at1 (j:=(i:Int)) (by omega) (by omega)
  have eg:l[(i:Int).toNat]'(by omega)=l[i]:=rfl
  rw[eg]at hg
  have hdi:=hd l[i] (Z3c _)
  clear hok hfin hsucc eg
  obtain⟨M1,cs,hQ⟩:∃M1 cs,(l.take i).foldl Zak (M,[])=(M1,cs):=⟨_,_,rfl⟩
  simp only[hQ,Z23,Z3o]at hs hv hW1 hM1 hsame hlen hl2 ⊢
  generalize l[i]=x at*
  have hb':Has (Xq G1 M1++L) b (.cells ⟨q⟩ F fr):=Zp6 hb
  by_cases hx:0≤x
  ·have k1:=fun L hG=>Z0y T E G1 M1 x L hG hW1 hM1 (by omega) hx hdi
   have kw:=one_w M1 x
   have hrv:Zak (M1,cs) x=((Zbg M1 x).1,cs++[cdN (Zbg M1 x).2]):=Z2d hx
   rw[hrv]at hs
   clear hrv
   generalize Zbg M1 x=R at*
   obtain⟨M2,e⟩:=R
   simp only[e1]at k1 kw hs
   generalize hH:Xq G1 M1++L=H at*
   repeat' (first|refine uN ?_|(refine uB ?_;intro b)|(refine uP ?_ ?_<;>intro h<;>try exact zx)|fail)
   subst hH
   refine Uk (L':=Xq G1 M1++(c::L)) ?_ ls_in
   refine gc (k1 _ ((hE.er [2,3,4,5,6,8]).cons _)) ?_
   rintro v L' ⟨rfl,G2,f1,f2,f3,rfl⟩
   have kc:=Zr5 T E e (Xq G2 M2++(c::L)) (hE.mono fun b o h=>Zp6 (Zb h)) kw.ok
   generalize hH2:Xq G2 M2++(c::L)=H2 at*
   repeat' (first|refine uN ?_|refine uC (kc) ?_|(refine uB ?_;intro b)|(refine uP ?_ ?_<;>intro h<;>try exact zx)|fail)
   subst hH2
   refine Uk (L':=c::[(b,.cells ⟨[iv (cdN e)]⟩ 3)]::(Xq G2 M2++L)) ?_ (LS.trans (LS.p1 (LS.refl _)) (LS.k ls_in'))
   refine Zfc S (cdN e) hv X0 Zh1 ?_
   intro v' c' hv'
   repeat' (first|refine uN ?_|(refine uB ?_;intro b)|(refine uP ?_ ?_<;>intro h<;>try exact zx)|fail)
   refine Ze (i+1,v',c',G2) uS ?_ ⟨by simp only;omega,by simp only[hs];exact hv',by simp only[hs];exact f3,f1.trans e1,f2.trans e2⟩ (by simp only;omega)
   simp only[hs]
   exact uL
  ·have hrv:Zak (M1,cs) x=(M1,cs++[-1]):=Z16 hx
   rw[hrv]at hs
   generalize hH:Xq G1 M1++L=H at*
   repeat' (first|refine uN ?_|(refine uB ?_;intro b)|(refine uP ?_ ?_<;>intro h<;>try exact zx)|fail)
   subst hH
   refine fo 1 ?_
   refine Zfc S (-1:Int) hv X0 Zh1 ?_
   intro v' c' hv'
   repeat' (first|refine uN ?_|(refine uB ?_;intro b)|(refine uP ?_ ?_<;>intro h<;>try exact zx)|fail)
   refine Ze (i+1,v',c',G1) uS ?_ ⟨by simp only;omega,by simp only[hs];exact hv',by simp only[hs];exact hW1,e1,e2⟩ (by simp only;omega)
   simp only[hs]
   exact uL
 ·obtain rfl:i=N:=by omega
  rw[hfin]at hv hW1 ⊢
  repeat' (first|refine uN ?_|(refine uB ?_;intro b)|(refine uP ?_ ?_<;>intro h<;>try exact zx)|fail)
  exact Z3 (L':=Xq G1 (Zal M l).1++(c::L)) ls_in ⟨c,hv,G1,e1,e2,hW1,rfl⟩
end
abbrev REvt(v:Value)(xs:List Evt)(c:List Zp):Prop:=Vec 162 3 ec v xs c
theorem Zhx(a:Option Addr)(cap:Nat)(xs:List Evt)(L:Za)(hR:Rd ec 3 L a xs)(hl:xs.length≤100000000):
  HC prog 46 [.slice a xs.length cap] L (fun v L'=>∃c,REvt v xs c∧L'=c::L):=by
 refine uE func46 ntmps46 ?_
 repeat' (first|refine uN ?_|(refine uB ?_;intro b)|(refine uP ?_ ?_<;>intro h<;>try exact zx)|refine uM ?_|fail)
 refine Wf (L':=[]::L) ?_ (LS.refl _)
 refine Zm (σ:=Nat × Value × List Zp) (fun r=>[(0,.slice a xs.length cap),(3,r.2.1),(4,iv r.1)]) (fun r=>r.2.2::L) (fun r=>r.1≤xs.length∧REvt r.2.1 (xs.take r.1) r.2.2) (fun r=>xs.length-r.1) (0,Yt,[]) uS (Z15 _) ⟨by simp,Zt⟩ ?_
 rintro⟨i,v,c⟩ ⟨hi,hv⟩
 simp only at hi hv ⊢
 by_cases hlt:i<xs.length
 ·obtain⟨b,ia,l,E,fr,rfl,hb,hg⟩:=hR.at (j:=(i:Int)) (by omega) (by omega)
  have ex:xs[(i:Int).toNat]'(by omega)=xs[i]:=rfl
  rw[ex]at hg
  have hst:xs.take (i+1)=xs.take i++[xs[i]]:=Z2n hlt
  have hti:(xs.take i).length=i:=by rw[Z3g];omega
  obtain⟨a5,cap5,he5,-,-⟩:=hv.rd Vt
  subst he5
  generalize xs[i]=x at*
  obtain⟨xs1,xd,xp⟩:=x
  simp only[ec]at hg
  repeat' (first|refine uN ?_|(refine uB ?_;intro b)|(refine uP ?_ ?_<;>intro h<;>try exact zx)|refine uM ?_|fail)
  refine fo 1 ?_
  refine Zfc S (⟨xs1,xd,xp⟩:Evt) hv Vt Zpz ?_ (hby:=by rw[hti];omega) (hmax:=by rw[hti];omega)
  intro v' c' hv'
  obtain⟨a6,cap6,he6,-,-⟩:=hv'.rd Vt
  subst he6
  repeat' (first|refine uN ?_|(refine uB ?_;intro b)|(refine uP ?_ ?_<;>intro h<;>try exact zx)|refine uM ?_|fail)
  refine Ze (i+1,_,c') uS ?_ ⟨by simp only;omega,by simp only[hst];exact hv'⟩ (by simp only;omega)
  exact uL
 ·obtain rfl:i=xs.length:=by omega
  rw[Z4c]at hv
  repeat' (first|refine uN ?_|(refine uB ?_;intro b)|(refine uP ?_ ?_<;>intro h<;>try exact zx)|refine uM ?_|fail)
  exact Z3 (LS.refl _) ⟨c,hv,rfl⟩
theorem Zig(a a2:Option Addr)(cap cap2:Nat)(xs ys:List Evt)(L:Za)(hR:Rd ec 3 L a xs)(hR2:Rd ec 3 L a2 ys)(hl:xs.length≤100000000):
  HC prog 45 [.slice a xs.length cap,.slice a2 ys.length cap2] L (fun v L'=>v=.bool (decide (xs=ys))∧L'=L):=by
 have kb:=fun L hR=>Zhx a cap xs L hR hl
 refine uE func45 ntmps45 ?_
 repeat' (first|refine uN ?_|(refine uP ?_ ?_<;>intro h<;>try exact zx)|refine uM ?_|fail)
 refine gc (kb _ hR) ?_
 rintro v L' ⟨c,hv,rfl⟩
 obtain⟨a5,cap5,rfl,-,hR5⟩:=hv.rd Vt
 repeat' (first|refine uN ?_|(refine uP ?_ ?_<;>intro h<;>try exact zx)|refine uM ?_|fail)
 ·exact Z3 (LS.skips _ (LS.refl _)) ⟨by rw[Z3t];intro e;subst e;exact absurd rfl ‹_›,rfl⟩
 refine Zm (σ:=Nat) (fun i=>[(5,.slice a5 xs.length cap5),(1,.slice a2 ys.length cap2),(6,iv i)]) (fun _=>c::L) (fun i=>i≤xs.length∧xs.take i=ys.take i) (fun i=>xs.length-i) 0 uS (Z15 _) ⟨by omega,by simp⟩ ?_
 rintro i ⟨h1,h2⟩
 by_cases hlt:i<xs.length
 ·obtain⟨b,ia,l,E,fr,rfl,hb,hg⟩:=(hR5 L).at (j:=(i:Int)) (by omega) (by omega)
  obtain⟨b2,ia2,l2,E2,fr2,rfl,hb2,hg2⟩:=hR2.at (j:=(i:Int)) (by omega) (by omega)
  have ex:xs[(i:Int).toNat]'(by omega)=xs[i]:=rfl
  have ey:ys[(i:Int).toNat]'(by omega)=ys[i]'(by omega):=rfl
  rw[ex]at hg
  rw[ey]at hg2
  have hst:=Zhn (xs:=xs) (ys:=ys) hlt (by omega)
  have hne:xs[i]≠ys[i]'(by omega)→xs≠ys:=fun h e=>h (by subst e;rfl)
  generalize xs[i]=x at*
  generalize ys[i]'(by omega)=y at*
  repeat' (first|refine uN ?_|(refine uP ?_ ?_<;>intro h<;>try exact zx)|refine uM ?_|fail)
  ·refine Z3 (LS.skips _ (LS.refl _)) ⟨?_,rfl⟩
   rw[Z3t (hne (fun e=>by subst e;simp at h))]
  ·have e:x=y:=by
    obtain⟨x1,x2,x3⟩:=x
    obtain⟨y1,y2,y3⟩:=y
    simp at h
    obtain⟨rfl,rfl,rfl⟩:=h
    rfl
   exact Zn (i+1) uS (Z15 _) ⟨by omega,hst.2 ⟨h2,e⟩⟩ (by omega)
 ·repeat' (first|refine uN ?_|(refine uP ?_ ?_<;>intro h<;>try exact zx)|refine uM ?_|fail)
  refine Z3 (LS.skips _ (LS.refl _)) ⟨?_,rfl⟩
  rw[Z29]
  have e1:xs.take i=xs:=Z3d (by omega)
  have e2:ys.take i=ys:=Z3d (by omega)
  rw[← e1,h2,e2]
end Go.HL
namespace Go.HL
open Go Go.Proofs Go.Proofs.Tryz
variable[Tasks]
def Zxp(G:WdG)(M:Wm):List Zp:=(Xq G M).flatten
theorem Zgh(G:WdG)(M:Wm)(L:Za):(Zxp G M::L).flatten=(Xq G M++L).flatten:=by
 unfold Zxp
 rw[Z17,Z2l]
def WdQ(G:WdG)(M':Wm)(L L':Za):Prop:=∃G',G'.wp=G.wp∧WdOk G' M'∧L'=Zxp G' M'::L
theorem HC.shut{F:Nat}{args:List Value}{G:WdG}{M M':Wm}{L:Za}{V:Value→Prop}(h:HC prog F args (Xq G M++L) (fun v L'=>V v∧Zgk G M' L L')):HC prog F args (Zxp G M::L) (fun v L'=>V v∧WdQ G M' L L'):=by
 refine HC.post (HC.fl h (Zgh G M L).symm) ?_
 rintro v L' ⟨hv,G',e1,e2,e3,rfl⟩
 exact⟨Zxp G' M'::L,LS.of_eq (Zgh G' M' L),hv,G',e1,e3,rfl⟩
theorem HC.shutC{F:Nat}{args:List Value}{G:WdG}{M M':Wm}{L:Za}{V:Value→List Zp→Prop}(h:HC prog F args (Xq G M++L) (fun v L'=>∃c,V v c∧Zgk G M' (c::L) L')):HC prog F args (Zxp G M::L) (fun v L'=>∃c,V v c∧WdQ G M' (c::L) L'):=by
 refine HC.post (HC.fl h (Zgh G M L).symm) ?_
 rintro v L' ⟨c,hv,G',e1,e2,e3,rfl⟩
 exact⟨Zxp G' M'::(c::L),LS.of_eq (Zgh G' M' _),c,hv,G',e1,e3,rfl⟩
theorem HC.shutR{F:Nat}{args:List Value}{G:WdG}{M:Wm}{L:Za}{V:Value→List Zp→Prop}(h:HC prog F args (Xq G M++L) (fun v L'=>∃c,V v c∧L'=c::(Xq G M++L))):HC prog F args (Zxp G M::L) (fun v L'=>∃c,V v c∧L'=c::Zxp G M::L):=by
 refine HC.post (HC.fl h (Zgh G M L).symm) ?_
 rintro v L' ⟨c,hv,rfl⟩
 refine⟨c::Zxp G M::L,?_,c,hv,rfl⟩
 rw[Z17,Zgh,Z17]
 exact LS.refl _
theorem HC.shutN{F:Nat}{args:List Value}{M:Wm}{L:Za}{V:Value→WdG→Prop}{K:Za}(h:HC prog F args K (fun v L'=>∃G,V v G∧WdOk G M∧L'=Xq G M++L)):HC prog F args K (fun v L'=>∃G,V v G∧WdOk G M∧L'=Zxp G M::L):=by
 refine HC.post h ?_
 rintro v L' ⟨G,hv,hW,rfl⟩
 exact⟨Zxp G M::L,LS.of_eq (Zgh G M L),G,hv,hW,rfl⟩
def Zir(w:List Int)(ss:List (List Int))(i:Nat)(x:Tl2)(bl:List Zp):Prop:=
 ∃c1 c2,Vec 3 1 ic (.slice x.a x.n x.c) (Zal (Vg w) (ss.getD i [])).2 c1∧Vec 81 3 ec (.slice x.b x.m x.d) (Zal (Vg w) (ss.getD i [])).1.ev c2∧bl=c1++c2
theorem Zzh{α:Type}{E sz:Nat}{enc:α→List Value}{v:Value}{xs:List α}{c:List Zp}[Tasks](h:Vec E sz enc v xs c):∀p∈c,Zet p.2=true:=by
 rcases h with⟨-,-,-,rfl⟩|⟨b,cap,sp,-,rfl,-⟩
 ·intro p hp;cases hp
 ·intro p hp
  simp only[Z3j]at hp
  subst hp
  rfl
structure Sc where
 a:Option Addr
 ns:List Int
 c:Nat
def se(s:Sc):List Value:=[.slice s.a s.ns.length s.c]
theorem se_len(s:Sc):(se s).length=1:=rfl
theorem se_one(s:Sc):(se s).all Value.oneCell'=true:=rfl
def ScR(L:Za)(a:Option Addr)(xs:List Sc):Prop:=Rd se 1 L a xs∧∀s∈xs,Rd ic 1 L s.a s.ns∧s.ns.length≤s.c∧s.ns.length≤300∧∀v∈s.ns,v≤9223372036854775807
theorem ScR.mono{L L':Za}{a:Option Addr}{xs:List Sc}(h:ScR L a xs)(hl:∀b o,Has L b o→Has L' b o):ScR L' a xs:=⟨h.1.mono hl,fun s hs=>⟨(h.2 s hs).1.mono hl,(h.2 s hs).2⟩⟩
theorem ScR.at{L:Za}{a:Option Addr}{xs:List Sc}(h:Rd se 1 L a xs){i:Nat}(hi:i<xs.length):∃b1 i1 l1 E1 f1,a=some ⟨b1,i1,none⟩∧Has L b1 (.cells ⟨l1⟩ E1 f1)∧l1[i1+(i:Int).toNat]?=some (.slice xs[i].a xs[i].ns.length xs[i].c):=by
 obtain⟨b,i1,l,E,fr,h2,h3,h4⟩:=h.at1 (j:=(i:Int)) (by omega) (by omega)
 exact⟨b,i1,l,E,fr,h2,h3,h4 0 _ rfl⟩
attribute [local irreducible] HW HO HQ HD HC QOp Has Upd Yi Gets Vv W6 Xn Zaf Wa Yz Zcl Xy
section
attribute [local irreducible] Zal Vg Zxp
theorem Ztr(T:Nat)(E:Nat→Addr)(bw b2 cp capw i:Nat)(aw a:Option Addr)(w:List Int)(xs:List Sc)(f1 f2:Nat × Nat)(L:Za)(hE:Ez T E L)(hR:Rd ic 1 L aw w)(hc:Ys w=none)(hS:ScR L a xs)
  (hbw:Has L bw (.cells ⟨[.slice aw w.length capw]⟩ 22 f1))(hbs:Has L b2 (.cells ⟨[.slice a xs.length cp]⟩ 82 f2))(hi:i<xs.length):
  HC prog 112 [iv i,pt bw 0,pt b2 0] L (fun v L'=>∃x bl,v=.tuple ⟨[.agg ⟨tc x⟩,.nilIface]⟩∧Zir w (xs.map (·.ns)) i x bl∧(∀p∈bl,Zet p.2=true)∧L'=bl::L):=by
 obtain⟨b1,i1,l1,E1,f3,rfl,hd,hg⟩:=ScR.at hS.1 hi
 obtain⟨hR2,hci,hl,hs⟩:=hS.2 xs[i] (Z3c _)
 have hsi:(xs.map (·.ns)).getD i []=xs[i].ns:=by simp[hi]
 generalize xs[i]=sc at*
 obtain⟨ai,s,ci⟩:=sc
 simp only at hR2 hci hl hs hsi hg
 obtain⟨c1,c2,-⟩:=Vm hc
 have hM:=new_ok hc
 have hnl:(Vg w).l.length=0:=by unfold Vg;rfl
 have kn0:=fun L hG hR=>Zm9 T E aw capw w L hG hR (by omega)
 simp only[hc]at kn0
 have kn:=fun L hG hR=>HC.shutN (V:=fun u G=>u=.tuple ⟨[pt G.wp 0,.nilIface]⟩) (kn0 L hG hR)
 have kr:=fun G L hE hW hR=>HC.shutC (V:=fun v c=>Vec 3 1 ic v (Zal (Vg w) s).2 c) (Z1k T E G (Vg w) ai ci s L hE hW hM (by omega) hR hci hs)
 have hwi:=(run_ok hM s).1.wi
 have hevl:=hwi.evl
 unfold Zir
 rw[hsi]
 generalize Zal (Vg w) s=R1 at*
 obtain⟨M1,s1⟩:=R1
 simp only at kr hwi hevl ⊢
 have kev:=fun G L hW=>HC.shutR (V:=fun v c=>Vec 81 3 ec v M1.ev c) (Zn4 G M1 L hW (by omega))
 refine uE func112 ntmps112 ?_
 repeat' (first|refine uN ?_|(refine uB ?_;intro b)|(refine uP ?_ ?_<;>intro h<;>try exact zx)|fail)
 refine gc (kn _ ((hE.er [2,3,4,6]).cons _) (hR.cons _)) ?_
 rintro v L' ⟨G,rfl,hW,rfl⟩
 repeat' (first|refine uN ?_|(refine uB ?_;intro b)|(refine uP ?_ ?_<;>intro h<;>try exact zx)|fail)
 refine gc (kr G _ (hE.cons _) hW (hR2.cons _)) ?_
 rintro v L' ⟨x1,hx1,G1,e1,hW1,rfl⟩
 obtain⟨a1,cap1,rfl,-,-⟩:=hx1.rd X0
 rw[← e1]
 repeat' (first|refine uN ?_|(refine uB ?_;intro b)|(refine uP ?_ ?_<;>intro h<;>try exact zx)|fail)
 refine gc (kev G1 _ hW1) ?_
 rintro v L' ⟨x2,hx2,rfl⟩
 obtain⟨a2,cap2,rfl,-,-⟩:=hx2.rd Vt
 repeat' (first|refine uN ?_|(refine uB ?_;intro b)|(refine uP ?_ ?_<;>intro h<;>try exact zx)|fail)
 refine U3 (L':=(x1++x2)::L) (Zf6 uL) ⟨⟨a1,_,cap1,a2,_,cap2⟩,_,rfl,⟨x1,x2,hx1,hx2,rfl⟩,fun p hp=>?_,rfl⟩ (hx:=Xj S (hg:=Ym _))
 rcases Z2f.1 hp with hp|hp
 ·exact Zzh hx1 p hp
 ·exact Zzh hx2 p hp
end
def Ze7(n:Int):List UInt8:=[bt n 0,bt n 1,bt n 2,bt n 3]
theorem u8_bt(n:Int)(k:Nat):u8 (bt n k)=.int .u8 (n / 2 ^ (8*k) % 256):=by
 unfold u8
 rw[Zvd]
theorem u8_bt0(n:Int):u8 (bt n 0)=.int .u8 (n % 256):=by
 rw[u8_bt];simp
theorem Zpo(n:Int)(k:Nat):bt (n / 256 ^ k) 0=bt n k:=by
 unfold bt
 congr 2
 simp only[Z69,Int.pow_zero,Int.ediv_one]
 rw[show (256:Int)=2 ^ 8 from rfl,← Int.pow_mul]
theorem Zpp(n:Int):bt (n % 256) 0=bt n 0:=by
 unfold bt
 simp
def rc(c b k:Nat):Nat:=Zft k (c ^^^ b) ^^^ (b / 2 ^ k)
theorem rc_0(c b:Nat):rc c b 0=c:=by simp[rc,Zft,Nat.xor_assoc]
theorem rc_8{c b:Nat}(h:b<256):rc c b 8=Zft 8 (c ^^^ b):=by
 unfold rc
 rw[show b / 2 ^ 8=0 from Nat.div_eq_of_lt h,Nat.xor_zero]
theorem rc_bit(c b k:Nat):(rc c b k ^^^ (b / 2 ^ k)) % 2=Zft k (c ^^^ b) % 2:=by
 unfold rc
 rw[Nat.xor_assoc,Nat.xor_self,Nat.xor_zero]
theorem xor_half(a b:Nat):(a ^^^ b) / 2=a / 2 ^^^ b / 2:=by
 have:=Nat.shiftRight_xor_distrib (a:=a) (b:=b) (i:=1)
 simpa[Nat.shiftRight_eq_div_pow] using this
theorem rc_succ(c b k:Nat):rc c b (k+1)=if Zft k (c ^^^ b) % 2=1 then rc c b k / 2 ^^^ 3988292384 else rc c b k / 2:=by
 unfold rc
 rw[Zn9,xor_half]
 have e:b / 2 ^ (k+1)=b / 2 ^ k / 2:=by rw[Z6i,← Nat.div_div_eq_div_mul]
 rw[e]
 unfold Zvh
 split
 ·rename_i h
  rw[h,Z5t,Nat.xor_assoc,Nat.xor_assoc,Nat.xor_comm 3988292384]
 ·rename_i h
  have h0:Zft k (c ^^^ b) % 2=0:=by omega
  rw[h0,Z69,Nat.xor_zero]
theorem rc_lt{c b k:Nat}(hc:c<4294967296)(hb:b<256):rc c b k<4294967296:=by
 unfold rc
 refine Z4j (n:=32) (Zpu (Z4j (n:=32) hc (by omega))) ?_
 exact Z6h (Nat.div_le_self _ _) (by omega)
theorem xor_ones{x:Nat}(h:x<4294967296):x ^^^ 4294967295=4294967295-x:=by
 have h1:((BitVec.allOnes 32) ^^^ BitVec.ofNat 32 x).toNat=(~~~ BitVec.ofNat 32 x).toNat:=by rw[BitVec.allOnes_xor]
 rw[BitVec.toNat_xor,BitVec.toNat_not,BitVec.toNat_allOnes,BitVec.toNat_ofNat,Z5h h]at h1
 rw[Nat.xor_comm]
 simpa using h1
theorem W2(n:Int)(L:Za):HC prog 158 [iv n] L (fun v L'=>v=bs [bt n 0]∧L'=L):=by
 have e:([Value.int .u8 (n % 256)]:List Value)=[bt n 0].map u8:=by simp[u8_bt0]
 refine uE func158 ntmps158 ?_
 repeat' (first|refine uN ?_|(refine uB ?_;intro b)|fail)
 rw[e]
 refine X7 (qtx S (Zhc _ _ _ _) rfl) ?_
 repeat' (first|refine uN ?_|(refine uB ?_;intro b)|fail)
 exact Z3 uZ ⟨rfl,rfl⟩
theorem Zxs(n:Int)(L:Za):HC prog 203 [iv n] L (fun v L'=>v=bs (Ze7 n)∧L'=L):=by
 have e:([Value.int .u8 (n % 256),Value.int .u8 (n / 2 ^ Int.toNat 8 % 256),Value.int .u8 (n / 2 ^ Int.toNat 16 % 256),Value.int .u8 (n / 2 ^ Int.toNat 24 % 256)]:List Value)=(Ze7 n).map u8:=by
  simp only[Ze7,Z2s,Z3z,u8_bt]
  simp
 refine uE func203 ntmps203 ?_
 repeat' (first|refine uN ?_|(refine uB ?_;intro b)|fail)
 rw[e]
 refine X7 (qtx S (Zhc _ _ _ _) rfl) ?_
 repeat' (first|refine uN ?_|(refine uB ?_;intro b)|fail)
 exact Z3 uZ ⟨rfl,rfl⟩
theorem Zc5(n:Int)(L:Za)(h0:0≤n)(h1:n<4294967296):HC prog 160 [iv n] L (fun v L'=>v=bs (Ze7 n)∧L'=L):=by
 have e0:bt (n % 256) 0=bt n 0:=Zpp n
 have e1:bt (n / 256 % 256) 0=bt n 1:=by rw[Zpp,← Zpo n 1];rfl
 have e2:bt (n / 65536 % 256) 0=bt n 2:=by rw[Zpp,← Zpo n 2];rfl
 have e3:bt (n / 16777216) 0=bt n 3:=by rw[← Zpo n 3];rfl
 have k0:=fun L=>W2 (n % 256) L
 have k1:=fun L=>W2 (n / 256 % 256) L
 have k2:=fun L=>W2 (n / 65536 % 256) L
 have k3:=fun L=>W2 (n / 16777216) L
 rw[e0]at k0
 rw[e1]at k1
 rw[e2]at k2
 rw[e3]at k3
 have b1:0≤n / 256∧n / 256≤9223372036854775807:=by omega
 have b2:0≤n / 65536∧n / 65536≤9223372036854775807:=by omega
 refine uE func160 ntmps160 ?_
 repeat' (first|refine uN ?_|refine uC (k0 _) ?_|refine uC (k1 _) ?_|refine uC (k2 _) ?_|refine uC (k3 _) ?_|fail)
 exact Z3 uZ ⟨rfl,rfl⟩
theorem U2(n:Int)(many:Nat)(L:Za)(h0:0≤n)(h1:n≤9223372036854775807)(hm:many≤8):HC prog 159 [iv n,iv many] L (fun v L'=>v=bs (Zv n many)∧L'=L):=by
 refine uE func159 ntmps159 ?_
 repeat' (first|refine uN ?_|(refine uP ?_ ?_<;>intro h<;>try exact zx)|fail)
 refine Zm (σ:=Nat) (fun i=>[(0,iv (n / 256 ^ i)),(1,iv many),(5,bs (Zv n i)),(6,iv i)]) (fun _=>L) (fun i=>i≤many) (fun i=>many-i) 0 ?_ (Z15 _) (by omega) ?_
 ·simp only[Int.pow_zero,Int.ediv_one]
  exact uS
 intro i hi
 by_cases hlt:i<many
 ·have hq:0≤n / 256 ^ i∧n / 256 ^ i≤9223372036854775807:=⟨Int.ediv_nonneg h0 (Int.pow_nonneg (by decide)),Int.le_trans (Int.ediv_le_self _ h0) h1⟩
  have kb:=fun L=>W2 (n / 256 ^ i % 256) L
  rw[Zpp,Zpo]at kb
  have hl:([bt n i].length+(Zv n i).length)≤9223372036854775807:=by simp[Zy];omega
  have e:n / 256 ^ i / 256=n / 256 ^ (i+1):=by rw[Int.pow_succ,Int.ediv_ediv_of_nonneg (Int.pow_nonneg (by decide))]
  repeat' (first|refine uN ?_|refine uC (kb _) ?_|(refine uP ?_ ?_<;>intro h<;>try exact zx)|fail)
  rw[e]
  exact Ze (i+1) uS uL (by omega) (by omega)
 ·have hi2:i=many:=by omega
  subst hi2
  repeat' (first|refine uN ?_|(refine uP ?_ ?_<;>intro h<;>try exact zx)|fail)
  exact Z3 uZ ⟨rfl,rfl⟩
theorem Za8(s:List UInt8)(L:Za)(hs:s.length≤1000000):HC prog 161 [bs s] L (fun v L'=>v=iv (Zej s)∧L'=L):=by
 refine uE func161 ntmps161 ?_
 repeat' (first|refine uN ?_|(refine uP ?_ ?_<;>intro h<;>try exact zx)|fail)
 refine Zm (σ:=Nat) (fun i=>[(0,bs s),(3,iv (Ur (s.take i))),(4,iv i)]) (fun _=>L) (fun i=>i≤s.length) (fun i=>s.length-i) 0 uS (Z15 _) (by omega) ?_
 intro i hi
 have hc:=Zx2 (s.take i)
 by_cases hlt:i<s.length
 ·repeat' (first|refine uN ?_|(refine uP ?_ ?_<;>intro h<;>try exact zx)|fail)
  have hb:(s.getD i 0).toNat<256:=(s.getD i 0).toNat_lt
  have e0:(Ur (s.take i):Int)=((rc (Ur (s.take i)) (s.getD i 0).toNat 0:Nat):Int):=by rw[rc_0]
  rw[e0]
  refine Zm (σ:=Nat) (fun k=>[(0,bs s),(3,iv (rc (Ur (s.take i)) (s.getD i 0).toNat k)),(4,iv i),(5,iv k)]) (fun _=>L) (fun k=>k≤8) (fun k=>8-k) 0 uS (Z15 _) (by omega) ?_
  intro k hk
  by_cases hk8:k<8
  ·have hr:=rc_lt (k:=k) hc hb
   have hsu:=rc_succ (Ur (s.take i)) (s.getD i 0).toNat k
   have hbit:=rc_bit (Ur (s.take i)) (s.getD i 0).toNat k
   have hb2:=(s.getD (i:Int).toNat 0).toNat_lt
   have hbk:(s.getD i 0).toNat / 2 ^ k<256:=Z6h (Nat.div_le_self _ _) hb
   have eB:(((s.getD (i:Int).toNat 0).toNat:Nat):Int) / 2 ^ (k:Int).toNat=(((s.getD i 0).toNat / 2 ^ k:Nat):Int):=by simp
   have hxl:rc (Ur (s.take i)) (s.getD i 0).toNat k ^^^ ((s.getD i 0).toNat / 2 ^ k)<4294967296:=Z4j (n:=32) hr (by omega)
   have hx1:rc (Ur (s.take i)) (s.getD i 0).toNat k / 2 ^^^ 3988292384<4294967296:=Z4j (n:=32) (by omega) (by decide)
   repeat' (first|refine uN ?_|(refine uP ?_ ?_<;>intro h<;>try exact zx)|fail)
   rw[eB]
   generalize hr1:rc (Ur (s.take i)) (s.getD i 0).toNat (k+1)=r1 at hsu
   generalize rc (Ur (s.take i)) (s.getD i 0).toNat k=r0 at*
   generalize (s.getD i 0).toNat / 2 ^ k=bk at*
   generalize Zft k (Ur (s.take i) ^^^ (s.getD i 0).toNat)=cN at*
   have hxt:(((r0:Nat):Int).toNat ^^^ ((bk:Nat):Int).toNat)=r0 ^^^ bk:=by simp
   have hxt2:(((r0:Nat):Int) / 2).toNat ^^^ Int.toNat 3988292384=r0 / 2 ^^^ 3988292384:=by
    rw[show (((r0:Nat):Int) / 2).toNat=r0 / 2 by omega]
    rfl
   rw[← hxt]at hxl hbit
   rw[← hxt2]at hx1
   repeat' (first|refine uN ?_|(refine uP ?_ ?_<;>intro h<;>try exact zx)|fail)
   ·rw[Z2d (by omega)]at hsu
    rw[hxt2,← hsu,← hr1]
    exact Ze (k+1) uS uL (by omega) (by omega)
   ·rw[Z16 (by omega)]at hsu
    have e9:((r0:Nat):Int) / 2=((r1:Nat):Int):=by omega
    rw[e9,← hr1]
    exact Ze (k+1) uS uL (by omega) (by omega)
  ·have hk2:k=8:=by omega
   subst hk2
   repeat' (first|refine uN ?_|(refine uP ?_ ?_<;>intro h<;>try exact zx)|fail)
   rw[rc_8 hb]
   have e:Ur (s.take (i+1))=Zft 8 (Ur (s.take i) ^^^ (s.getD i 0).toNat):=by
    rw[Z2n hlt]
    rw[show ∀l b,Ur (l++[b])=Zvi (Ur l) b from fun l b=>by simp[Ur]]
    simp[Zvi,List.getD,hlt]
   rw[← e]
   exact Ze (i+1) uS uL (by omega) (by omega)
 ·have hi2:i=s.length:=by omega
  subst hi2
  repeat' (first|refine uN ?_|(refine uP ?_ ?_<;>intro h<;>try exact zx)|fail)
  refine Z3 uZ ⟨congrArg iv ?_,rfl⟩
  rw[Z4c]at hc ⊢
  have:=xor_ones hc
  unfold Zej
  simp only[Z2w]
  rw[show Int.toNat 4294967295=4294967295 from rfl,this]
def Zfd(b:Bool):Int:=if b then 1 else 0
def Zp1(f:Fr):List UInt8:=Zv f.fr 1++Zv f.to 1++Zv f.dl 1++Zv f.kd 1++Zv f.att 4
def Zp2(f:Fr):List UInt8:=Zv (Zfd f.yes) 1++Zv f.s.ph 1++Zv f.s.pr 4++Zv f.s.att 4
def Zfv(f:Fr):List UInt8:=Zp1 f++Zp2 f
def Ze5(f:Fr):List UInt8:=Zfv f++Ze7 (Zej (Zfv f))
theorem encA_len(f:Fr):(Zp1 f).length=8:=by simp[Zp1,Zy]
theorem encB_len(f:Fr):(Zp2 f).length=10:=by simp[Zp2,Zy]
theorem Zdt(f:Fr):(Zfv f).length=18:=by simp[Zfv,encA_len,encB_len]
theorem Zr6(f:Fr):(Ze5 f).length=22:=by simp[Ze5,Zdt,Ze7]
theorem Zs4(n:Int):(Ze7 n).length=4:=rfl
theorem numB_one(z:Int):Zv z 1=[bt z 0]:=rfl
def cdF:Option Nat→Int
 | none=>0
 | some c=>c
def V0(s:List UInt8)(a b:Nat):Int:=(Zbf ((s.take b).drop a):Nat)
def Zvp(s:List UInt8):Fr:=⟨V0 s 0 1,V0 s 1 2,V0 s 2 3,V0 s 3 4,V0 s 4 8,decide (V0 s 8 9=1),⟨V0 s 9 10,V0 s 10 14,V0 s 14 18⟩⟩
def Zpv(s:List UInt8):Fr × Option Nat:=if s.length≠22 then (Yb,some 1) else if Ze7 (Zej (s.take 18))≠s.drop 18 then (Yb,some 7) else if 1<V0 s 8 9 then (Yb,some 1) else if Wc (Zvp s) then (Yb,some 2) else (Zvp s,none)
section
attribute [local irreducible] Zv Zej Zp1 Zp2
theorem Zt3(f:Fr)(L:Za):HC prog 258 [.agg ⟨fc f⟩] L (fun v L'=>v=iv (cdF (Zfz f))∧L'=L):=by
 unfold Zfz
 refine uE func258 ntmps258 ?_
 by_cases hb:Wc f
 ·rw[Z2d hb]
  repeat' (first|refine uN ?_|(refine uB ?_;intro b)|(refine uP ?_ ?_<;>intro h<;>try exact zx)|fail)
  all_goals first|exact Z3 uZ ⟨rfl,rfl⟩|(exfalso;unfold Wc at hb;omega)
 ·rw[Z16 hb]
  repeat' (first|refine uN ?_|(refine uB ?_;intro b)|(refine uP ?_ ?_<;>intro h<;>try exact zx)|fail)
  all_goals first|exact Z3 uZ ⟨rfl,rfl⟩|(exfalso;unfold Wc at hb;omega)
theorem Zjt(f:Fr)(L:Za)(hb:¬Wc f):HC prog 108 [.agg ⟨fc f⟩] L (fun v L'=>v=bs (Ze5 f)∧L'=L):=by
 have n1:∀z L,HC prog 158 [iv z] L (fun v L'=>v=bs (Zv z 1)∧L'=L):=fun z L=>by rw[numB_one];exact W2 z L
 have n4:∀z L,0≤z→z≤9223372036854775807→HC prog 159 [iv z,iv 4] L (fun v L'=>v=bs (Zv z 4)∧L'=L):=fun z L h0 h1=>U2 z 4 L h0 h1 (by decide)
 have hb2:0≤f.att∧f.att≤9223372036854775807∧0≤f.s.pr∧f.s.pr≤9223372036854775807∧0≤f.s.att∧f.s.att≤9223372036854775807:=by unfold Wc at hb;omega
 obtain⟨u1,u2,u3,u4,u5,u6⟩:=hb2
 have a1:=Zy f.fr 1
 have a2:=Zy f.to 1
 have a3:=Zy f.dl 1
 have a4:=Zy f.kd 1
 have a5:=Zy f.att 4
 have a6:=Zy 1 1
 have a7:=Zy 0 1
 have a8:=Zy f.s.ph 1
 have a9:=Zy f.s.pr 4
 have a10:=Zy f.s.att 4
 have e2:∀y,Zfd f.yes=y→Zfv f=Zv f.fr 1++Zv f.to 1++Zv f.dl 1++Zv f.kd 1++Zv f.att 4++Zv y 1++Zv f.s.ph 1++Zv f.s.pr 4++Zv f.s.att 4:=by
  rintro y rfl
  unfold Zfv Zp1 Zp2
  simp only[Z18]
 have hcl:Zej (Zfv f)<4294967296:=by unfold Zej;omega
 refine uE func108 ntmps108 ?_
 repeat' (first|refine uN ?_|refine uC (n1 _ _) ?_|refine uC (n4 _ _ u1 u2) ?_|refine uC (n4 _ _ u3 u4) ?_|refine uC (n4 _ _ u5 u6) ?_|(refine uB ?_;intro b)|(refine uP ?_ ?_<;>intro h<;>try exact zx)|refine uM ?_|fail)
 ·have hy:Zfd f.yes=1:=by unfold Zfd;rw[h];rfl
  rw[← e2 _ hy]
  have ht:=Zdt f
  have hl:=Zs4 (Zej (Zfv f))
  unfold Ze5
  generalize Zfv f=t at*
  repeat' (first|refine uN ?_|refine X7 (qC (Za8 t _ (by omega))) ?_|refine Qm (qC (Za8 t _ (by omega))) ?_|refine X7 (qC (Zc5 (Zej t) _ (by omega) (by omega))) ?_|refine Qm (qC (Zc5 (Zej t) _ (by omega) (by omega))) ?_|(refine uB ?_;intro b)|(refine uP ?_ ?_<;>intro h<;>try exact zx)|refine uM ?_|fail)
  exact Z3 uZ ⟨rfl,rfl⟩
 ·have hy:Zfd f.yes=0:=by unfold Zfd;rw[h];rfl
  rw[← e2 _ hy]
  have ht:=Zdt f
  have hl:=Zs4 (Zej (Zfv f))
  unfold Ze5
  generalize Zfv f=t at*
  repeat' (first|refine uN ?_|refine X7 (qC (Za8 t _ (by omega))) ?_|refine Qm (qC (Za8 t _ (by omega))) ?_|refine X7 (qC (Zc5 (Zej t) _ (by omega) (by omega))) ?_|refine Qm (qC (Zc5 (Zej t) _ (by omega) (by omega))) ?_|(refine uB ?_;intro b)|(refine uP ?_ ?_<;>intro h<;>try exact zx)|refine uM ?_|fail)
  exact Z3 uZ ⟨rfl,rfl⟩
end
section
attribute [local irreducible] Zv Zej Zp1 Zp2 Ze7 Zbf
theorem Zwc(ba bt:Nat)(at_ n:Nat)(s:List UInt8)(L:Za)(hs:at_+n≤s.length)(hn:n≤7)(hl:s.length≤1000000):
  HC prog 205 [iv n,pt ba 0,pt bt 0] ([(ba,.cells ⟨[iv at_]⟩ 3)]::[(bt,.cells ⟨[bs s]⟩ 9)]::L) (fun v L'=>v=iv (V0 s at_ (at_+n))∧L'=[(ba,.cells ⟨[iv ((at_+n:Nat):Int)]⟩ 3)]::[(bt,.cells ⟨[bs s]⟩ 9)]::L):=by
 have hd:(List.drop ((at_:Int)+n-n).toNat (List.take ((at_:Int)+n).toNat s))=(s.take (at_+n)).drop at_:=by
  rw[show ((at_:Int)+n-n).toNat=at_ by omega,show ((at_:Int)+n).toNat=at_+n by omega]
 have kr:=fun L=>Q8 ((s.take (at_+n)).drop at_) L (by simp;omega)
 rw[← hd]at kr
 refine uE func205 ntmps205 ?_
 repeat' (first|refine uN ?_|refine uC (kr _) ?_|fail)
 rw[hd,show ((at_:Int)+n)=((at_+n:Nat):Int) by omega]
 exact Z3 uZ ⟨rfl,rfl⟩
theorem Zar(ba bt:Nat)(a n m:Nat)(x y z:Int)(s:List UInt8)(L:Za)(hs:m≤s.length)(hn:n≤7)(hl:s.length≤1000000)(hx:x=a)(hy:y=n)(hz:z=m)(hm:a+n=m):
  HC prog 205 [iv y,pt ba 0,pt bt 0] ([(ba,.cells ⟨[iv x]⟩ 3)]::[(bt,.cells ⟨[bs s]⟩ 9)]::L) (fun v L'=>v=iv (V0 s a m)∧L'=[(ba,.cells ⟨[iv z]⟩ 3)]::[(bt,.cells ⟨[bs s]⟩ 9)]::L):=by
 subst hx hy hz hm
 exact Zwc ba bt a n s L hs hn hl
theorem Zpx(T:Nat)(E:Nat→Addr)(s:List UInt8)(L:Za)(hG:Er T E [1,2,7] L)(hl:s.length≤1000000):HC prog 164 [bs s] L (fun v L'=>v=.tuple ⟨[.agg ⟨fc (Zpv s).1⟩,eV T E (Zpv s).2]⟩∧L'=L):=by
 unfold Zpv
 have k1:=fun h L=>Zlk (s.take 18) L h
 have k2:=fun L=>Zxs (Zej (s.take 18)) L
 have r9:∀(l:List Value) (x0 x1 x2 x3 x4 x5 x6 x7 x8:Value),l=[x0,x1,x2,x3,x4,x5,x6,x7,x8]→Gets l 0 [x0,x1,x2,x3,x4,x5,x6,x7,x8]:=fun l _ _ _ _ _ _ _ _ _ h=>h▸Ym _
 refine uE func164 ntmps164 ?_
 by_cases h1:s.length≠22
 ·simp only[Z2d h1]
  repeat' (first|refine uN ?_|(refine uB ?_;intro b)|refine dg S 100 (fun _ _=>?_)|(refine uP ?_ ?_<;>intro h<;>try exact zx)|refine uG ?_|fail)
  exact U3 uZ ⟨rfl,rfl⟩ (hx:=Xj S (hg:=Ym _))
 simp only[Z16 h1]
 have h22:s.length=22:=by omega
 have hl18:(s.take 18).length≤1000000:=by simp;omega
 by_cases h2:Ze7 (Zej (s.take 18))≠s.drop 18
 ·simp only[Z2d h2]
  repeat' (first|refine uN ?_|refine uC (k1 hl18 _) ?_|refine uD (fun _=>k1 hl18 _) ?_|refine uC (k2 _) ?_|refine uD (fun _=>k2 _) ?_|(refine uB ?_;intro b)|refine dg S 100 (fun _ _=>?_)|(refine uP ?_ ?_<;>intro h<;>try exact zx)|refine uM ?_|fail)
  ·exact U3 uZ ⟨rfl,rfl⟩ (hx:=Xj S (hg:=Ym _))
  ·exact absurd h h2
 simp only[Z16 h2]
 rw[Z6n]at h2
 repeat' (first|refine uN ?_|refine uC (k1 hl18 _) ?_|refine uD (fun _=>k1 hl18 _) ?_|refine uC (k2 _) ?_|refine uD (fun _=>k2 _) ?_|(refine uB ?_;intro b)|refine dg S 100 (fun _ _=>?_)|(refine uP ?_ ?_<;>intro h<;>try exact zx)|refine uM ?_|fail)
 ·exact absurd h2 h
 rename_i bS bR hq
 generalize b=bA
 refine Uk (L':=[(bA,.cells ⟨[iv 0]⟩ 3)]::[(bS,.cells ⟨[bs s]⟩ 9)]::[(bR,.cells ⟨fc Yb⟩ 131)]::L) ?_ uL
 have hl:s.length≤1000000:=by omega
 refine gc (Zar bA bS 0 1 1 0 1 1 s _ (by omega) (by decide) hl rfl rfl rfl rfl) ?_
 rintro v L' ⟨rfl,rfl⟩
 repeat' (first|refine uN ?_|(refine uB ?_;intro b)|refine dg S 100 (fun _ _=>?_)|(refine uP ?_ ?_<;>intro h<;>try exact zx)|refine uG ?_|fail)
 refine gc (Zar bA bS 1 1 2 1 1 2 s _ (by omega) (by decide) hl rfl rfl rfl rfl) ?_
 rintro v L' ⟨rfl,rfl⟩
 repeat' (first|refine uN ?_|(refine uB ?_;intro b)|refine dg S 100 (fun _ _=>?_)|(refine uP ?_ ?_<;>intro h<;>try exact zx)|refine uG ?_|fail)
 refine gc (Zar bA bS 2 1 3 2 1 3 s _ (by omega) (by decide) hl rfl rfl rfl rfl) ?_
 rintro v L' ⟨rfl,rfl⟩
 repeat' (first|refine uN ?_|(refine uB ?_;intro b)|refine dg S 100 (fun _ _=>?_)|(refine uP ?_ ?_<;>intro h<;>try exact zx)|refine uG ?_|fail)
 refine gc (Zar bA bS 3 1 4 3 1 4 s _ (by omega) (by decide) hl rfl rfl rfl rfl) ?_
 rintro v L' ⟨rfl,rfl⟩
 repeat' (first|refine uN ?_|(refine uB ?_;intro b)|refine dg S 100 (fun _ _=>?_)|(refine uP ?_ ?_<;>intro h<;>try exact zx)|refine uG ?_|fail)
 refine gc (Zar bA bS 4 4 8 4 4 8 s _ (by omega) (by decide) hl rfl rfl rfl rfl) ?_
 rintro v L' ⟨rfl,rfl⟩
 repeat' (first|refine uN ?_|(refine uB ?_;intro b)|refine dg S 100 (fun _ _=>?_)|(refine uP ?_ ?_<;>intro h<;>try exact zx)|refine uG ?_|fail)
 generalize b=bF
 refine Uk (L':=[(bA,.cells ⟨[iv 8]⟩ 3)]::[(bS,.cells ⟨[bs s]⟩ 9)]::[(bF,.cells ⟨[iv (V0 s 0 1),iv (V0 s 1 2),iv (V0 s 2 3),iv (V0 s 3 4),iv (V0 s 4 8),.bool false,iv 0,iv 0,iv 0]⟩ 131)]::[(bR,.cells ⟨fc Yb⟩ 131)]::L) ?_ uL
 refine gc (Zar bA bS 8 1 9 8 1 9 s _ (by omega) (by decide) hl rfl rfl rfl rfl) ?_
 rintro v L' ⟨rfl,rfl⟩
 repeat' (first|refine uN ?_|(refine uB ?_;intro b)|refine dg S 100 (fun _ _=>?_)|(refine uP ?_ ?_<;>intro h<;>try exact zx)|refine uG ?_|fail)
 refine gc (Zar bA bS 9 1 10 9 1 10 s _ (by omega) (by decide) hl rfl rfl rfl rfl) ?_
 rintro v L' ⟨rfl,rfl⟩
 repeat' (first|refine uN ?_|(refine uB ?_;intro b)|refine dg S 100 (fun _ _=>?_)|(refine uP ?_ ?_<;>intro h<;>try exact zx)|refine uG ?_|fail)
 refine gc (Zar bA bS 10 4 14 10 4 14 s _ (by omega) (by decide) hl rfl rfl rfl rfl) ?_
 rintro v L' ⟨rfl,rfl⟩
 repeat' (first|refine uN ?_|(refine uB ?_;intro b)|refine dg S 100 (fun _ _=>?_)|(refine uP ?_ ?_<;>intro h<;>try exact zx)|refine uG ?_|fail)
 refine gc (Zar bA bS 14 4 18 14 4 18 s _ (by omega) (by decide) hl rfl rfl rfl rfl) ?_
 rintro v L' ⟨rfl,rfl⟩
 have hput:Yi [iv (V0 s 0 1),iv (V0 s 1 2),iv (V0 s 2 3),iv (V0 s 3 4),iv (V0 s 4 8),.bool (decide (V0 s 8 9=1)),iv 0,iv 0,iv 0] (0+6) [iv (V0 s 9 10),iv (V0 s 10 14),iv (V0 s 14 18)] (fc (Zvp s)):=put_st _ _ _ _ _ _ _ _ _ _ _ _
 have kc:=fun L hG=>Zhq T E (Zvp s) L hG
 unfold Zfz at kc
 by_cases h3:1<V0 s 8 9
 ·simp only[Z2d h3]
  repeat' (first|refine uN ?_|(refine uB ?_;intro b)|refine dg S 100 (fun _ _=>?_)|(refine uP ?_ ?_<;>intro h<;>try exact zx)|refine uG ?_|fail)
  exact U3 (L':=L) uL ⟨rfl,rfl⟩ (hx:=Xj S (hg:=Ym _))
 simp only[Z16 h3]
 by_cases h4:Wc (Zvp s)
 ·simp only[Z2d h4]at kc ⊢
  repeat' (first|refine uN ?_|refine uC (kc _ ((((hG.cons _).cons _).cons _).cons _).sub) ?_|refine uD (fun _=>kc _ ((((hG.cons _).cons _).cons _).cons _).sub) ?_|(refine uB ?_;intro b)|refine dg S 100 (fun _ _=>?_)|(refine uP ?_ ?_<;>intro h<;>try exact zx)|refine uM ?_|fail)
  exact U3 (L':=L) uL ⟨rfl,rfl⟩ (hx:=Xj S (hg:=Ym _))
 ·simp only[Z16 h4]at kc ⊢
  repeat' (first|refine uN ?_|refine uC (kc _ ((((hG.cons _).cons _).cons _).cons _).sub) ?_|refine uD (fun _=>kc _ ((((hG.cons _).cons _).cons _).cons _).sub) ?_|(refine uB ?_;intro b)|refine dg S 100 (fun _ _=>?_)|(refine uP ?_ ?_<;>intro h<;>try exact zx)|refine uM ?_|fail)
  exact U3 (L':=L) uL ⟨rfl,rfl⟩ (hx:=Xj S (hg:=Ym _))
end
theorem map_getW{α:Type}{enc:α→Value}{xs:List α}{k:Nat}{x:α}(h:xs[k]?=some x):(xs.map enc)[0+(k:Int).toNat]?=some (enc x):=by simp[h]
theorem fld_same(s:List UInt8)(a:Nat):V0 s a a=0:=by
 unfold V0
 rw[List.drop_eq_nil_of_le (by simp;omega)];rfl
theorem fld_snoc{s:List UInt8}{a k:Nat}(h:a≤k)(hk:k<s.length):V0 s a (k+1)=256*V0 s a k+((s.getD k 0).toNat:Nat):=by
 unfold V0
 rw[Z2n hk,List.drop_append_of_le_length (by simp;omega),Zmk]
 simp[List.getD,hk]
 omega
theorem Zlb{s:List UInt8}{a k:Nat}(h:k≤a+4):0≤V0 s a k∧V0 s a k<4294967296:=by
 unfold V0
 have h1:=Zqv ((s.take k).drop a)
 have h2:((s.take k).drop a).length≤4:=by simp;omega
 have h3:256 ^ ((s.take k).drop a).length≤256 ^ 4:=Z3e (by decide) h2
 omega
section
attribute [local irreducible] Zv Zej Zp1 Zp2 Ze7 Zbf V0
end
def Zai(wk many:Int):Option Nat:=if wk<1 then some 3 else if 16<wk then some 3 else if 100<many then some 2 else none
theorem Zjj(T:Nat)(E:Nat→Addr)(wk many:Int)(L:Za)(hG:Er T E [2,3] L):HC prog 110 [iv wk,iv many] L (fun v L'=>v=eV T E (Zai wk many)∧L'=L):=by
 unfold Zai
 refine uE func110 ntmps110 ?_
 by_cases h1:wk<1
 ·simp only[Z2d h1]
  repeat' (first|refine uN ?_|(refine uP ?_ ?_<;>intro h<;>try exact zx)|fail)
  all_goals (first|omega|exact Z3 uZ ⟨rfl,rfl⟩)
 simp only[Z16 h1]
 by_cases h2:16<wk
 ·simp only[Z2d h2]
  repeat' (first|refine uN ?_|(refine uP ?_ ?_<;>intro h<;>try exact zx)|fail)
  all_goals (first|omega|exact Z3 uZ ⟨rfl,rfl⟩)
 simp only[Z16 h2]
 by_cases h3:100<many
 ·simp only[Z2d h3]
  repeat' (first|refine uN ?_|(refine uP ?_ ?_<;>intro h<;>try exact zx)|fail)
  all_goals (first|omega|exact Z3 uZ ⟨rfl,rfl⟩)
 simp only[Z16 h3]
 repeat' (first|refine uN ?_|(refine uP ?_ ?_<;>intro h<;>try exact zx)|fail)
 all_goals first|omega|exact Z3 uZ ⟨rfl,rfl⟩
def PlaysQ(T:Nat)(E:Nat→Addr)(w:List Int)(xs:List Sc)(wk:Int)(L0:Za)(v:Value)(L':Za):Prop:=
 ∃t':Tk,t'.st=12∧match Zai wk xs.length,Ys w with
  | some c,_|none,some c=>v=.tuple ⟨[Yt,eV T E (some c)]⟩∧L'=[t'.at_]::L0
  | none,none=>∃(bo:Nat) (ts:List Tl2) (B:List Zp),ts.length=xs.length∧(∀i,i<xs.length→∃x bl,ts[i]?=some x∧Zir w (xs.map (·.ns)) i x bl∧∀p∈bl,p∈B)∧v=.tuple ⟨[sl bo 0 xs.length xs.length,.nilIface]⟩∧L'=[t'.at_]::[(bo,.cells ⟨(ts.map tc).flatten⟩ 90)]::B::L0
theorem Zw0{wk m:Int}(hr:Zai wk m=none):1≤wk∧wk≤16∧m≤100:=by
 unfold Zai at hr
 by_cases a1:wk<1
 ·rw[Z2d a1]at hr;cases hr
 by_cases a2:16<wk
 ·rw[Z16 a1,Z2d a2]at hr;cases hr
 by_cases a3:100<m
 ·rw[Z16 a1,Z16 a2,Z2d a3]at hr;cases hr
 omega
section
attribute [local irreducible] Zal Vg Zxp
section
variable[Go.ConcR.Payload]
theorem Zts{t:Tk}{C E0 g:Nat}{o0:Array Value}{f0:Nat × Nat}{v0:Value}{Lr L0:Za}(T:Nat)(E:Nat→Addr)(aw a:Option Addr)(capw cp:Nat)(w:List Int)(xs:List Sc)(wk:Int)(hT:Tasks.T=240)(h:AtC C (.cells o0 E0 f0) Lr)(hl:o0[0]?=some v0)(h12:t.st=12)
  (hro:∀p∈Lr.flatten,Zq1 p.2=true)(hls:LS Lr.flatten L0.flatten)(hE:Ez T E Lr)(hR:Rd ic 1 Lr aw w)(hS:ScR Lr a xs)(hw:w.length≤1000000)(hn:xs.length≤100000000)(hR2:∀i v bl,Tasks.R g i v bl↔∃x,v=Zde i (tc x)∧Zir w (xs.map (·.ns)) i x bl):
  HC prog 54 [.slice aw w.length capw,.slice a xs.length cp,iv wk] ([t.at_]::L0) (PlaysQ T E w xs wk L0):=by
 have up:∀b o,Has Lr b o→Has L0 b o:=fun b o hb=>by unfold Has at *;exact hls.mem hb
 have hE0:=hE.mono up
 have hR0:=hR.mono up
 have hG:=hE0.er [2,3,4,6]
 unfold PlaysQ
 have kr:=fun L hG=>Zjj T E wk xs.length L hG
 have kn:=fun L hG hR=>Zm9 T E aw capw w L hG hR hw
 refine uE func54 ntmps54 ?_
 cases hr:Zai wk xs.length with
 | some c=>
  rw[hr]at kr
  repeat' (first|refine uN ?_|refine X7 (qC (kr _ (by repeat (first|exact hG.sub|apply Errs.cons)))) ?_|(refine uB ?_;intro b)|(refine uP ?_ ?_<;>intro h<;>try exact zx)|fail)
  exact U3 (L':=[t.at_]::L0) uL ⟨t,h12,rfl,rfl⟩
 | none=>
  rw[hr]at kr
  obtain⟨h1,h2,h3⟩:=Zw0 hr
  cases hc:Ys w with
  | some c=>
   rw[hc]at kn
   simp only at kn
   repeat' (first|refine uN ?_|refine X7 (qC (kr _ (by repeat (first|exact hG.sub|apply Errs.cons)))) ?_|(refine uB ?_;intro b)|(refine uP ?_ ?_<;>intro h<;>try exact zx)|fail)
   refine gc (kn _ (by repeat (first|exact hG|apply Errs.cons)) (by repeat (first|exact hR0|apply Rd.cons))) ?_
   rintro v L' ⟨rfl,rfl⟩
   repeat' (first|refine uN ?_|refine X7 (qC (kr _ (by repeat (first|exact hG.sub|apply Errs.cons)))) ?_|(refine uB ?_;intro b)|(refine uP ?_ ?_<;>intro h<;>try exact zx)|fail)
   exact U3 (L':=[t.at_]::L0) uL ⟨t,h12,rfl,rfl⟩
  | none=>
   rw[hc]at kn
   have kn2:=fun L hG hR=>HC.shutN (V:=fun u G=>u=.tuple ⟨[pt G.wp 0,.nilIface]⟩) (kn L hG hR)
   obtain⟨q,rfl⟩:∃q:Nat,wk=q:=⟨wk.toNat,by omega⟩
   repeat' (first|refine uN ?_|refine X7 (qC (kr _ (by repeat (first|exact hG.sub|apply Errs.cons)))) ?_|(refine uB ?_;intro b)|(refine uP ?_ ?_<;>intro h<;>try exact zx)|fail)
   refine gc (kn2 _ (by repeat (first|exact hG|apply Errs.cons)) (by repeat (first|exact hR0|apply Rd.cons))) ?_
   rintro v L' ⟨G,rfl,-,rfl⟩
   repeat' (first|refine uN ?_|refine X7 (qC (kr _ (by repeat (first|exact hG.sub|apply Errs.cons)))) ?_|(refine uB ?_;intro b)|(refine uP ?_ ?_<;>intro h<;>try exact zx)|fail)
   rename_i b1
   have ka:=(Zva (t:=t) (C:=C) (E:=E0) (F:=112) (cap:=[pt b1 0,pt b 0]) (g:=g) (many:=xs.length) (wk:=q) (o:=o0) (f:=f0) (v0:=v0) (Lr:=[(b1,Zr (.cells ⟨[.slice aw w.length capw]⟩ 22 (0,0)))]::[(b,Zr (.cells ⟨[.slice a xs.length cp]⟩ 82 (0,0)))]::Lr) (L0:=[(b1,Zr (.cells ⟨[.slice aw w.length capw]⟩ 22 (0,0)))]::[(b,Zr (.cells ⟨[.slice a xs.length cp]⟩ 82 (0,0)))]::L0) (Zir w (xs.map (·.ns))) hT (h.mono fun p hp=>by simp[hp]) hl h12 (by omega) (by omega) (by omega)
    (fun p hp=>by
     simp only[Z17,Z19,Z2b,Z2h]at hp
     rcases hp with rfl|rfl|hp
     ·exact Wj _ _ _
     ·exact Wj _ _ _
     ·exact hro p hp) (LS.k (LS.k hls))
    (fun i hi X=>Ztr T E b1 b cp capw i aw a w xs _ _ (X++_) (hE.mono fun b o hb=>Za2 (Zb (Zb hb))) (hR.mono fun b o hb=>Za2 (Zb (Zb hb))) hc (hS.mono fun b o hb=>Za2 (Zb (Zb hb))) (Za2 Zk) (Za2 (Zb Zk)) hi) hR2)
   refine gc ((((ka.wk (.ls (show LS _ ([(b1,Zr (.cells ⟨[.slice aw w.length capw]⟩ 22 (0,0)))]::[(b,Zr (.cells ⟨[.slice a xs.length cp]⟩ 82 (0,0)))]::[t.at_]::L0:Za).flatten from uL))).wk (Zpi Xx Z1i)).wk (Zpi (Zeb Xx) Z1i)).wk (.ls uL)) ?_
   rintro v L' ⟨bo,be,t',ts,B,rfl,ht',hx,hall,rfl⟩
   repeat' (first|refine uN ?_|(refine uB ?_;intro b)|(refine uP ?_ ?_<;>intro h<;>try exact zx)|fail)
   exact U3 (L':=[t'.at_]::[(bo,_)]::B::L0) uL ⟨t',ht',bo,ts,B,hx,hall,rfl,rfl⟩
end
end
end Go.HL
