/- Texts laid into one, without what the claim does not use. Conditions: none. -/
import Derived.Test.YtkookaogdkdegacGreatDoorSPM
set_option linter.unusedVariables false
set_option linter.unusedSimpArgs false
set_option linter.unusedSectionVars false
set_option maxHeartbeats 4000000
set_option maxRecDepth 100000
namespace Go.HL
open Go Go.Proofs Go.Proofs.Tryz
variable[Tasks]
theorem put_off{m:Pl}{j:Jn}(h:JI m j)(ho:m.off=false)(deal:Int)(s:St):(X2 m j deal s).2.2=some 6↔(X2 m j deal s).1.off=true:=by
 have hd:j.dead=false:=by rw[h.off,ho]
 rcases (Zkm h deal s).2.2 with⟨-,⟨h1,h2⟩|⟨h1,h2⟩|⟨h1,h2⟩⟩|⟨-,h1,-,h2,-⟩
 ·simp[h1,h2]
 ·have:X2 m j deal s=(m,j,some 2):=by unfold X2;rw[hd];simp[h2]
  rw[this];simp[ho]
 ·rw[h1]
  have:(X2 m j deal s).1=m:=by
   unfold X2 at h1 ⊢
   rw[hd]at h1 ⊢
   simp only[Z2r,Z3h]at h1 ⊢
   split
   ·rfl
   ·split
    ·rfl
    ·rfl
  rw[this,ho];simp
 ·rw[h1,h2];simp
theorem site_off{m:Pl}{j:Jn}(h:JI m j)(ho:m.off=false)(id:Int)(ref:Int→Bool)(f:Fr):(Zu id ref m j f).2.2.2=some 6↔(Zu id ref m j f).1.off=true:=by
 unfold Zu
 split
 ·simp[ho]
 split
 ·simp[ho]
 have:=put_off h ho f.dl (Xg ref f (j.l.getD f.dl.toNat Zl).s).1
 split
 ·rename_i e he
  rw[he]at this
  exact this
 ·rename_i he
  rw[he]at this
  exact this
theorem Z1r{m:Pl}{j:Jn}(h:JI m j)(ho:m.off=false)(id:Int)(ref:Int→Bool)(f:Fr)(hb:¬ Wc f)(hto:f.to=id)(hn:(j.l.getD f.dl.toNat Zl).n+1<4294967296)(hp:¬ Uq f.dl (Xg ref f (j.l.getD f.dl.toNat Zl).s).1):
  (Zu id ref m j f).2.2.2.isNone = !(Zu id ref m j f).1.off:=by
 unfold Zu
 rw[Z16 hb,Z16 (by simpa using hto)]
 rcases (Zkm h f.dl (Xg ref f (j.l.getD f.dl.toNat Zl).s).1).2.2 with⟨-,⟨h1,h2⟩|⟨h1,h2⟩|⟨h1,h2⟩⟩|⟨-,h1,-,h2,-⟩
 ·simp only[h1];rw[h2];rfl
 ·exact absurd h2 hp
 ·omega
 ·simp only[h1];rw[h2];rfl
theorem Zq2{G:RwG}{M:Wm}(h:RwOk G M){s:Int}(h0:0≤s)(h1:s<M.n.length){H:Za}(hH:∀b o,(b,o)∈G.nc→Has H b o):NpIn H G.nv M.n.length s (Yh G s).np:=by
 have hl:=h.ndl
 obtain⟨a,cap,hnv,-,hR⟩:=h.nodes.rd Vh
 have hR2:=(hR []).mono (L':=H) fun b o hb=>hH b o (by simpa[Has] using hb)
 obtain⟨b,i,l,F,fr,rfl,hb,hg⟩:=hR2.at1 (j:=s) h0 (by simp;omega)
 refine⟨⟨b,i,l,F,fr,cap,by rw[hnv,Z26,hl],hb,?_⟩,h0,h1⟩
 have e:(G.nd.map (·.np))[s.toNat]'(by simp;omega)=(Yh G s).np:=by
  rw[Z6w]
  unfold Yh
  rw[List.getD,Z2c (by omega)]
  rfl
 rw[e]at hg
 exact hg 0 _ rfl
theorem rjC_in{g:NrG}{j:Jn}{H:Za}(h:∀p∈Zaj g.r j,Has H p.1 p.2):Has H g.r.rj (.cells ⟨Zhe g.r j.dead⟩ 214)∧Has H g.r.bS (.cells ⟨((j.l.map Ent.s).map sc).flatten++g.r.spS⟩ 43):=
 ⟨h (g.r.rj,_) (by simp[Zaj]),h (g.r.bS,_) (by simp[Zaj])⟩
theorem rsC_in{g:NrG}{s:Int}{ref:Int→Bool}{H:Za}(h:∀p∈Zgd g.rs g.r.rj g.bR s ref,Has H p.1 p.2):∃bR,Has H g.rs (.cells ⟨[iv s,pt g.r.rj 0,bR]⟩ 208):=⟨sl g.bR 0 6 6,h (g.rs,.cells ⟨[iv s,pt g.r.rj 0,sl g.bR 0 6 6]⟩ 208) (by simp[Zgd])⟩
theorem Zq3{g:NrG}{s:Int}{ref:Int→Bool}{j:Jn}{H:Za}(h1:∀p∈Zgd g.rs g.r.rj g.bR s ref,Has H p.1 p.2)(h2:∀p∈Zaj g.r j,Has H p.1 p.2):RsIn H g s j:=⟨rsC_in h1,(rjC_in h2).1,(rjC_in h2).2⟩
def Zu6(G:RwG)(s:Int)(g:NrG)(m:Nd)(ref:Int→Bool)(ev:List Evt)(r:Pl × Jn × List Fr × Option Nat)(L:Za)(v:Value)(L':Za):Prop:=
 ∃left,(r.1.cut≠-1→left=r.1.cut)∧if r.1.off then ∃bl,v=.tuple ⟨[Yt,.bool false]⟩∧L'=[(G.wp,Ui G)]::G.ec::Zfa { g with bl:=bl } ⟨r.1,none,Z8,m.done⟩::Zjx { g with bl:=bl } ⟨r.1,none,Z8,m.done⟩::Zmr g m::W5 g.rp r.1 left::L
 else ∃fv c evv c2,Z0 fv r.2.2.1 c∧Vec 162 3 ec evv (Wh s ⟨r.1,some (r.2.1,ref),m.leads,m.done⟩ ev).2 c2∧v=.tuple ⟨[fv,.bool true]⟩∧
  L'=[(G.wp,Ui { G with ev:=evv,ec:=c2 })]::c2::Zfa g m::Zjx g m::Zmr g ⟨r.1,some (r.2.1,ref),m.leads,(Wh s ⟨r.1,some (r.2.1,ref),m.leads,m.done⟩ ev).1⟩::Zgd g.rs g.r.rj g.bR s ref::Zaj g.r r.2.1::W5 g.rp r.1 left::c::L
attribute [local irreducible] HW HO HQ HD HC QOp Has Upd Yi Gets Vv W6 Xn Zaf Wa Yz Zcl Xy
section
attribute [local irreducible] Zq Zu Zaj Zgd W5
theorem Zqx(G:RwG)(s:Int)(g:NrG)(m:Nd)(f:Fr)(ev:List Evt)(n:Nat)(j:Jn)(ref:Int→Bool)(L:Za)(hp:NpIn L G.nv n s g.np)(hv:Vec 162 3 ec G.ev ev G.ec)(hl:ev.length≤500)
  (hN:NrOk g m)(w:List Int)(sn:Nat)(hI:NdI w sn m)(hs:m.site=some (j,ref))(hj':(Zu s ref m.pl j f).2.1.l.length=6):HC prog 146 [pt G.wp 0,iv s,.agg ⟨fc f⟩] ([(G.wp,Ui G)]::G.ec::Zfa g m::Zjx g m::Zmr g m::Zgd g.rs g.r.rj g.bR s ref::Zaj g.r j::W5 g.rp m.pl g.left::L)
  (Zu6 G s g m ref ev (Zu s ref m.pl j f) L):=by
 have hJ:=(hI.jn hs).ji
 have kh:=fun L=>Zq4 g.rs g.bR s ref g.r m.pl j g.left f L hJ.pl hJ.jn hN.left
 have hso:=site_off hJ (hI.up j ref hs).2 s ref f
 rw[hN.rp]at kh
 generalize Zu s ref m.pl j f=r at kh hj' hso ⊢
 obtain⟨pl',j',fs,er⟩:=r
 simp only at kh hj' hso ⊢
 have kf:=fun L=>Zjg g m L hN.ld
 unfold Zu6
 obtain⟨pl,site,leads,done⟩:=m
 simp only at hs kh kf ⊢
 subst hs
 obtain⟨wp,aw,cw,wl,nv,nc,bv,bc,bl,lv,lc,evv,evc,nd⟩:=G
 simp only at hv hp ⊢
 have hp0:=hp
 obtain⟨⟨nb,i,l,F,fr,cap,rfl,hb,hg⟩,h0,h1⟩:=hp
 cases hoff:pl'.off with
 | true=>
  have her:er=some 6:=hso.2 hoff
  subst her
  simp only[Z4d,Ui,Zfa,Zc6,Zfo,cdN]at kh kf ⊢
  refine uE func146 ntmps146 ?_
  repeat' (first|refine uN ?_|(refine uB ?_;intro b)|(refine uP ?_ ?_<;>intro h<;>try exact zx)|refine uG ?_|fail)
  refine fo 8 ?_
  refine fo 8 ?_
  refine fo 8 ?_
  refine gc (kh _) ?_
  rintro v L' ⟨fv,c,left',rfl,hfv,hl',rfl⟩
  repeat' (first|refine uN ?_|(refine uB ?_;intro b)|(refine uP ?_ ?_<;>intro h<;>try exact zx)|refine uG ?_|fail)
  refine fo 7 ?_
  refine gc (kf _) ?_
  rintro v L' ⟨bl',rfl,rfl⟩
  repeat' (first|refine uN ?_|(refine uB ?_;intro b)|(refine uP ?_ ?_<;>intro h<;>try exact zx)|refine uG ?_|fail)
  exact U3 (L':=[(wp,.cells ⟨[.slice aw wl cw,sl nb i n cap,bv,lv,evv]⟩ 94)]::evc::Zfa { g with bl:=bl' } ⟨pl',none,Z8,done⟩::Zjx { g with bl:=bl' } ⟨pl',none,Z8,done⟩::Zmr g ⟨pl,some (j,ref),leads,done⟩::W5 g.rp pl' left'::L) (by simp only[Zfa,Zc6,Zfo];exact uL) ⟨left',hl',bl',rfl,rfl⟩
 | false=>
  have her:cdN er≠6:=by
   intro h
   have:er=some 6:=by
    cases er with
    | none=>cases h
    | some e=>simp only[cdN]at h;congr 1;omega
   rw[hso.1 this]at hoff;cases hoff
  generalize cdN er=z at her kh
  have hkn:=fun(M1:Nd) (hM:M1=⟨pl',some (j',ref),leads,done⟩) (G1:RwG) (hG1:G1=⟨wp,aw,cw,wl,sl nb i n cap,nc,bv,bc,bl,lv,lc,evv,evc,nd⟩) L (hq:NpIn L (sl nb i n cap) n s g.np) (hN2:Has L g.np (Zc6 g M1)) (hsi:RsIn L g s j')=>Zjk G1 s g M1 ev n L (by subst hG1;exact hv) hl (by subst hG1;exact hq) hN2 (by subst hM;exact hI.done) (by subst hM;intro j2 r2 h2;cases h2;exact⟨hsi,hj'⟩)
  have hkn:=fun L hq hN2 hsi=>hkn _ rfl _ rfl L hq hN2 hsi
  simp only[Z2r,Z3h,Ui,Zfa,Zc6,Zfo]at hkn kh ⊢
  refine uE func146 ntmps146 ?_
  repeat' (first|refine uN ?_|(refine uB ?_;intro b)|(refine uP ?_ ?_<;>intro h<;>try exact zx)|refine uG ?_|fail)
  refine fo 8 ?_
  refine fo 8 ?_
  refine fo 8 ?_
  refine gc (kh _) ?_
  rintro v L' ⟨fv,c,left',rfl,hfv,hl',rfl⟩
  repeat' (first|refine uN ?_|(refine uB ?_;intro b)|(refine uP ?_ ?_<;>intro h<;>try exact zx)|refine uG ?_|fail)
  refine fo 9 ?_
  refine fo 7 ?_
  refine fo 7 ?_
  refine gc (hkn _ ?_ ?_ ?_) ?_
  ·exact(((((((⟨⟨nb,i,l,F,fr,cap,rfl,hb,hg⟩,h0,h1⟩:NpIn L (sl nb i n cap) n s g.np).cons _).cons _).cons _).cons _).cons _).cons _).cons _
  ·exact Zb (Zb (Zb (Zb (Zb Zk))))
  ·exact Zq3 (fun p hp=>Yr hp) (fun p hp=>Zb (Yr hp))
  rintro v L' ⟨evv',c2,hv2,rfl,rfl⟩
  obtain⟨af,capf,rfl,-,-⟩:=hfv.rd Zi
  repeat' (first|refine uN ?_|(refine uB ?_;intro b)|(refine uP ?_ ?_<;>intro h<;>try exact zx)|refine uG ?_|fail)
  exact U3 (L':=[(wp,.cells ⟨[.slice aw wl cw,sl nb i n cap,bv,lv,evv']⟩ 94)]::c2::Zfa g ⟨pl,some (j,ref),leads,done⟩::Zjx g ⟨pl,some (j,ref),leads,done⟩::Zmr g ⟨pl',some (j',ref),leads,(Wh s ⟨pl',some (j',ref),leads,done⟩ ev).1⟩::Zgd g.rs g.r.rj g.bR s ref::Zaj g.r j'::W5 g.rp pl' left'::c::L) (by simp only[Zfa,Zc6,Zfo];exact uL) ⟨left',hl',_,c,evv',c2,hfv,hv2,rfl,rfl⟩
def Zlh(s:Int)(m:Nd)(f:Fr):Bool:=match m.site with
 | none=>false
 | some (j,ref) => !(Zu s ref m.pl j f).1.off
theorem NrOk.fall{g:NrG}{m:Nd}(h:NrOk g m)(pl:Pl)(dn:List Bool)(bl:Nat){left:Int}(hl:pl.cut≠-1→left=pl.cut):NrOk { g with bl:=bl,left:=left } ⟨pl,none,Z8,dn⟩:=by
 refine⟨h.ld,h.rp,hl,fun d x hx=>?_⟩
 simp only[Z8,Z24]at hx
 split at hx<;>cases hx
theorem NrOk.same{g:NrG}{m:Nd}(h:NrOk g m)(st:Option (Jn × (Int→Bool)))(pl:Pl)(dn:List Bool){left:Int}(hl:pl.cut≠-1→left=pl.cut):NrOk { g with left:=left } ⟨pl,st,m.leads,dn⟩:=⟨h.ld,h.rp,hl,h.lok⟩
theorem Zy3{aw:Option Addr}{cw:Nat}{g:NrG}(h:g.ld.length=6){pl:Pl}{st:Option (Jn × (Int→Bool))}{dn:List Bool}:Ze9 aw cw g ⟨pl,st,Z8,dn⟩=[]:=by
 unfold Ze9 Z8
 obtain⟨a,b,c,d,e,f,hh⟩:∃a b c d e f,g.ld=[a,b,c,d,e,f]:=by
  match g.ld,h with
  | [a,b,c,d,e,f],_=>exact⟨_,_,_,_,_,_,rfl⟩
 rw[hh];rfl
theorem Zhd(G:RwG)(M:Wm)(s:Int)(f:Fr)(L:Za)(h:RwOk G M)(hI:WI M)(h0:0≤s)(h1:s<M.n.length)(hs:(Zd M s).site≠none):
  HC prog 146 [pt G.wp 0,iv s,.agg ⟨fc f⟩] (X3 G M++L) (fun v L'=>∃c,(∃fv,Z0 fv (Y4 M s f).2.1 c∧v=.tuple ⟨[fv,.bool (Zlh s (Zd M s) f)]⟩)∧Znf G (Y4 M s f).1 (c::L) L'):=by
 refine HC.nodeR h h0 h1 ?_
 have hN:=Q3 h h0 h1
 have hi:=Uh hI h0 h1
 have hnp:=Zq2 h h0 h1 (H:=Ze9 G.aw G.cw (Yh G s) (Zd M s)::G.lc::G.nc::G.bc::V2 G.aw G.cw G.nd M.n 0 s.toNat::L) fun b o hb=>Zb (Zb (Yr hb))
 unfold Y4 Vu Zlh
 generalize V2 G.aw G.cw G.nd M.n 0 s.toNat=X at*
 generalize hm:Zd M s=m at*
 generalize hg:Yh G s=g at*
 obtain⟨pl,site,leads,done⟩:=m
 cases site with
 | none=>exact absurd rfl hs
 | some q=>
  obtain⟨j,ref⟩:=q
  have hsj:=Zhl (id:=s) (ref:=ref) (hi.jn rfl) f
  have hj6:(Zu s ref pl j f).2.1.l.length=6:=hsj.1.ji.jn.len
  have kh:=Zqx G s g ⟨pl,some (j,ref),leads,done⟩ f M.ev M.n.length j ref (Ze9 G.aw G.cw g ⟨pl,some (j,ref),leads,done⟩::G.lc::G.nc::G.bc::X::L) hnp h.ev hI.evl hN M.w s.toNat hi rfl hj6
  refine HC.post kh ?_
  intro v L' hq
  unfold Zu6 at hq
  obtain⟨left',hl',hq⟩:=hq
  simp only at hq hl' ⊢
  generalize Zu s ref pl j f=r at*
  split at hq
  ·rename_i hoff
   obtain⟨bl',rfl,rfl⟩:=hq
   have e:=Zy3 (aw:=G.aw) (cw:=G.cw) (g:={ g with bl:=bl',left:=left' }) hN.ld (pl:=r.1) (st:=none) (dn:=done)
   refine⟨Vj G s { g with bl:=bl',left:=left' } ⟨r.1,none,Z8,done⟩ X ([]::L),?_,[],?_,G,M,{ g with bl:=bl',left:=left' },⟨r.1,none,Z8,done⟩,h,rfl,rfl,.refl G,hN.fall _ _ _ hl',rfl,?_,rfl⟩
   ·simp only[Vj,Zny,Znx,e]
    exact uL
   ·rw[Z2d hoff,hoff]
    exact⟨_,Zt,rfl⟩
   ·rw[Z2d hoff];rfl
  ·rename_i hoff
   obtain⟨fv,c,evv,c2,hfv,hev,rfl,rfl⟩:=hq
   have hoff2:r.1.off=false:=by simpa using hoff
   refine⟨Vj { G with ev:=evv,ec:=c2 } s { g with left:=left' } ⟨r.1,some (r.2.1,ref),leads,(Wh s ⟨r.1,some (r.2.1,ref),leads,done⟩ M.ev).1⟩ X (c::L),?_,c,?_,{ G with ev:=evv,ec:=c2 },{ M with ev:=(Wh s ⟨r.1,some (r.2.1,ref),leads,done⟩ M.ev).2 },{ g with left:=left' },⟨r.1,some (r.2.1,ref),leads,(Wh s ⟨r.1,some (r.2.1,ref),leads,done⟩ M.ev).1⟩,h.setE hev,rfl,rfl,⟨rfl,rfl,rfl,rfl,rfl⟩,hN.same _ _ _ hl',rfl,?_,rfl⟩
   ·simp only[Vj,Zny,Znx]
    exact uL
   ·rw[Z16 hoff,hoff2]
    exact⟨_,hfv,rfl⟩
   ·rw[Z16 hoff];rfl
end
theorem Zzx(xs:List Fr)(k:Nat):xs.take k++xs.drop (k+1)=xs.eraseIdx k:=(List.eraseIdx_eq_take_drop_succ ..).symm
section
attribute [local irreducible] Zq Zu Zaj Zgd W5
theorem Qc(G:RwG)(xs ys:List Fr)(a:Option Addr)(cap:Nat)(L:Za)(hv:Z0 G.lv xs G.lc)(hR:Rd fc 9 L a ys)(hl:xs.length+ys.length≤100000000):
  HC prog 141 [pt G.wp 0,.slice a ys.length cap] ([(G.wp,Ui G)]::G.lc::L) (fun v L'=>∃lv lc,Z0 lv (xs++ys) lc∧v=.tuple ⟨[]⟩∧L'=[(G.wp,Ui { G with lv:=lv,lc:=lc })]::lc::L):=by
 obtain⟨wp,aw,cw,wl,nv,nc,bv,bc,bl,lv,lc,evv,evc,nd⟩:=G
 simp only[Ui]at hv ⊢
 refine uE func141 ntmps141 ?_
 repeat' (first|refine uN ?_|fail)
 refine fo 1 ?_
 refine Z1z S hv (Rd.cons (hR.cons _) _) Zi W8 ?_ (hby:=by omega) (hmax:=by omega)
 intro v' c' hv'
 obtain⟨a9,cap9,rfl,-,-⟩:=hv'.rd Zi
 repeat' (first|refine uN ?_|fail)
 exact spn (L':=[(wp,.cells ⟨[.slice aw wl cw,nv,bv,.slice a9 (xs++ys).length cap9,evv]⟩ 94)]::c'::L) uL ⟨_,c',hv',rfl,rfl⟩
theorem Zjl(G:RwG)(xs:List Fr)(k:Int)(L:Za)(hv:Z0 G.lv xs G.lc)(hl:xs.length≤99999999):
  HC prog 151 [pt G.wp 0,iv k] ([(G.wp,Ui G)]::G.lc::L) (fun v L'=>if k<0∨xs.length≤k then v=.tuple ⟨[.agg ⟨fc Yb⟩,.bool false]⟩∧L'=[(G.wp,Ui G)]::G.lc::L
   else ∃lv lc,Z0 lv (xs.eraseIdx k.toNat) lc∧v=.tuple ⟨[.agg ⟨fc (xs.getD k.toNat Yb)⟩,.bool true]⟩∧L'=[(G.wp,Ui { G with lv:=lv,lc:=lc })]::lc::L):=by
 obtain⟨wp,aw,cw,wl,nv,nc,bv,bc,bl,lv,lc,evv,evc,nd⟩:=G
 simp only[Ui]at hv ⊢
 obtain⟨a5,cap5,rfl,hcap,hR5⟩:=hv.rd Zi
 by_cases h:k<0∨xs.length≤k
 ·simp only[Z2d h]
  refine uE func151 ntmps151 ?_
  repeat' (first|refine uN ?_|(refine uB ?_;intro b)|(refine uP ?_ ?_<;>intro h<;>try exact zx)|fail)
  all_goals exact U3 (L':=[(wp,.cells ⟨[.slice aw wl cw,nv,bv,.slice a5 xs.length cap5,evv]⟩ 94)]::lc::L) uL ⟨rfl,rfl⟩ (hx:=Xj S (hg:=Ym _))
 ·simp only[Z16 h]
  obtain⟨b9,i9,l,F,fr,rfl,hb,hg⟩:=(hR5 L).at (j:=k) (by omega) (by omega)
  have hgk:xs[k.toNat]'(by omega)=xs.getD k.toNat Yb:=by
   rw[List.getD,Z2c (by omega)];rfl
  have hlt:k.toNat<xs.length:=by omega
  have e1:(xs.take k.toNat).length=k.toNat:=by rw[Z3g];omega
  rw[hgk]at hg
  have hT:=fun L=>(hR5 L).take (n:=k.toNat)
  have hD:=fun L=>(hR5 L).drop (l:=(k+1).toNat) hcap
  have eD:xs.take k.toNat++xs.drop (k+1).toNat=xs.eraseIdx k.toNat:=by rw[← Zzx];congr 2;omega
  have eL:(xs.drop (k+1).toNat).length=xs.length-(k+1).toNat:=Z3l ..
  generalize xs.getD k.toNat Yb=f at*
  refine uE func151 ntmps151 ?_
  repeat' (first|refine uN ?_|(refine uB ?_;intro b)|(refine uP ?_ ?_<;>intro h<;>try exact zx)|fail)
  refine Zka ?_
  refine Z1z S (xs:=[]) Zt (ys:=xs.take k.toNat) (a:=some ⟨b9,i9,none⟩) (cap:=cap5) (Rd.cons ((hT []).mono fun x o hb=>?_) _) Zi W8 ?_ (hy:=by rw[e1];exact rfl) (hby:=by simp only[Z23];omega) (hmax:=by simp only[Z23];omega)
  ·exact Zb (Zb (Zb (Yr (by simpa[Has] using hb))))
  intro v' c' hv'
  simp only[Z2b]at hv'
  obtain⟨a6,cap6,rfl,-,-⟩:=hv'.rd Zi
  repeat' (first|refine uN ?_|(refine uB ?_;intro b)|(refine uP ?_ ?_<;>intro h<;>try exact zx)|fail)
  refine Z1z S hv' (ys:=xs.drop (k+1).toNat) (a:=cut (some ⟨b9,i9,none⟩) cap5 (k+1).toNat 9) (cap:=cap5-(k+1).toNat) (Rd.cons ((hD []).mono fun x o hb=>?_) _) Zi W8 ?_ (hy:=by rw[eL];exact rfl) (hby:=by rw[e1,eL];omega) (hmax:=by rw[e1,eL];omega)
  ·exact Zb (Zb (Zb (Yr (by simpa[Has] using hb))))
  intro v' c'' hv''
  rw[eD]at hv''
  obtain⟨a7,cap7,rfl,-,-⟩:=hv''.rd Zi
  repeat' (first|refine uN ?_|(refine uB ?_;intro b)|(refine uP ?_ ?_<;>intro h<;>try exact zx)|fail)
  exact U3 (L':=[(wp,.cells ⟨[.slice aw wl cw,nv,bv,.slice a7 (xs.eraseIdx k.toNat).length cap7,evv]⟩ 94)]::c''::L) uL ⟨_,c'',hv'',rfl,rfl⟩ (hx:=Xj S (hg:=Ym _))
theorem Zn0(G:RwG)(xs:List Fr)(k:Int)(L:Za)(hv:Z0 G.lv xs G.lc)(hl:xs.length≤99999999):
  HC prog 89 [pt G.wp 0,iv k] ([(G.wp,Ui G)]::G.lc::L) (fun v L'=>if k<0∨xs.length≤k then v=iv 4∧L'=[(G.wp,Ui G)]::G.lc::L
   else ∃lv lc,Z0 lv (xs.take (k+1).toNat++xs.getD k.toNat Yb::xs.drop (k+1).toNat) lc∧v=iv 0∧L'=[(G.wp,Ui { G with lv:=lv,lc:=lc })]::lc::L):=by
 obtain⟨wp,aw,cw,wl,nv,nc,bv,bc,bl,lv,lc,evv,evc,nd⟩:=G
 simp only[Ui]at hv ⊢
 obtain⟨a5,cap5,rfl,hcap,hR5⟩:=hv.rd Zi
 by_cases h:k<0∨xs.length≤k
 ·simp only[Z2d h]
  refine uE func89 ntmps89 ?_
  repeat' (first|refine uN ?_|(refine uB ?_;intro b)|(refine uP ?_ ?_<;>intro h<;>try exact zx)|fail)
  all_goals exact Z3 uL ⟨rfl,rfl⟩
 ·simp only[Z16 h]
  obtain⟨b9,i9,l,F,fr,rfl,hb,hg⟩:=(hR5 L).at (j:=k) (by omega) (by omega)
  have hgk:xs[k.toNat]'(by omega)=xs.getD k.toNat Yb:=by
   rw[List.getD,Z2c (by omega)];rfl
  have hb5:∀H,Has (lc::H) b9 (.cells ⟨l⟩ F fr)→True:=fun _ _=>trivial
  have hlt:k.toNat<xs.length:=by omega
  have e1:(xs.take (k+1).toNat).length=(k+1).toNat:=by rw[Z3g];omega
  rw[hgk]at hg
  have hT:=fun L=>(hR5 L).take (n:=(k+1).toNat)
  have hD:=fun L=>(hR5 L).drop (l:=(k+1).toNat) hcap
  have eL:(xs.drop (k+1).toNat).length=xs.length-(k+1).toNat:=Z3l ..
  have eA:∀f:Fr,(xs.take (k+1).toNat++[f])++xs.drop (k+1).toNat=xs.take (k+1).toNat++f::xs.drop (k+1).toNat:=fun f=>by simp
  have eB:∀f:Fr,(xs.take (k+1).toNat++[f]).length=(k+1).toNat+1:=fun f=>by simp only[Z2i,e1,List.length_singleton]
  generalize xs.getD k.toNat Yb=f at*
  refine uE func89 ntmps89 ?_
  repeat' (first|refine uN ?_|(refine uB ?_;intro b)|(refine uP ?_ ?_<;>intro h<;>try exact zx)|fail)
  refine Zka ?_
  refine Z1z S (xs:=[]) Zt (ys:=xs.take (k+1).toNat) (a:=some ⟨b9,i9,none⟩) (cap:=cap5) (Rd.cons ((hT []).mono fun x o hb=>?_) _) Zi W8 ?_ (hy:=by rw[e1];exact rfl) (hby:=by simp only[Z23];omega) (hmax:=by simp only[Z23];omega)
  ·exact Zb (Yr (by simpa[Has] using hb))
  intro v' c' hv'
  simp only[Z2b]at hv'
  obtain⟨a6,cap6,rfl,-,-⟩:=hv'.rd Zi
  repeat' (first|refine uN ?_|(refine uB ?_;intro b)|(refine uP ?_ ?_<;>intro h<;>try exact zx)|fail)
  refine fo 1 ?_
  refine Zfc S f hv' Zi W8 ?_ (hby:=by rw[e1];omega) (hmax:=by rw[e1];omega)
  intro v'' c'' hv''
  obtain⟨a7,cap7,rfl,-,-⟩:=hv''.rd Zi
  repeat' (first|refine uN ?_|(refine uB ?_;intro b)|(refine uP ?_ ?_<;>intro h<;>try exact zx)|fail)
  refine Z1z S hv'' (ys:=xs.drop (k+1).toNat) (a:=cut (some ⟨b9,i9,none⟩) cap5 (k+1).toNat 9) (cap:=cap5-(k+1).toNat) (Rd.cons ((hD []).mono fun x o hb=>?_) _) Zi W8 ?_ (hy:=by rw[eL];exact rfl) (hby:=by rw[eB,eL];omega) (hmax:=by rw[eB,eL];omega)
  ·exact Zb (Zb (Yr (by simpa[Has] using hb)))
  intro v3 c3 hv3
  rw[eA]at hv3
  obtain⟨a8,cap8,rfl,-,-⟩:=hv3.rd Zi
  repeat' (first|refine uN ?_|(refine uB ?_;intro b)|(refine uP ?_ ?_<;>intro h<;>try exact zx)|fail)
  exact Z3 (L':=[(wp,.cells ⟨[.slice aw wl cw,nv,bv,.slice a8 (xs.take (k+1).toNat++f::xs.drop (k+1).toNat).length cap8,evv]⟩ 94)]::c3::L) uL ⟨_,c3,hv3,rfl,rfl⟩
theorem Zkp{G G':RwG}{M':Wm}{L:Za}(h:RwOk G' M')(e:RwS G G'):Znf G M' L (X3 G' M'++L):=⟨G',e,h,rfl⟩
theorem Zmt{G:RwG}{lv:Value}{lc:List Zp}:RwS G { G with lv:=lv,lc:=lc }:=⟨rfl,rfl,rfl,rfl,rfl⟩
theorem Zt2(G:RwG)(M:Wm)(k:Int)(L:Za)(hW:RwOk G M)(hl:M.l.length≤99999999):
  HC prog 87 [pt G.wp 0,iv k] (X3 G M++L) (fun v L'=>v=iv (cdN (Zdg M k).2)∧Znf G (Zdg M k).1 L L'):=by
 have hself:=V9 hW L
 have kt:=fun L=>Zjl G M.l k L hW.l hl
 unfold Zdg Zu4
 by_cases h:k<0∨M.l.length≤k
 ·simp only[Z2d h,cdN]at kt ⊢
  simp only[X3,Zfq,Z19,Z2b]at hself ⊢
  refine uE func87 ntmps87 ?_
  repeat' (first|refine uN ?_|(refine uB ?_;intro b)|(refine uP ?_ ?_<;>intro h<;>try exact zx)|fail)
  refine fo 2 ?_
  refine fo 1 ?_
  refine gc (kt _) ?_
  rintro v L' ⟨rfl,rfl⟩
  repeat' (first|refine uN ?_|(refine uB ?_;intro b)|(refine uP ?_ ?_<;>intro h<;>try exact zx)|fail)
  exact Z3 uL ⟨rfl,hself⟩
 ·simp only[Z16 h,cdN]at kt ⊢
  have key:∀lv lc,Z0 lv (M.l.eraseIdx k.toNat) lc→Znf G { M with l:=M.l.eraseIdx k.toNat } L (X3 { G with lv:=lv,lc:=lc } { M with l:=M.l.eraseIdx k.toNat }++L):=fun lv lc hv=>Zkp (hW.setL hv) Zmt
  simp only[X3,Zfq,Z19,Z2b]at key ⊢
  refine uE func87 ntmps87 ?_
  repeat' (first|refine uN ?_|(refine uB ?_;intro b)|(refine uP ?_ ?_<;>intro h<;>try exact zx)|fail)
  refine fo 2 ?_
  refine fo 1 ?_
  refine gc (kt _) ?_
  rintro v L' ⟨lv,lc,hv,rfl,rfl⟩
  repeat' (first|refine uN ?_|(refine uB ?_;intro b)|(refine uP ?_ ?_<;>intro h<;>try exact zx)|fail)
  exact Z3 uL ⟨rfl,key lv lc hv⟩
theorem Zq6(G:RwG)(M:Wm)(k:Int)(L:Za)(hW:RwOk G M)(hl:M.l.length≤99999999):
  HC prog 89 [pt G.wp 0,iv k] (X3 G M++L) (fun v L'=>v=iv (cdN (Zam M k).2)∧Znf G (Zam M k).1 L L'):=by
 have hself:=V9 hW L
 have kt:=fun L=>Zn0 G M.l k L hW.l hl
 have e:LS ([(G.wp,Ui G)]::G.lc::G.ec::G.nc::G.bc::Zba G.aw G.cw G.nd M.n 0::L:Za).flatten (X3 G M++L).flatten:=by
  simp only[X3,Zfq,Z19,Z2b]
  exact uL
 refine HC.post (HC.sp (kt _) e) ?_
 unfold Zam Zu4
 by_cases h:k<0∨M.l.length≤k
 ·simp only[Z2d h,cdN]
  rintro v L' ⟨rfl,rfl⟩
  refine⟨X3 G M++L,?_,rfl,hself⟩
  simp only[X3,Zfq,Z19,Z2b]
  exact uL
 ·simp only[Z16 h,cdN]
  rintro v L' ⟨lv,lc,hv,rfl,rfl⟩
  refine⟨X3 { G with lv:=lv,lc:=lc } { M with l:=M.l.take (k+1).toNat++M.l.getD k.toNat Yb::M.l.drop (k+1).toNat }++L,?_,rfl,Zkp (hW.setL hv) Zmt⟩
  simp only[X3,Zfq,Z19,Z2b]
  exact uL
end
theorem Z1l{G:RwG}{s:Int}{g:NrG}{m:Nd}{X:List Zp}{L:Za}:Has (Vj G s g m X L) g.np (Zc6 g m):=by
 unfold Vj Zfa
 exact Zb (Zb Zk)
theorem Zms{G:RwG}{M:Wm}(s:Int)(hW:RwOk G M)(L:Za):HC prog 139 [pt G.wp 0,iv s] (X3 G M++L) (fun v L'=>v=iv (cdN (Zd9 M s))∧L'=X3 G M++L):=
 Zo2 G M s _ (Zhi hW L) hW.ndl fun hn=>Zq8 hW.ndl (Za6 hn).1 (Za6 hn).2 L
theorem Zw7{G:RwG}{M:Wm}{s:Int}(hW:RwOk G M)(hu:Zd9 M s=none)(X:List Zp)(L:Za):HC prog 139 [pt G.wp 0,iv s] (Vj G s (Yh G s) (Zd M s) X L) (fun v L'=>v=iv 0∧L'=Vj G s (Yh G s) (Zd M s) X L):=by
 have:=Zo2 G M s _ (rwOp_in hW s (Yh G s) (Zd M s) X L) hW.ndl fun hn=>Z1l
 rw[hu]at this
 exact this
theorem Zo1{G:RwG}{M:Wm}(hW:RwOk G M){s:Int}(h0:0≤s)(h1:s<M.n.length):∃b i l F fr cap,G.nv=sl b i M.n.length cap∧(∀H,Has (G.nc::H) b (.cells ⟨l⟩ F fr))∧l[i+s.toNat]?=some (pt (Yh G s).np 0):=by
 obtain⟨⟨b,i,l,F,fr,cap,e,hb,hg⟩,-,-⟩:=Zq2 hW h0 h1 (H:=G.nc::[]) fun b o hb=>Yr hb
 refine⟨b,i,l,F,fr,cap,e,fun H=>?_,hg⟩
 simp only[Has,Z17,Z22,Z2p]at hb
 exact Yr hb
section
attribute [local irreducible] Zq Zu Zaj W5
theorem Znz(G:RwG)(M:Wm)(s d:Int)(L:Za)(hW:RwOk G M)(hM:WI M):
  HC prog 82 [pt G.wp 0,iv s,iv d] (X3 G M++L) (fun v L'=>v=iv (cdN (Up M s d).2)∧Znf G (Up M s d).1 L L'):=by
 unfold Up
 have hself:=V9 hW L
 by_cases hd:d<0∨6≤d
 ·simp only[Z2d hd,cdN]
  generalize X3 G M++L=H at*
  refine uE func82 ntmps82 ?_
  repeat' (first|refine uN ?_|(refine uP ?_ ?_<;>intro h<;>try exact zx)|fail)
  all_goals exact Us rfl ⟨rfl,hself⟩
 simp only[Z16 hd]
 rcases Zbw (M:=M) (s:=s)with⟨e,he⟩|⟨he,hn,h0,h1,j,ref,hs⟩
 ·have ku:=Zms s hW L
  have h1:1≤e:=by
   unfold Zd9 at he
   split at he
   ·rename_i x hx
    unfold Vc at hx
    split at hx<;>cases hx
    cases he;decide
   ·split at he<;>cases he
    decide
  generalize X3 G M++L=H at*
  simp only[he,cdN]at ku ⊢
  refine uE func82 ntmps82 ?_
  repeat' (first|refine uN ?_|refine uC (ku) ?_|(refine uP ?_ ?_<;>intro h<;>try exact zx)|fail)
  exact Us rfl ⟨rfl,hself⟩
 ·simp only[he,cdN]
  refine HC.nodeR0 hW h0 h1 ?_
  have ku:=Zw7 (X:=V2 G.aw G.cw G.nd M.n 0 s.toNat) hW he L
  have hok:=Q3 hW h0 h1
  have hni:=Uh hM h0 h1
  obtain⟨nb,i,l,F,fr,cap,hnv,hb,hg⟩:=Zo1 hW h0 h1
  have hb2:=hb (G.bc::V2 G.aw G.cw G.nd M.n 0 s.toNat::L)
  generalize V2 G.aw G.cw G.nd M.n 0 s.toNat=X at*
  generalize Zd M s=m at*
  generalize Yh G s=g at*
  obtain⟨pl,site,leads,done⟩:=m
  simp only at hs
  subst hs
  obtain⟨dn,rfl⟩:=Z2t (show 0≤d by omega)
  have hd6:dn<6:=by omega
  have gP:=refL_put (ref:=ref) hd6
  simp only[Vj,Zfa,Zc6,Zfo,Zny,Znx,Ui,hnv,Zgd]at ku ⊢
  refine uE func82 ntmps82 ?_
  repeat' (first|refine uN ?_|refine uC (ku) ?_|(refine uP ?_ ?_<;>intro h<;>try exact zx)|fail)
  refine Z3 (L':=Vj G s g (Q2 ⟨pl,some (j,ref),leads,done⟩ dn) X L) ?_ ⟨rfl,G,M,g,Q2 ⟨pl,some (j,ref),leads,done⟩ dn,hW,rfl,rfl,.refl G,⟨hok.ld,hok.rp,hok.left,hok.lok⟩,rfl,rfl,rfl⟩
  simp only[Vj,Zfa,Zc6,Zfo,Zny,Znx,Ui,hnv,Zgd,Q2]
  exact uL
theorem Zkt{M:Wm}{s:Int}{e:Nat}(he:Zd9 M s=some e):1≤e:=by
 unfold Zd9 at he
 split at he
 ·rename_i x hx
  unfold Vc at hx
  split at hx<;>cases hx
  cases he;decide
 ·split at he<;>cases he
  decide
theorem Zug(G:RwG)(M:Wm)(s n:Int)(L:Za)(hW:RwOk G M)(hM:WI M):
  HC prog 92 [pt G.wp 0,iv s,iv n] (X3 G M++L) (fun v L'=>v=iv (cdN (Zjr M s n).2)∧Znf G (Zjr M s n).1 L L'):=by
 unfold Zjr
 have hself:=V9 hW L
 by_cases hd:n<0
 ·simp only[Z2d hd,cdN]
  generalize X3 G M++L=H at*
  refine uE func92 ntmps92 ?_
  repeat' (first|refine uN ?_|(refine uP ?_ ?_<;>intro h<;>try exact zx)|fail)
  all_goals exact Us rfl ⟨rfl,hself⟩
 simp only[Z16 hd]
 rcases Zbw (M:=M) (s:=s)with⟨e,he⟩|⟨he,hn,h0,h1,j,ref,hs⟩
 ·have ku:=Zms s hW L
  have h1:=Zkt he
  generalize X3 G M++L=H at*
  simp only[he,cdN]at ku ⊢
  refine uE func92 ntmps92 ?_
  repeat' (first|refine uN ?_|refine uC (ku) ?_|(refine uP ?_ ?_<;>intro h<;>try exact zx)|fail)
  exact Us rfl ⟨rfl,hself⟩
 ·simp only[he,cdN]
  refine HC.nodeR0 hW h0 h1 ?_
  have ku:=Zw7 (X:=V2 G.aw G.cw G.nd M.n 0 s.toNat) hW he L
  have hok:=Q3 hW h0 h1
  have hni:=Uh hM h0 h1
  obtain⟨nb,i,l,F,fr,cap,hnv,hb,hg⟩:=Zo1 hW h0 h1
  have hb2:=hb (G.bc::V2 G.aw G.cw G.nd M.n 0 s.toNat::L)
  generalize V2 G.aw G.cw G.nd M.n 0 s.toNat=X at*
  generalize hmm:Zd M s=m at*
  generalize Yh G s=g at*
  obtain⟨pl,site,leads,done⟩:=m
  simp only at hs
  subst hs
  have hoff:pl.off=false:=(hni.up j ref rfl).2
  have kr:=fun L=>Zww g.rp pl g.left n L
  simp only[Z16 hd,hoff,Z2r,Z3h]at kr
  simp only[Vj,Zfa,Zc6,Zfo,Zny,Znx,Ui,hnv]at ku ⊢
  refine uE func92 ntmps92 ?_
  repeat' (first|refine uN ?_|refine uC (ku) ?_|(refine uP ?_ ?_<;>intro h<;>try exact zx)|fail)
  refine fo 7 ?_
  refine gc (kr _) ?_
  rintro v L' ⟨rfl,rfl⟩
  repeat' (first|refine uN ?_|refine uC (ku) ?_|(refine uP ?_ ?_<;>intro h<;>try exact zx)|fail)
  refine Z3 (L':=Vj G s { g with left:=n } ⟨{ pl with cut:=n },some (j,ref),leads,done⟩ X L) ?_ ⟨rfl,G,M,{ g with left:=n },⟨{ pl with cut:=n },some (j,ref),leads,done⟩,hW,rfl,rfl,.refl G,hok.same _ _ _ (fun _=>rfl),rfl,rfl,rfl⟩
  have e1:Ze9 G.aw G.cw { g with left:=n } ⟨{ pl with cut:=n },some (j,ref),leads,done⟩=Ze9 G.aw G.cw g ⟨pl,some (j,ref),leads,done⟩:=rfl
  have e2:Zjx { g with left:=n } ⟨{ pl with cut:=n },some (j,ref),leads,done⟩=Zjx g ⟨pl,some (j,ref),leads,done⟩:=rfl
  have e3:Zmr { g with left:=n } ⟨{ pl with cut:=n },some (j,ref),leads,done⟩=Zmr g ⟨pl,some (j,ref),leads,done⟩:=rfl
  simp only[Vj,Zfa,Zc6,Zfo,Zny,Znx,Ui,hnv]
  rw[e1,e2,e3]
  simp only[hoff]
  exact uL
theorem Zt1(G:RwG)(M:Wm)(s:Int)(L:Za)(hW:RwOk G M)(hM:WI M):
  HC prog 85 [pt G.wp 0,iv s] (X3 G M++L) (fun v L'=>v=iv (cdN (Zdf M s).2)∧Znf G (Zdf M s).1 L L'):=by
 unfold Zdf
 have hself:=V9 hW L
 rcases Zbw (M:=M) (s:=s)with⟨e,he⟩|⟨he,hn,h0,h1,j,ref,hs⟩
 ·have ku:=Zms s hW L
  have h1:=Zkt he
  generalize X3 G M++L=H at*
  simp only[he,cdN]at ku ⊢
  refine uE func85 ntmps85 ?_
  repeat' (first|refine uN ?_|refine uC (ku) ?_|(refine uP ?_ ?_<;>intro h<;>try exact zx)|fail)
  exact Us rfl ⟨rfl,hself⟩
 ·simp only[he,cdN]
  refine HC.nodeR0 hW h0 h1 ?_
  have ku:=Zw7 (X:=V2 G.aw G.cw G.nd M.n 0 s.toNat) hW he L
  have hok:=Q3 hW h0 h1
  have hni:=Uh hM h0 h1
  obtain⟨nb,i,l,F,fr,cap,hnv,hb,hg⟩:=Zo1 hW h0 h1
  have hb2:=hb (G.bc::V2 G.aw G.cw G.nd M.n 0 s.toNat::L)
  generalize V2 G.aw G.cw G.nd M.n 0 s.toNat=X at*
  generalize hmm:Zd M s=m at*
  generalize Yh G s=g at*
  obtain⟨pl,site,leads,done⟩:=m
  simp only at hs
  subst hs
  have kf:=fun L=>Zjg g ⟨pl,some (j,ref),leads,done⟩ L hok.ld
  have e0:W5 g.rp pl g.left=[(g.rp,.cells ⟨[bs pl.b,.bool pl.off,iv g.left,.bool (decide (pl.cut≠-1))]⟩ 144)]:=by unfold W5;rfl
  have e1:W5 g.rp { pl with off:=true } g.left=[(g.rp,.cells ⟨[bs pl.b,.bool true,iv g.left,.bool (decide (pl.cut≠-1))]⟩ 144)]:=by unfold W5;rfl
  simp only[Vj,Zfa,Zc6,Zfo,Zny,Znx,Ui,hnv,e0]at ku kf ⊢
  refine uE func85 ntmps85 ?_
  repeat' (first|refine uN ?_|refine uC (ku) ?_|(refine uP ?_ ?_<;>intro h<;>try exact zx)|fail)
  refine fo 2 ?_
  refine gc (kf _) ?_
  rintro v L' ⟨bl,rfl,rfl⟩
  repeat' (first|refine uN ?_|refine uC (ku) ?_|(refine uP ?_ ?_<;>intro h<;>try exact zx)|fail)
  have e:=Zy3 (aw:=G.aw) (cw:=G.cw) (g:={ g with bl:=bl }) hok.ld (pl:={ pl with off:=true }) (st:=none) (dn:=done)
  refine Z3 (L':=Vj G s { g with bl:=bl } (Zk8 ⟨pl,some (j,ref),leads,done⟩) X L) ?_ ⟨rfl,G,M,{ g with bl:=bl },Zk8 ⟨pl,some (j,ref),leads,done⟩,hW,rfl,rfl,.refl G,hok.fall _ _ _ hok.left,rfl,rfl,rfl⟩
  have e3:Zmr { g with bl:=bl } ⟨{ pl with off:=true },none,Z8,done⟩=Zmr g ⟨pl,some (j,ref),leads,done⟩:=rfl
  have e4:Zjx { g with bl:=bl } ⟨{ pl with off:=true },none,Z8,done⟩=Zjx { g with bl:=bl } ⟨pl,none,Z8,done⟩:=rfl
  simp only[Vj,Zfa,Zc6,Zfo,Zny,Znx,Ui,hnv,Zk8,e,e1]
  rw[e3,e4]
  exact uL
theorem Zw8(G:RwG)(M:Wm)(s:Int)(L:Za)(hW:RwOk G M)(hM:WI M):
  HC prog 86 [pt G.wp 0,iv s] (X3 G M++L) (fun v L'=>v=iv (cdN (Zzd M s).2)∧Znf G (Zzd M s).1 L L'):=by
 unfold Zzd
 have hself:=V9 hW L
 rcases Qu (M:=M) s with he|⟨he,h0,h1⟩
 ·have hI:=Zhi hW L
  obtain⟨a,cap,hnv,hR⟩:=hI.ns
  have hw:=hI.wp
  unfold Ui at hw
  rw[hnv]at hw
  have hs:s<0∨M.n.length≤s:=by
   unfold Vc at he
   split at he
   ·assumption
   ·cases he
  generalize X3 G M++L=H at*
  simp only[he,cdN]
  refine uE func86 ntmps86 ?_
  repeat' (first|refine uN ?_|(refine uP ?_ ?_<;>intro h<;>try exact zx)|fail)
  all_goals exact Us rfl ⟨rfl,hself⟩
 ·simp only[he]
  cases hs:(Zd M s).site with
  | some q=>
   have hI:=Zhi hW L
   obtain⟨b9,i,l,F,fr,cap,hnv,hb,hg⟩:=Zuf hI hW.ndl h0 h1
   have hw:=hI.wp
   unfold Ui at hw
   rw[hnv]at hw
   have hN:=Zq8 hW.ndl h0 h1 L
   unfold Zc6 at hN
   rw[hs]at hN
   obtain⟨q1,q2⟩:=q
   simp only[Zfo]at hN
   generalize X3 G M++L=H at*
   simp only[Z5r,Z4d,cdN]
   refine uE func86 ntmps86 ?_
   repeat' (first|refine uN ?_|(refine uP ?_ ?_<;>intro h<;>try exact zx)|fail)
   exact Us rfl ⟨rfl,hself⟩
  | none=>
   simp only[Z5q,Z2r,Z3h,cdN]
   refine HC.nodeR0 hW h0 h1 ?_
   have hok:=Q3 hW h0 h1
   have hni:=Uh hM h0 h1
   obtain⟨nb,i,l,F,fr,cap,hnv,hb,hg⟩:=Zo1 hW h0 h1
   have hb2:=hb (G.bc::V2 G.aw G.cw G.nd M.n 0 s.toNat::L)
   have hnp:=fun H hH=>Zq2 hW h0 h1 (H:=H) hH
   generalize V2 G.aw G.cw G.nd M.n 0 s.toNat=X at*
   generalize hmm:Zd M s=m at*
   generalize Yh G s=g at*
   obtain⟨pl,site,leads,done⟩:=m
   simp only at hs
   subst hs
   have hpl:pl.b.length=512:=hni.b512
   have kon:=fun L=>Z1j g.rp pl g.left L
   have kne:=fun L=>Zd4 s g.rp { pl with off:=false,cut:=-1 } g.left L (by simp only;omega) (by simp only;omega)
   have e0:∀pl',∃q,W5 g.rp pl' g.left=[(g.rp,q)]:=fun pl'=>⟨_,by unfold W5;rfl⟩
   simp only[Vj,Zfa,Zc6,Zfo,Zny,Znx,Ui,hnv]
   refine uE func86 ntmps86 ?_
   repeat' (first|refine uN ?_|(refine uP ?_ ?_<;>intro h<;>try exact zx)|fail)
   refine fo 7 ?_
   refine gc (kon _) ?_
   rintro v L' ⟨rfl,rfl⟩
   repeat' (first|refine uN ?_|(refine uP ?_ ?_<;>intro h<;>try exact zx)|fail)
   refine gc (kne _) ?_
   rintro v L' ⟨rs,bR,r,rfl,hr,rfl⟩
   repeat' (first|refine uN ?_|(refine uP ?_ ?_<;>intro h<;>try exact zx)|fail)
   refine fo 7 ?_
   refine fo 5 ?_
   refine fo 5 ?_
   have kn:=fun L hq hN2 (hsi:∀(j2:Jn) (r2:Int→Bool),some (j2,r2)=some ((⟨Zq pl.b,false⟩:Jn),(fun _=>false:Int→Bool))→RsIn L { g with rs:=rs,bR:=bR,r:=r } s j2)=>Zjk G s { g with rs:=rs,bR:=bR,r:=r } (U8 ⟨pl,none,leads,done⟩) M.ev M.n.length L hW.ev hM.evl hq hN2 hni.done (fun j2 r2 h2=>⟨hsi j2 r2 h2.symm,by cases h2;exact Zh7 _⟩)
   simp only[Ui,Zmr,Zc6,Zfo,U8,hnv]at kn ⊢
   refine gc (kn _ ?_ ?_ ?_) ?_
   ·refine⟨⟨nb,i,l,F,fr,cap,rfl,?_,hg⟩,h0,h1⟩
    exact Zb (Zb (Zb (Zb (Zb (Zb (Zb (Zb (Zb (hb _)))))))))
   ·exact Zb (Zb (Zb Zk))
   ·intro j2 r2 h2
    cases h2
    exact Zq3 (g:={ g with rs:=rs,bR:=bR,r:=r }) (ref:=fun _=>false) (fun p hp=>Yr hp) (fun p hp=>Zb (Yr hp))
   rintro v L' ⟨evv,c,hv,rfl,rfl⟩
   repeat' (first|refine uN ?_|(refine uP ?_ ?_<;>intro h<;>try exact zx)|fail)
   refine Z3 (L':=Vj { G with ev:=evv,ec:=c } s { g with rs:=rs,bR:=bR,r:=r } { U8 ⟨pl,none,leads,done⟩with done:=(Wh s (U8 ⟨pl,none,leads,done⟩) M.ev).1 } X L) ?_ ⟨rfl,{ G with ev:=evv,ec:=c },{ M with ev:=(Wh s (U8 ⟨pl,none,leads,done⟩) M.ev).2 },{ g with rs:=rs,bR:=bR,r:=r },{ U8 ⟨pl,none,leads,done⟩with done:=(Wh s (U8 ⟨pl,none,leads,done⟩) M.ev).1 },hW.setE hv,rfl,rfl,⟨rfl,rfl,rfl,rfl,rfl⟩,⟨hok.ld,hr,fun h=>absurd rfl h,hok.lok⟩,rfl,rfl,rfl⟩
   have e1:∀dn,Ze9 G.aw G.cw { g with rs:=rs,bR:=bR,r:=r } ⟨{ pl with off:=false,cut:=-1 },some (⟨Zq pl.b,false⟩,fun _=>false),leads,dn⟩=Ze9 G.aw G.cw g ⟨pl,none,leads,done⟩:=fun _=>rfl
   have e2:∀dn,Zjx { g with rs:=rs,bR:=bR,r:=r } ⟨{ pl with off:=false,cut:=-1 },some (⟨Zq pl.b,false⟩,fun _=>false),leads,dn⟩=Zjx g ⟨pl,none,leads,done⟩:=fun _=>rfl
   simp only[Vj,Zfa,Zc6,Zfo,Zny,Znx,Ui,Zmr,hnv,U8,e1,e2]
   exact uL
end
def Zb1(a b:Int)(l:List (Int × Int)):List (Int × Int):=l.filter fun p=>decide (p≠(a,b)) && decide (p≠(b,a))
def Zg4(a b:Int)(whole:Bool)(l:List (Int × Int)):List (Int × Int):=if (!whole && decide (a≠b))=true then Zb1 a b l++[(a,b)] else Zb1 a b l
theorem fltB_mem{a b:Int}{l:List (Int × Int)}{p:Int × Int}:p∈Zb1 a b l↔p∈l∧p≠(a,b)∧p≠(b,a):=by
 unfold Zb1
 rw[Z3s]
 simp
theorem lnkB_mem{a b:Int}{whole:Bool}{l:List (Int × Int)}{p:Int × Int}:p∈Zg4 a b whole l↔(p∈l∧p≠(a,b)∧p≠(b,a))∨((!whole && decide (a≠b))=true∧p=(a,b)):=by
 unfold Zg4
 split
 ·rename_i h
  rw[Z2f,fltB_mem,Z3j]
  simp only[h,true_and]
 ·rename_i h
  rw[fltB_mem]
  simp only[h,Z2r,false_and,Z6j]
theorem br_link{l:List (Int × Int)}{f:Int × Int→Bool}(h:BrOk l f)(a b:Int)(whole:Bool):BrOk (Zg4 a b whole l) (fun x=>if x=(min a b,max a b) then (!whole && decide (a≠b)) else f x):=by
 intro c d
 simp only
 by_cases hs:(c=a∧d=b)∨(c=b∧d=a)
 ·have e:(min c d,max c d)=(min a b,max a b):=by
   refine Prod.ext ?_ ?_<;>simp only<;>omega
  rw[Z2d e]
  cases hv:(!whole && decide (a≠b)) with
  | true=>
   symm
   refine Z29 ?_
   rcases hs with⟨rfl,rfl⟩|⟨rfl,rfl⟩
   ·exact .inl (lnkB_mem.2 (.inr ⟨hv,rfl⟩))
   ·exact .inr (lnkB_mem.2 (.inr ⟨hv,rfl⟩))
  | false=>
   symm
   refine Z3t ?_
   rintro(k|k)
   ·rcases lnkB_mem.1 k with⟨-,h1,h2⟩|⟨h1,-⟩
    ·rcases hs with⟨rfl,rfl⟩|⟨rfl,rfl⟩
     ·exact h1 rfl
     ·exact h2 rfl
    ·rw[hv]at h1;cases h1
   ·rcases lnkB_mem.1 k with⟨-,h1,h2⟩|⟨h1,-⟩
    ·rcases hs with⟨rfl,rfl⟩|⟨rfl,rfl⟩
     ·exact h2 rfl
     ·exact h1 rfl
    ·rw[hv]at h1;cases h1
 ·have e:(min c d,max c d)≠(min a b,max a b):=by
   intro e
   have e1:=congrArg Prod.fst e
   have e2:=congrArg Prod.snd e
   simp only at e1 e2
   omega
  rw[Z16 e,h c d]
  have hne:∀x y:Int,¬ (x=a∧y=b)→(x,y)≠(a,b):=fun x y k q=>k ⟨congrArg Prod.fst q,congrArg Prod.snd q⟩
  have hne2:∀x y:Int,¬ (x=b∧y=a)→(x,y)≠(b,a):=fun x y k q=>k ⟨congrArg Prod.fst q,congrArg Prod.snd q⟩
  have key:∀x y:Int,¬ (x=a∧y=b)→¬ (x=b∧y=a)→((x,y)∈Zg4 a b whole l↔(x,y)∈l):=fun x y k1 k2=>by
   rw[lnkB_mem]
   constructor
   ·rintro(⟨k,-⟩|⟨-,k⟩)
    ·exact k
    ·exact absurd k (hne x y k1)
   ·exact fun k=>.inl ⟨k,hne x y k1,hne2 x y k2⟩
  have k1:=key c d (fun q=>hs (.inl q)) (fun q=>hs (.inr q))
  have k2:=key d c (fun q=>hs (.inr ⟨q.2,q.1⟩)) (fun q=>hs (.inl ⟨q.2,q.1⟩))
  simp only[k1,k2]
theorem Zv5{a b:Int}{whole:Bool}{l:List (Int × Int)}(h:l.Nodup):(Zg4 a b whole l).Nodup:=by
 have hf:(Zb1 a b l).Nodup:=h.sublist List.filter_sublist
 unfold Zg4
 split
 ·refine Z4o.2 ⟨hf,by simp,fun x hx y hy=>?_⟩
  rw[Z3j]at hy
  subst hy
  exact(fltB_mem.1 hx).2.1
 ·exact hf
theorem Zsh{a b:Int}{l:List (Int × Int)}:(Zb1 a b l).length≤l.length:=List.length_filter_le ..
section
attribute [local irreducible] Zq Zu Zaj W5
theorem Zqz(G:RwG)(n:Nat)(a z:Int)(whole:Bool)(L:Za)(an:Option Addr)(capn:Nat)(hnv:G.nv=.slice an n capn)(hv:Vec 133 2 bc2 G.bv G.bl G.bc)(hbl:G.bl.length≤49)(h:¬ (a<0∨n≤a∨z<0∨n≤z)):
  HC prog 90 [pt G.wp 0,iv a,iv z,.bool whole] ([(G.wp,Ui G)]::G.bc::L) (fun v L'=>∃bv bc,Vec 133 2 bc2 bv (Zg4 a z whole G.bl) bc∧v=iv 0∧L'=[(G.wp,Ui { G with bv:=bv,bc:=bc,bl:=Zg4 a z whole G.bl })]::bc::L):=by
 obtain⟨wp,aw,cw,wl,nv,nc,bv,bc,bl,lv,lc,evv,evc,nd⟩:=G
 simp only[Ui]at hv hnv hbl ⊢
 subst hnv
 obtain⟨ab,cap,rfl,hcap,hR⟩:=hv.rd Zeh
 have hfl:=fun k=>Zsh (a:=a) (b:=z) (l:=bl.take k)
 have hl9:(Zb1 a z bl).length≤49:=Z68 Zsh hbl
 refine uE func90 ntmps90 ?_
 repeat' (first|refine uN ?_|(refine uB ?_;intro b)|(refine uP ?_ ?_<;>intro h<;>try exact zx)|fail)
 refine Zkb ?_
 refine Zm (σ:=Nat × Value × List Zp) (fun q=>[(0,pt wp 0),(1,iv a),(2,iv z),(3,.bool whole),(9,q.2.1),(10,iv q.1)]) (fun q=>q.2.2::[(wp,.cells ⟨[.slice aw wl cw,.slice an n capn,.slice ab bl.length cap,lv,evv]⟩ 94)]::bc::L) (fun q=>q.1≤bl.length∧Vec 133 2 bc2 q.2.1 (Zb1 a z (bl.take q.1)) q.2.2) (fun q=>bl.length-q.1) (0,Yt,[]) uS (Z15 _) ⟨by simp,Zt⟩ ?_
 rintro⟨k,v,c⟩ ⟨hk,hv'⟩
 simp only at hk hv' ⊢
 have hfk:=hfl k
 have hlen:(bl.take k).length≤49:=by rw[Z3g];omega
 by_cases hlt:k<bl.length
 ·obtain⟨bh,ih,lh,Eh,frh,hah,hbh,hgh⟩:=(hR L).at (j:=(k:Int)) (by omega) (by omega)
  subst hah
  have hg0:Gets lh (ih+(k:Int).toNat*2) (bc2 bl[k]):=hgh
  have hs:bl.take (k+1)=bl.take k++[bl[k]]:=Z2n hlt
  generalize bl[k]=x at*
  obtain⟨x1,x2⟩:=x
  have hbh2:Has (c::[(wp,.cells ⟨[.slice aw wl cw,.slice an n capn,.slice (some ⟨bh,ih,none⟩) bl.length cap,lv,evv]⟩ 94)]::bc::L) bh (.cells ⟨lh⟩ Eh frh):=Zb (Zb hbh)
  by_cases h1:(x1,x2)=(a,z)∨(x1,x2)=(z,a)
  ·have e2:Zb1 a z (bl.take (k+1))=Zb1 a z (bl.take k):=by
    rw[hs];unfold Zb1
    rw[Z6b,List.filter_cons_of_neg (by rcases h1 with h1|h1<;>simp[h1]),List.filter_nil,Z2p]
   rcases h1 with h1|h1
   ·cases h1
    repeat' (first|refine uN ?_|(refine uB ?_;intro b)|(refine uP ?_ ?_<;>intro h<;>try exact zx)|fail)
    all_goals refine Ze (k+1,v,c) uS uL ⟨by simp only;omega,by simp only;rw[e2];exact hv'⟩ (by simp only;omega)
   ·cases h1
    repeat' (first|refine uN ?_|(refine uB ?_;intro b)|(refine uP ?_ ?_<;>intro h<;>try exact zx)|fail)
    all_goals refine Ze (k+1,v,c) uS uL ⟨by simp only;omega,by simp only;rw[e2];exact hv'⟩ (by simp only;omega)
  ·have h1a:¬ (x1=a∧x2=z):=fun q=>h1 (.inl (Prod.ext q.1 q.2))
   have h1b:¬ (x1=z∧x2=a):=fun q=>h1 (.inr (Prod.ext q.1 q.2))
   have e2:Zb1 a z (bl.take (k+1))=Zb1 a z (bl.take k)++[(x1,x2)]:=by
    rw[hs];unfold Zb1
    rw[Z6b,List.filter_cons_of_pos (by rw[Z27];exact⟨Z29 (fun q=>h1 (.inl q)),Z29 (fun q=>h1 (.inr q))⟩),List.filter_nil]
   repeat' (first|refine uN ?_|(refine uB ?_;intro b)|(refine uP ?_ ?_<;>intro h<;>try exact zx)|fail)
   all_goals try exact absurd (by assumption:x1=a∧x2=z) h1a
   all_goals try exact absurd (by assumption:x1=z∧x2=a) h1b
   all_goals refine fo 1 ?_
   all_goals refine Zfc S (x1,x2) hv' Zeh Zxy ?_
   all_goals intro v' c' hv2
   all_goals repeat' (first|refine uN ?_|(refine uB ?_;intro b)|(refine uP ?_ ?_<;>intro h<;>try exact zx)|fail)
   all_goals refine Ze (k+1,v',c') uS uL ⟨by simp only;omega,by simp only;rw[e2];exact hv2⟩ (by simp only;omega)
 ·obtain rfl:k=bl.length:=by omega
  rw[Z4c]at hv'
  obtain⟨a7,cap7,rfl,-,-⟩:=hv'.rd Zeh
  cases whole with
  | true=>
   have e3:Zg4 a z true bl=Zb1 a z bl:=rfl
   rw[e3]
   repeat' (first|refine uN ?_|(refine uB ?_;intro b)|(refine uP ?_ ?_<;>intro h<;>try exact zx)|fail)
   all_goals exact Z3 (L':=[(wp,.cells ⟨[.slice aw wl cw,.slice an n capn,.slice a7 (Zb1 a z bl).length cap7,lv,evv]⟩ 94)]::c::L) uL ⟨_,c,hv',rfl,rfl⟩
  | false=>
   by_cases hab:a=z
   ·have e3:Zg4 a z false bl=Zb1 a z bl:=by unfold Zg4;rw[Z16 (by simp[hab])]
    rw[e3]
    repeat' (first|refine uN ?_|(refine uB ?_;intro b)|(refine uP ?_ ?_<;>intro h<;>try exact zx)|fail)
    all_goals exact Z3 (L':=[(wp,.cells ⟨[.slice aw wl cw,.slice an n capn,.slice a7 (Zb1 a z bl).length cap7,lv,evv]⟩ 94)]::c::L) uL ⟨_,c,hv',rfl,rfl⟩
   ·have e3:Zg4 a z false bl=Zb1 a z bl++[(a,z)]:=by unfold Zg4;rw[Z2d (by simp[hab])]
    rw[e3]
    repeat' (first|refine uN ?_|(refine uB ?_;intro b)|(refine uP ?_ ?_<;>intro h<;>try exact zx)|fail)
    all_goals refine fo 1 ?_
    all_goals refine Zfc S (a,z) hv' Zeh Zxy ?_
    all_goals intro v' c' hv2
    all_goals obtain⟨a8,cap8,rfl,-,-⟩:=hv2.rd Zeh
    all_goals repeat' (first|refine uN ?_|(refine uB ?_;intro b)|(refine uP ?_ ?_<;>intro h<;>try exact zx)|fail)
    all_goals exact Z3 (L':=[(wp,.cells ⟨[.slice aw wl cw,.slice an n capn,.slice a8 (Zb1 a z bl++[(a,z)]).length cap8,lv,evv]⟩ 94)]::c'::L) uL ⟨_,c',hv2,rfl,rfl⟩
theorem Zt6(G:RwG)(M:Wm)(a z:Int)(whole:Bool)(L:Za)(hW:RwOk G M)(hM:WI M):
  HC prog 90 [pt G.wp 0,iv a,iv z,.bool whole] (X3 G M++L) (fun v L'=>v=iv (cdN (Zdh M a z whole).2)∧Znf G (Zdh M a z whole).1 L L'):=by
 unfold Zdh
 have hself:=V9 hW L
 have hI:=Zhi hW L
 obtain⟨an,capn,hnv,hnr⟩:=hI.ns
 by_cases h:a<0∨M.n.length≤a∨z<0∨M.n.length≤z
 ·simp only[Z2d h,cdN]
  have hw:=hI.wp
  unfold Ui at hw
  rw[hnv]at hw
  generalize X3 G M++L=H at*
  refine uE func90 ntmps90 ?_
  repeat' (first|refine uN ?_|(refine uB ?_;intro b)|(refine uP ?_ ?_<;>intro h<;>try exact zx)|fail)
  all_goals exact Us rfl ⟨rfl,hself⟩
 ·simp only[Z16 h,cdN]
  have hn:=hM.wn
  have hwl:=hM.wl
  have e:LS ([(G.wp,Ui G)]::G.bc::G.ec::G.lc::G.nc::Zba G.aw G.cw G.nd M.n 0::L:Za).flatten (X3 G M++L).flatten:=by
   simp only[X3,Zfq,Z19,Z2b]
   exact uL
  refine HC.post (HC.sp (Zqz G M.n.length a z whole _ an capn hnv hW.br hW.bll h) e) ?_
  rintro v L' ⟨bv,bc,hv,rfl,rfl⟩
  refine⟨X3 { G with bv:=bv,bc:=bc,bl:=Zg4 a z whole G.bl } { M with br:=fun x=>if x=(min a z,max a z) then (!whole && decide (a≠z)) else M.br x }++L,?_,rfl,Zkp (hW.setB hv (br_link hW.bro a z whole) (Zv5 hW.bln) ?_) ⟨rfl,rfl,rfl,rfl,rfl⟩⟩
  ·simp only[X3,Zfq,Z19,Z2b]
   exact uL
  ·intro p hp
   rcases lnkB_mem.1 hp with⟨k,-⟩|⟨-,rfl⟩
   ·exact hW.blr p k
   ·exact prs_in (by omega) (by omega) (by omega) (by omega)
theorem Zqy{g:NrG}{m:Nd}{d:Nat}{o:Option Ld}{q:Nat × Value × List Zp}(h1:m.leads[d]?=some o)(h2:g.ld[d]?=some q):(Qy g m)[d]?=some (Zh4 o q):=by
 unfold Qy
 rw[Z5a,h1,h2]
theorem rlBs_mem{aw:Option Addr}{cw:Nat}{g:NrG}{m:Nd}{d:Nat}{x:Ld}{q:Nat × Value × List Zp}(h1:m.leads[d]?=some (some x))(h2:g.ld[d]?=some q){y:Zp}(hy:y∈Qg q.1 aw cw q.2.1 q.2.2 x):y∈Ze9 aw cw g m:=by
 unfold Ze9
 refine Z6x.2 ⟨Qg q.1 aw cw q.2.1 q.2.2 x,?_,hy⟩
 refine Z67.2 ⟨d,?_⟩
 rw[Z5a,h1,h2]
 rfl
end
end Go.HL
