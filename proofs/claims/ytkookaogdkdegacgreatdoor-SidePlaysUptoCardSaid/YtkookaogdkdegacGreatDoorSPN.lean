/- Texts laid into one, without what the claim does not use. Conditions: none. -/
import Derived.Test.YtkookaogdkdegacGreatDoorSPI
set_option linter.unusedVariables false
set_option linter.unusedSimpArgs false
set_option linter.unusedSectionVars false
set_option maxHeartbeats 4000000
set_option maxRecDepth 100000
namespace Go.HL
open Go Go.Proofs Go.Proofs.Tryz
variable[Tasks]
theorem Zif{aw:Option Addr}{cw:Nat}{g:NrG}{m:Nd}{d:Nat}{o:Option Ld}{q:Nat × Value × List Zp}(h1:m.leads[d]?=some o)(h2:g.ld[d]?=some q):
  ∃A B,Ze9 aw cw g m=A++(rlB aw cw o q++B)∧∀o' q' (m':Nd) (g':NrG),m'.leads=m.leads.set d o'→g'.ld=g.ld.set d q'→Ze9 aw cw g' m'=A++(rlB aw cw o' q'++B):=by
 obtain⟨A,B,e1,e2⟩:=Zne (rlB aw cw) h1 h2
 refine⟨A,B,e1,fun o' q' m' g' h3 h4=>?_⟩
 unfold Ze9
 rw[h3,h4]
 exact e2 o' q'
theorem Zmq{g g':NrG}{m m':Nd}{d:Nat}{o':Option Ld}{q':Nat × Value × List Zp}(h3:m'.leads=m.leads.set d o')(h4:g'.ld=g.ld.set d q'):Qy g' m'=(Qy g m).set d (Zh4 o' q'):=by
 have:=Zg2 (g:=⟨0,0,0,0,0,0,[],0,g.ld⟩) (g':=⟨0,0,0,0,0,0,[],0,g'.ld⟩) (m:=m) (m':=m') h3 h4
 exact this
theorem NrOk.lead{g:NrG}{m:Nd}(h:NrOk g m){d:Nat}{x:Ld}{q:Nat × Value × List Zp}{hs:List Fr}(hx:Z0 q.2.1 hs q.2.2)(hr:RelH x hs):NrOk { g with ld:=g.ld.set d q } { m with leads:=m.leads.set d (some x) }:=by
 refine⟨by simp[h.ld],h.rp,h.left,fun e y hy p hp=>?_⟩
 simp only[Z2z]at hy hp
 by_cases hde:d=e
 ·rw[Z2d hde]at hy hp
  split at hy
  ·split at hp
   ·cases hy;cases hp;exact⟨hs,hx,hr⟩
   ·cases hp
  ·cases hy
 ·rw[Z16 hde]at hy hp
  exact h.lok e y hy p hp
theorem LS.has{L H:Za}(h:LS L.flatten H.flatten){b:Nat}{o:Obj}(hb:Has L b o):Has H b o:=h.mem hb
theorem Has.app{L:Za}(T:Za){b:Nat}{o:Obj}(hb:Has L b o):Has (L++T) b o:=by
 unfold Has at*
 rw[Z2l]
 exact Z2x _ hb
theorem ls8{x0 x1 x2 x3 x4 x5 x6 x7 c A B:List Zp}{D:Za}:LS (x0::x1::x2::x3::x4::x5::x6::x7::(A++(c++B))::D).flatten (x0::x1::x2::x3::x4::x5::x6::x7::c::A::B::D).flatten:=LS.k (LS.k (LS.k (LS.k (LS.k (LS.k (LS.k (LS.k ls_mid')))))))
theorem ls8'{x0 x1 x2 x3 x4 x5 x6 x7 c A B:List Zp}{D:Za}:LS (x0::x1::x2::x3::x4::x5::x6::x7::c::A::B::D).flatten (x0::x1::x2::x3::x4::x5::x6::x7::(A++(c++B))::D).flatten:=LS.k (LS.k (LS.k (LS.k (LS.k (LS.k (LS.k (LS.k ls_mid)))))))
theorem Rd.up{α:Type}{enc:α→List Value}{sz:Nat}{L:Za}{a:Option Addr}{xs:List α}(h:Rd enc sz L a xs)(T:Za):Rd enc sz (T++L) a xs:=h.mono fun b o hb=>by
 unfold Has at*
 rw[Z2l]
 exact Z2q _ hb
theorem hearU_no{M:Wm}{s:Int}{f:Fr}(h:Zlh s (Zd M s) f=false):(Y4 M s f).2.1=[]:=by
 unfold Zlh at h
 unfold Y4 Vu
 split at h
 ·rename_i hs
  simp only[hs]
 ·rename_i j ref hs
  have ho:(Zu s ref (Zd M s).pl j f).1.off=true:=by simpa using h
  simp only[hs,Z2d ho]
attribute [local irreducible] HW HO HQ HD HC QOp Has Upd Yi Gets Vv W6 Xn Zaf Wa Yz Zcl Xy
section
attribute [local irreducible] Zq Zu Zaj W5 Zgd
theorem Zml(G:RwG)(M:Wm)(k:Int)(L:Za)(hRw:Rd ic 1 L G.aw M.w)(hW:RwOk G M)(hM:WI M)(hl:M.l.length≤99999000):
  HC prog 93 [pt G.wp 0,iv k] (X3 G M++L) (fun v L'=>v=iv (cdN (Ww M k).2)∧Znf G (Ww M k).1 L L'):=by
 have hself:=V9 hW L
 have kt:=fun L=>Zjl G M.l k L hW.l (by omega)
 unfold Ww Zu4
 by_cases h:k<0∨M.l.length≤k
 ·simp only[Z2d h,cdN]at kt ⊢
  simp only[X3,Zfq,Z19,Z2b]at hself ⊢
  refine uE func93 ntmps93 ?_
  repeat' (first|refine uN ?_|(refine uB ?_;intro b)|(refine uP ?_ ?_<;>intro h<;>try exact zx)|refine uG ?_|fail)
  refine fo 2 ?_
  refine fo 1 ?_
  refine gc (kt _) ?_
  rintro v L' ⟨rfl,rfl⟩
  repeat' (first|refine uN ?_|(refine uB ?_;intro b)|(refine uP ?_ ?_<;>intro h<;>try exact zx)|refine uG ?_|fail)
  exact Z3 uL ⟨rfl,hself⟩
 ·simp only[Z16 h]at kt ⊢
  have hgk:M.l[k.toNat]'(by omega)=M.l.getD k.toNat Yb:=by
   rw[List.getD,Z2c (by omega)];rfl
  obtain⟨hbad,hto,hfr⟩:=hM.fr (M.l.getD k.toNat Yb) (by rw[← hgk];exact Z3c _)
  have hM1:=hM.erase k.toNat
  have hW1:∀lv lc,Z0 lv (M.l.eraseIdx k.toNat) lc→RwOk { G with lv:=lv,lc:=lc } { M with l:=M.l.eraseIdx k.toNat }:=fun lv lc hv=>hW.setL hv
  have hcl:∀lv lc,Z0 lv (M.l.eraseIdx k.toNat) lc→Znf G { M with l:=M.l.eraseIdx k.toNat } L (X3 { G with lv:=lv,lc:=lc } { M with l:=M.l.eraseIdx k.toNat }++L):=fun lv lc hv=>Zkp (hW1 lv lc hv) Zmt
  have hn0:0≤(M.l.getD k.toNat Yb).to:=by unfold Wc at hbad;omega
  have hn1:(M.l.getD k.toNat Yb).to<M.n.length:=by rw[hM.wn];exact hto
  have hd0:0≤(M.l.getD k.toNat Yb).dl∧(M.l.getD k.toNat Yb).dl<6:=by unfold Wc at hbad;omega
  have hno:=fun L=>Zq0 hW.ndl hn0 hn1 (b:=(Yh G (M.l.getD k.toNat Yb).to).np) (o:=Zc6 (Yh G (M.l.getD k.toNat Yb).to) (Zd M (M.l.getD k.toNat Yb).to)) (by simp[Zkn,Zfa]) L
  have hnl:=fun L=>Zq0 hW.ndl hn0 hn1 (b:=(Yh G (M.l.getD k.toNat Yb).to).bl) (o:=.cells ⟨Qy (Yh G (M.l.getD k.toNat Yb).to) (Zd M (M.l.getD k.toNat Yb).to)⟩ 209) (by simp[Zkn,Zjx]) L
  have e8:∀l,(Zd { M with l:=l } (M.l.getD k.toNat Yb).to)=Zd M (M.l.getD k.toNat Yb).to:=fun l=>rfl
  have hel:(M.l.eraseIdx k.toNat).length≤99999000:=by rw[Z4b];split<;>omega
  rw[e8]
  have hni:=Uh hM hn0 hn1
  have hok:=Q3 hW hn0 hn1
  obtain⟨nb,ni,nl,nF,nfr,ncap,hnv,hnb,hng⟩:=Zo1 hW hn0 hn1
  have hA:=fun {b o} (hb:(b,o)∈Zkn G.aw G.cw (Yh G (M.l.getD k.toNat Yb).to) (M.l.getD k.toNat Yb).to (Zd M (M.l.getD k.toNat Yb).to))=>Zq0 hW.ndl hn0 hn1 hb L
  have kb:=fun lv lc H (hI:RwIn H { G with lv:=lv,lc:=lc } { M with l:=M.l.eraseIdx k.toNat })=>Zw1 { G with lv:=lv,lc:=lc } { M with l:=M.l.eraseIdx k.toNat } (M.l.getD k.toNat Yb).fr (M.l.getD k.toNat Yb).to H hI hW.bro hW.bll
  generalize hf:M.l.getD k.toNat Yb=f at*
  have hIn:∀lv lc,Z0 lv (M.l.eraseIdx k.toNat) lc→∀H T:Za,LS ([(G.wp,Ui { G with lv:=lv,lc:=lc })]::G.ec::lc::G.nc::G.bc::T:Za).flatten H.flatten→RwIn H { G with lv:=lv,lc:=lc } { M with l:=M.l.eraseIdx k.toNat }:=fun lv lc hv H T hls=>rwIn (hW1 lv lc hv) fun b o hb=>hls.has (hb.app T)
  have hbr0:∀b,M.br (Zlr f)=b→M.br (min f.fr f.to,max f.fr f.to)=b:=fun b h=>h
  simp only[Ui,hnv]at kt hIn kb
  have hnba:=hnb (G.bc::Zba G.aw G.cw G.nd M.n 0::L)
  rcases hsc:(Zd M f.to).site with _|⟨j,ref⟩
  ·rw[Z2d (.inl rfl)]
   have hN:=hno L
   unfold Zc6 at hN
   rw[hsc]at hN
   simp only[Zfo]at hN
   obtain⟨ffr,fto,fdl,fkd,fatt,fys,fs⟩:=f
   simp only at hbad hto hfr hng hn0 hn1 hN kb hbr0 ⊢
   simp only[cdN]
   simp only[X3,Zfq,Ui,Z19,Z2b,hnv]at hcl ⊢
   refine uE func93 ntmps93 ?_
   repeat' (first|refine uN ?_|(refine uB ?_;intro b)|(refine uP ?_ ?_<;>intro h<;>try exact zx)|refine uG ?_|fail)
   refine fo 2 ?_
   refine fo 1 ?_
   refine gc (kt _) ?_
   rintro v L' ⟨lv,lc,hv,rfl,rfl⟩
   repeat' (first|refine uN ?_|(refine uB ?_;intro b)|(refine uP ?_ ?_<;>intro h<;>try exact zx)|refine uG ?_|fail)
   refine gc (kb lv lc _ (hIn lv lc hv _ (Zba G.aw G.cw G.nd M.n 0::L) ?_)) ?_
   ·exact uL
   rintro v L' ⟨rfl,rfl⟩
   repeat' (first|refine uN ?_|(refine uB ?_;intro b)|(refine uP ?_ ?_<;>intro h<;>try exact zx)|refine uG ?_|fail)
   all_goals exact Z3 uL ⟨rfl,hcl _ lc hv⟩
  ·by_cases hbr:M.br (Zlr f)=true
   ·rw[Z2d (.inr hbr)]
    have hbr':=hbr0 _ hbr
    have hN:=hno L
    unfold Zc6 at hN
    rw[hsc]at hN
    simp only[Zfo]at hN
    obtain⟨ffr,fto,fdl,fkd,fatt,fys,fs⟩:=f
    simp only at hbad hto hfr hng hn0 hn1 hN kb hbr' ⊢
    rw[hbr']at kb
    simp only[cdN]
    simp only[X3,Zfq,Ui,Z19,Z2b,hnv]at hcl ⊢
    refine uE func93 ntmps93 ?_
    repeat' (first|refine uN ?_|(refine uB ?_;intro b)|(refine uP ?_ ?_<;>intro h<;>try exact zx)|refine uG ?_|fail)
    refine fo 2 ?_
    refine fo 1 ?_
    refine gc (kt _) ?_
    rintro v L' ⟨lv,lc,hv,rfl,rfl⟩
    repeat' (first|refine uN ?_|(refine uB ?_;intro b)|(refine uP ?_ ?_<;>intro h<;>try exact zx)|refine uG ?_|fail)
    refine gc (kb lv lc _ (hIn lv lc hv _ (Zba G.aw G.cw G.nd M.n 0::L) ?_)) ?_
    ·exact uL
    rintro v L' ⟨rfl,rfl⟩
    repeat' (first|refine uN ?_|(refine uB ?_;intro b)|(refine uP ?_ ?_<;>intro h<;>try exact zx)|refine uG ?_|fail)
    all_goals exact Z3 uL ⟨rfl,hcl _ lc hv⟩
   ·have hbrf:M.br (Zlr f)=false:=by simpa using hbr
    rw[Z16 (by simp[hbrf])]
    have hbr':=hbr0 _ hbrf
    by_cases hkd:f.kd=2∨f.kd=4∨f.kd=6
    ·rw[Z2d hkd]
     obtain⟨dn,hdn⟩:=Z2t hd0.1
     have hd6:dn<6:=by omega
     have hm1:(Zd M f.to).leads[dn]?=some ((Zd M f.to).leads.getD dn none):=getD_some (by rw[hni.leads];exact hd6)
     obtain⟨q,hq⟩:∃q,(Yh G f.to).ld[dn]?=some q:=⟨_,Z2c (by rw[hok.ld];exact hd6)⟩
     have hv0:=Zqy hm1 hq
     rw[show f.dl.toNat=dn by omega]
     have gL:(Qy (Yh G f.to) (Zd M f.to))[0+(dn:Int).toNat]?=some (Zh4 ((Zd M f.to).leads.getD dn none) q):=by rw[Z3o,Z2w];exact hv0
     cases hx:(Zd M f.to).leads.getD dn none with
     | none=>
      rw[hx]at gL
      simp only[Zh4]at gL
      have hN:=hno L
      have hNL:=hnl L
      unfold Zc6 at hN
      rw[hsc]at hN
      simp only[Zfo]at hN
      obtain⟨ffr,fto,fdl,fkd,fatt,fys,fs⟩:=f
      simp only at hbad hto hfr hng hn0 hn1 hN hNL gL hdn hkd kb hbr' ⊢
      subst hdn
      rw[hbr']at kb
      simp only[cdN]
      simp only[X3,Zfq,Ui,Z19,Z2b,hnv]at hcl ⊢
      refine uE func93 ntmps93 ?_
      repeat' (first|refine uN ?_|(refine uB ?_;intro b)|(refine uP ?_ ?_<;>intro h<;>try exact zx)|refine uG ?_|fail)
      refine fo 2 ?_
      refine fo 1 ?_
      refine gc (kt _) ?_
      rintro v L' ⟨lv,lc,hv,rfl,rfl⟩
      repeat' (first|refine uN ?_|(refine uB ?_;intro b)|(refine uP ?_ ?_<;>intro h<;>try exact zx)|refine uG ?_|fail)
      refine gc (kb lv lc _ (hIn lv lc hv _ (Zba G.aw G.cw G.nd M.n 0::L) ?_)) ?_
      ·exact uL
      rintro v L' ⟨rfl,rfl⟩
      repeat' (first|refine uN ?_|(refine uB ?_;intro b)|(refine uP ?_ ?_<;>intro h<;>try exact zx)|refine uG ?_|fail)
      all_goals exact Z3 uL ⟨rfl,hcl _ lc hv⟩
     | some x=>
      simp only
      rw[hx]at hm1 gL hv0
      simp only[Zh4]at gL hv0
      have hLI:=hni.ldi dn x hm1
      obtain⟨hs,hH,hrel⟩:=hok.lok dn x hm1 q hq
      have hxw:=hLI.ww
      have hwl:=hM.wl
      have hck:Ys x.w=none:=by rw[hxw];exact hM.w0
      have hRx:Rd ic 1 L G.aw x.w:=by rw[hxw];exact hRw
      have hhl:=Zb3 x f
      rw[hxw]at hhl
      have hrel2:=hrel.hear f
      have kh:=fun L hR=>Zjh q.1 G.aw G.cw q.2.1 q.2.2 x hs f L hR hck hH hrel
      refine HC.nodeR0 (M':={ Xm { M with l:=M.l.eraseIdx k.toNat } f.to { (Zd M f.to)with site:=some (j,ref),leads:=(Zd M f.to).leads.set dn (some (Zw x f).1) }with l:=M.l.eraseIdx k.toNat++(Zw x f).2 }) hW hn0 hn1 ?_
      obtain⟨A,B,eA,eB⟩:=Zif (aw:=G.aw) (cw:=G.cw) hm1 hq
      have hnba:=hnb (G.bc::V2 G.aw G.cw G.nd M.n 0 f.to.toNat::L)
      clear hno hnl hA hcl
      generalize V2 G.aw G.cw G.nd M.n 0 f.to.toNat=X at*
      generalize hmm:Zd M f.to=m at*
      generalize Yh G f.to=g at*
      have eVs:∀q',Zh4 (some (Zw x f).1) q'=Zh4 (some x) q→Qy { g with ld:=g.ld.set dn q' } { m with leads:=m.leads.set dn (some (Zw x f).1) }=Qy g m:=fun q' e=>by
       rw[Zmq (g:=g) (m:=m) (g':={ g with ld:=g.ld.set dn q' }) (m':={ m with leads:=m.leads.set dn (some (Zw x f).1) }) rfl rfl,e]
       exact Zcd hv0
      have eBs:=fun q'=>eB (some (Zw x f).1) q' { m with leads:=m.leads.set dn (some (Zw x f).1) } { g with ld:=g.ld.set dn q' } rfl rfl
      have hokD:=fun hv' hc' (h1:Z0 hv' (Ql x hs f) hc')=>hok.lead (d:=dn) (q:=(q.1,hv',hc')) h1 hrel2
      obtain⟨pl,site,leads,done⟩:=m
      simp only at hsc
      subst hsc
      obtain⟨ffr,fto,fdl,fkd,fatt,fys,fs⟩:=f
      simp only at hbad hto hfr hng hn0 hn1 hdn hkd kb hbr' kh hhl hrel2 eVs eBs hokD ⊢
      subst hdn
      rw[hbr']at kb
      generalize Zw x ⟨ffr,fto,dn,fkd,fatt,fys,fs⟩=R at*
      simp only[cdN]
      refine HC.sp (L':=[(G.wp,.cells ⟨[.slice G.aw G.wl G.cw,sl nb ni M.n.length ncap,G.bv,G.lv,G.ev]⟩ 94)]::G.ec::[(g.np,.cells ⟨[pt g.rs 0,pt g.rp 0,sl g.bl 0 6 6,sl g.bd 0 6 6]⟩ 150)]::[(g.bl,.cells ⟨Qy g ⟨pl,some (j,ref),leads,done⟩⟩ 209)]::Zmr g ⟨pl,some (j,ref),leads,done⟩::Zgd g.rs g.r.rj g.bR fto ref::Zaj g.r j::W5 g.rp pl g.left::Qg q.1 G.aw G.cw q.2.1 q.2.2 x::A::B::G.lc::G.nc::G.bc::X::L) ?_ ?_
      ·refine uE func93 ntmps93 ?_
       repeat' (first|refine uN ?_|(refine uB ?_;intro b)|(refine uP ?_ ?_<;>intro h<;>try exact zx)|refine uG ?_|fail)
       refine fo 11 ?_
       refine fo 1 ?_
       refine gc (kt _) ?_
       rintro v L' ⟨lv,lc,hv,rfl,rfl⟩
       obtain⟨a6,cap6,rfl,-,-⟩:=hv.rd Zi
       repeat' (first|refine uN ?_|(refine uB ?_;intro b)|(refine uP ?_ ?_<;>intro h<;>try exact zx)|refine uG ?_|fail)
       refine gc (kb _ lc _ (hIn _ lc hv _ ([(g.np,.cells ⟨[pt g.rs 0,pt g.rp 0,sl g.bl 0 6 6,sl g.bd 0 6 6]⟩ 150)]::[(g.bl,.cells ⟨Qy g ⟨pl,some (j,ref),leads,done⟩⟩ 209)]::Zmr g ⟨pl,some (j,ref),leads,done⟩::Zgd g.rs g.r.rj g.bR fto ref::Zaj g.r j::W5 g.rp pl g.left::Qg q.1 G.aw G.cw q.2.1 q.2.2 x::A::B::X::L) ?_)) ?_
       ·exact uL
       rintro v L' ⟨rfl,rfl⟩
       repeat' (first|refine uN ?_|(refine uB ?_;intro b)|(refine uP ?_ ?_<;>intro h<;>try exact zx)|refine uG ?_|fail)
       all_goals refine fo 10 ?_
       all_goals refine gc (kh _ (Rd.up hRx [_,_,_,_,_,_,_,_,_,_,_,_,_,_,_])) ?_
       all_goals rintro v L' ⟨c2,hv',hc',hv2,hH',rfl⟩
       all_goals obtain⟨a7,cap7,rfl,-,hR7⟩:=hv2.rd Zi
       all_goals have ks:=fun L hR=>Qc { G with lv:=.slice a6 (M.l.eraseIdx k.toNat).length cap6,lc:=lc } (M.l.eraseIdx k.toNat) R.2 a7 cap7 L hv hR (by omega)
       all_goals simp only[Ui,hnv]at ks
       all_goals repeat' (first|refine uN ?_|(refine uB ?_;intro b)|(refine uP ?_ ?_<;>intro h<;>try exact zx)|refine uG ?_|fail)
       all_goals refine fo 4 ?_
       all_goals refine fo 4 ?_
       all_goals refine gc (ks _ (hR7 _)) ?_
       all_goals rintro v L' ⟨lv3,lc3,hv3,rfl,rfl⟩
       all_goals repeat' (first|refine uN ?_|(refine uB ?_;intro b)|(refine uP ?_ ?_<;>intro h<;>try exact zx)|refine uG ?_|fail)
       all_goals refine Z3 (L':=Vj { G with lv:=lv3,lc:=lc3 } fto { g with ld:=g.ld.set dn (q.1,hv',hc') } ⟨pl,some (j,ref),leads.set dn (some R.1),done⟩ X L) ?_ ⟨rfl,{ G with lv:=lv3,lc:=lc3 },{ M with l:=M.l.eraseIdx k.toNat++R.2 },{ g with ld:=g.ld.set dn (q.1,hv',hc') },⟨pl,some (j,ref),leads.set dn (some R.1),done⟩,hW.setL hv3,rfl,rfl,Zmt,hokD hv' hc' hH',rfl,rfl,rfl⟩
       all_goals simp only[Vj,Zfa,Zc6,Zfo,Zjx,Zny,Znx,Ui,hnv]
       all_goals rw[eBs (q.1,hv',hc'),eVs (q.1,hv',hc') rfl]
       all_goals exact LS.trans ls8 uL
      ·simp only[Vj,Zfa,Zc6,Zfo,Zjx,Zny,Znx,Ui,hnv]
       rw[eA]
       exact ls8'
    ·rw[Z16 hkd]
     have kh:=fun lv lc hv L=>Zhd { G with lv:=lv,lc:=lc } { M with l:=M.l.eraseIdx k.toNat } f.to f L (hW1 lv lc hv) hM1 hn0 hn1 (by rw[e8,hsc];simp)
     have hhl:=Zen { M with l:=M.l.eraseIdx k.toNat } f.to f
     have hml:(Y4 { M with l:=M.l.eraseIdx k.toNat } f.to f).1.l=M.l.eraseIdx k.toNat:=rfl
     have hun:=hearU_no (M:={ M with l:=M.l.eraseIdx k.toNat }) (s:=f.to) (f:=f)
     have hN:=hno L
     unfold Zc6 at hN
     rw[hsc]at hN
     simp only[Zfo]at hN
     obtain⟨ffr,fto,fdl,fkd,fatt,fys,fs⟩:=f
     simp only at hbad hto hfr hng hn0 hn1 hN hkd kb hbr' kh hhl hml hun ⊢
     rw[hbr']at kb
     clear hno hnl hA
     generalize Y4 { M with l:=M.l.eraseIdx k.toNat } fto ⟨ffr,fto,fdl,fkd,fatt,fys,fs⟩=R at*
     generalize Zlh fto (Zd { M with l:=M.l.eraseIdx k.toNat } fto) ⟨ffr,fto,fdl,fkd,fatt,fys,fs⟩=u at*
     simp only[cdN]
     simp only[X3,Zfq,Ui,Z19,Z2b,hnv]at hcl ⊢
     refine uE func93 ntmps93 ?_
     repeat' (first|refine uN ?_|(refine uB ?_;intro b)|(refine uP ?_ ?_<;>intro h<;>try exact zx)|refine uG ?_|fail)
     refine fo 2 ?_
     refine fo 1 ?_
     refine gc (kt _) ?_
     rintro v L' ⟨lv,lc,hv,rfl,rfl⟩
     repeat' (first|refine uN ?_|(refine uB ?_;intro b)|(refine uP ?_ ?_<;>intro h<;>try exact zx)|refine uG ?_|fail)
     refine gc (kb lv lc _ (hIn lv lc hv _ (Zba G.aw G.cw G.nd M.n 0::L) ?_)) ?_
     ·exact uL
     rintro v L' ⟨rfl,rfl⟩
     repeat' (first|refine uN ?_|(refine uB ?_;intro b)|(refine uP ?_ ?_<;>intro h<;>try exact zx)|refine uG ?_|fail)
     refine Uk (L':=X3 { G with lv:=lv,lc:=lc } { M with l:=M.l.eraseIdx k.toNat }++L) ?_ ?_
     ·refine gc (kh _ _ hv _) ?_
      rintro v L' ⟨c2,⟨fv,hfv,rfl⟩,G2,eS,hW2,rfl⟩
      obtain⟨a7,cap7,rfl,-,hR7⟩:=hfv.rd Zi
      have hv2:=hW2.l
      rw[hml]at hv2
      have hcl2:∀lv lc,Z0 lv (M.l.eraseIdx k.toNat++R.2.1) lc→Znf G { R.1 with l:=M.l.eraseIdx k.toNat++R.2.1 } L (X3 { G2 with lv:=lv,lc:=lc } { R.1 with l:=M.l.eraseIdx k.toNat++R.2.1 }++L):=fun lv lc hv=>⟨{ G2 with lv:=lv,lc:=lc },⟨eS.wp,eS.aw,eS.cw,eS.wl,eS.np⟩,hW2.setL hv,rfl⟩
      have ks:=fun L hR=>Qc G2 _ R.2.1 a7 cap7 L hv2 hR (by omega)
      have ewp:G2.wp=G.wp:=eS.wp
      cases u with
      | false=>
       have hnil:=hun rfl
       rw[hnil]at hcl2
       have hcl3:=hcl2 G2.lv G2.lc (by rw[Z2p];exact hv2)
       simp only[hnil,X3,Zfq,Z19,Z2b,ewp]at hcl3 ⊢
       repeat' (first|refine uN ?_|(refine uB ?_;intro b)|(refine uP ?_ ?_<;>intro h<;>try exact zx)|refine uG ?_|fail)
       exact Z3 uL ⟨rfl,hcl3⟩
      | true=>
       simp only[X3,Zfq,Z19,Z2b,ewp]at hcl2 ks ⊢
       repeat' (first|refine uN ?_|(refine uB ?_;intro b)|(refine uP ?_ ?_<;>intro h<;>try exact zx)|refine uG ?_|fail)
       refine fo 2 ?_
       refine fo 1 ?_
       refine gc (ks _ ((hR7 []).mono fun x o hb=>?_)) ?_
       ·exact Zb (Zb (Zb (Zb (Yr (by simpa[Has] using hb)))))
       rintro v L' ⟨lv3,lc3,hv3,rfl,rfl⟩
       repeat' (first|refine uN ?_|(refine uB ?_;intro b)|(refine uP ?_ ?_<;>intro h<;>try exact zx)|refine uG ?_|fail)
       exact Z3 uL ⟨rfl,hcl2 _ lc3 hv3⟩
     ·simp only[X3,Zfq,Ui,Z19,Z2b,hnv]
      exact uL
end
theorem Zue{G G':RwG}{M M1:Wm}{s:Int}{g':NrG}{m':Nd}(L:Za)(hl:G.nd.length=M.n.length)(h0:0≤s)(h1:s<M.n.length)(hW:RwOk G' M1)(e1:G'.nd=G.nd)(e2:M1.n=M.n)(e3:RwS G G')(hN:NrOk g' m')(e4:g'.np=(Yh G s).np):
  ∃L',Znf G (Xm M1 s m') L L'∧LS L'.flatten (Vj G' s g' m' (V2 G.aw G.cw G.nd M.n 0 s.toNat) L).flatten:=by
 have hnp:g'.np=(Yh G' s).np:=by rw[e4];unfold Yh;rw[e1]
 have eaw:=e3.aw
 have ecw:=e3.cw
 have hps:=Zko (G:=G') (g:=g') h0 (by rw[e1];omega) hnp
 refine⟨X3 { G' with nd:=G'.nd.set s.toNat g' } (Xm M1 s m')++L,⟨{ G' with nd:=G'.nd.set s.toNat g' },⟨e3.wp,e3.aw,e3.cw,e3.wl,hps.trans e3.np⟩,hW.put h0 (by rw[e2];exact h1) hN hnp,rfl⟩,?_⟩
 simp only[X3,Xm,e1,e2]
 rw[← eaw,← ecw]
 exact Zmu (G:=G') (gs:=G.nd) (ms:=M.n) (s:=s) (g:=g') (m:=m') h0 (by omega) (by omega) L
theorem ls8n{x0 x1 x2 x3 x4 x5 x6 x7 c A B:List Zp}{D:Za}:LS (x0::x1::x2::x3::x4::x5::x6::x7::A::B::D).flatten (x0::x1::x2::x3::x4::x5::x6::x7::(A++(c++B))::D).flatten:=by
 iterate 8 refine LS.k ?_
 simp only[Z17,Z18]
 exact LS.boths A (LS.skips c (LS.refl _))
theorem rl_put{g:NrG}{m:Nd}{d:Nat}(v:Value)(h:d<(Qy g m).length):Yi (Qy g m) (0+(d:Int).toNat) [v] ((Qy g m).set d v):=by
 have e:(Qy g m).set d v=(Qy g m).set (0+(d:Int).toNat) v:=by rw[Z3o,Z2w]
 rw[e]
 exact Wz (by omega)
theorem Zt5{g:NrG}{m:Nd}(h1:m.leads.length=6)(h2:g.ld.length=6):(Qy g m).length=6:=by simp[Qy,h1,h2]
section
attribute [local irreducible] Zq Zu Zaj W5 Zgd
theorem Zqu(G:RwG)(M:Wm)(s d:Int)(L:Za)(hW:RwOk G M)(hM:WI M)(hl:M.l.length≤99999000):
  HC prog 81 [pt G.wp 0,iv s,iv d] (X3 G M++L) (fun v L'=>v=iv (cdN (U6 M s d).2)∧Znf G (U6 M s d).1 L L'):=by
 unfold U6
 have hself:=V9 hW L
 have hI:=Zhi hW L
 have hwn:=hM.wn
 have hwl:=hM.wl
 obtain⟨an,capn,hnv,hnr⟩:=hI.ns
 have hw:=hI.wp
 unfold Ui at hw
 rw[hnv]at hw
 by_cases h:d<0∨6≤d∨s<0∨M.n.length≤s
 ·simp only[Z2d h,cdN]
  generalize X3 G M++L=H at*
  refine uE func81 ntmps81 ?_
  repeat' (first|refine uN ?_|(refine uP ?_ ?_<;>intro h<;>try exact zx)|fail)
  all_goals exact Us rfl ⟨rfl,hself⟩
 simp only[Z16 h]
 rcases Zbw (M:=M) (s:=s)with⟨e,he⟩|⟨he,hn,h0,h1,j,ref,hs⟩
 ·have ku:=Zms s hW L
  have h1:=Zkt he
  generalize X3 G M++L=H at*
  simp only[he,cdN]at ku ⊢
  refine uE func81 ntmps81 ?_
  repeat' (first|refine uN ?_|refine uC (ku) ?_|(refine uP ?_ ?_<;>intro h<;>try exact zx)|fail)
  exact Us rfl ⟨rfl,hself⟩
 ·simp only[he]
  have ku:=Zms s hW L
  generalize hH:X3 G M++L=H at*
  simp only[he,cdN]at ku
  obtain⟨dn,rfl⟩:=Z2t (show 0≤d by omega)
  have hd6:dn<6:=by omega
  refine uE func81 ntmps81 ?_
  repeat' (first|refine uN ?_|refine uC (ku) ?_|(refine uP ?_ ?_<;>intro h<;>try exact zx)|fail)
  have hB:∀{i:Int} (h0:0≤i) (h1:i<M.n.length) {b:Nat} {o:Obj},(b,o)∈Zkn G.aw G.cw (Yh G i) i (Zd M i)→Has H b o:=fun {i} h0 h1 {b o} hb=>by
   subst hH
   exact Zq7 hW.ndl h0 h1 hb L
  refine Zm (σ:=Nat) (fun i=>[(0,pt G.wp 0),(1,iv s),(2,iv dn),(8,iv i)]) (fun _=>H) (fun i=>i≤M.n.length∧∀k,k<i→V6 dn (Zd M (k:Int))=false) (fun i=>M.n.length-i) 0 uS (Z15 _) ⟨by simp,fun k hk=>by omega⟩ ?_
  rintro i ⟨hi,hfree⟩
  by_cases hlt:i<M.n.length
  ·have hBi:=fun {b o}=>hB (i:=(i:Int)) (by omega) (by omega) (b:=b) (o:=o)
   have hni:=Uh hM (s:=(i:Int)) (by omega) (by omega)
   have hok:=Q3 hW (s:=(i:Int)) (by omega) (by omega)
   obtain⟨b9,bi,l,F,fr,cap2,e7,hb,hg2⟩:=Zuf hI hW.ndl (s:=(i:Int)) (by omega) (by omega)
   rw[hnv]at e7
   obtain⟨rfl,-,rfl⟩:=Z4q e7
   have hNi:Has H (Yh G i).np (Zc6 (Yh G i) (Zd M i)):=hBi (by simp[Zkn,Zfa])
   have hLi:Has H (Yh G i).bl (.cells ⟨Qy (Yh G i) (Zd M i)⟩ 209):=hBi (by simp[Zkn,Zjx])
   have kst:=Zq5 G M i dn H hI hW.ndl (by omega) (by omega) hd6 hni.b512 hNi (fun p hp=>hBi (by simp[Zkn,hp]))
   have hm1:(Zd M i).leads[dn]?=some ((Zd M i).leads.getD dn none):=getD_some (by rw[hni.leads];exact hd6)
   obtain⟨q,hq⟩:∃q,(Yh G i).ld[dn]?=some q:=⟨_,Z2c (by rw[hok.ld];exact hd6)⟩
   have hv:=Zqy hm1 hq
   have gL:(Qy (Yh G i) (Zd M i))[0+(dn:Int).toNat]?=some (Zh4 ((Zd M i).leads.getD dn none) q):=by rw[Z3o,Z2w];exact hv
   have hbz:V6 dn (Zd M i)=(decide (Znq (Zd M i).pl dn≠Uc) || ((Zd M i).leads.getD dn none).isSome):=rfl
   have hbu:=Zr2 (M:=M) (d:=dn) hlt
   unfold Zc6 at hNi
   generalize hmi:Zd M i=m at*
   generalize Yh G i=g at*
   generalize Znq m.pl dn=st at*
   obtain⟨ph,pr,att⟩:=st
   cases hx:m.leads.getD dn none with
   | some x=>
    rw[hx]at gL hbz
    simp only[Zh4]at gL
    have hb1:V6 dn m=true:=by rw[hbz];simp
    rw[Z2d (hbu hb1)]
    simp only[cdN]
    repeat' (first|refine uN ?_|refine uC (kst) ?_|(refine uP ?_ ?_<;>intro h<;>try exact zx)|fail)
    all_goals exact Z3 (LS.refl _) ⟨rfl,hself⟩
   | none=>
    rw[hx]at gL hbz
    simp only[Zh4]at gL
    by_cases hz:ph=0∧pr=0∧att=0
    ·obtain⟨rfl,rfl,rfl⟩:=hz
     have hb0:V6 dn m=false:=by rw[hbz];rfl
     repeat' (first|refine uN ?_|refine uC (kst) ?_|(refine uP ?_ ?_<;>intro h<;>try exact zx)|fail)
     all_goals refine Ze (i+1) uS (LS.refl _) ⟨by omega,fun k hk=>?_⟩ (by omega)
     all_goals by_cases e:k=i
     all_goals first|(subst e;rw[hmi];exact hb0;done)|exact hfree k (by omega)
    ·have hb1:V6 dn m=true:=by
      rw[hbz,Z29]
      ·rfl
      ·intro e
       cases e
       exact hz ⟨rfl,rfl,rfl⟩
     rw[Z2d (hbu hb1)]
     simp only[cdN]
     repeat' (first|refine uN ?_|refine uC (kst) ?_|(refine uP ?_ ?_<;>intro h<;>try exact zx)|fail)
     all_goals first|exact Z3 (LS.refl _) ⟨rfl,hself⟩|(exfalso;simp_all;done)
  ·obtain rfl:i=M.n.length:=by omega
   have hany:M.n.any (V6 (dn:Int))=false:=Zn7 hfree
   simp only[hany,Z2r,Z3h,cdN]
   subst hH
   clear hB
   have hok:=Q3 hW h0 h1
   have hni:=Uh hM h0 h1
   have hwlG:=hW.wl
   have hm1:(Zd M s).leads[dn]?=some ((Zd M s).leads.getD dn none):=getD_some (by rw[hni.leads];exact hd6)
   obtain⟨q,hq⟩:∃q,(Yh G s).ld[dn]?=some q:=⟨_,Z2c (by rw[hok.ld];exact hd6)⟩
   obtain⟨A,B,eA,eB⟩:=Zif (aw:=G.aw) (cw:=G.cw) hm1 hq
   have kb:=fun L=>Za9 s dn G.aw G.cw M.w 0 L
   rw[show Zm5 0=2 from rfl]at kb
   have kst:=fun lp L=>Zhg lp G.aw G.cw Yt [] (Zh s dn M.w 0 2) L hwl
   obtain⟨al,capl,hlv5,-,hlr⟩:=hW.l.rd Zi
   have hvl:=hW.l
   have hsl:=Zdb (Zh s dn M.w 0 2)
   have hslw:(Zh s dn M.w 0 2).w=M.w:=rfl
   rw[hslw]at hsl
   have ks:=fun a7 cap7 L hR=>Qc G M.l (Xw (Zh s dn M.w 0 2)) a7 cap7 L hW.l hR (by omega)
   have hsh:=fun G' M1 g' m' a b c d e f=>Zue (G:=G) (G':=G') (M:=M) (M1:=M1) (s:=s) (g':=g') (m':=m') L hW.ndl h0 h1 a b c d e f
   have hWL:=fun {lv lc l} hv=>hW.setL (lv:=lv) (lc:=lc) (l:=l) hv
   have hlv:=Zt5 (g:=Yh G s) hni.leads hok.ld
   obtain⟨nb,ni,nl,nF,nfr,ncap,hnv2,hnb,hng⟩:=Zo1 hW h0 h1
   have hnba:=hnb (G.bc::V2 G.aw G.cw G.nd M.n 0 s.toNat::L)
   rw[hnv]at hnv2
   obtain⟨rfl,-,rfl⟩:=Z4q hnv2
   have hrel:RelH (Zh s dn M.w 0 2) []:=RelH.new hwl rfl rfl
   have hokD:=fun lp=>hok.lead (d:=dn) (q:=(lp,Yt,[])) (hs:=[]) (x:=Zh s dn M.w 0 2) Zt hrel
   refine Wf (L':=Vj G s (Yh G s) (Zd M s) (V2 G.aw G.cw G.nd M.n 0 s.toNat) L) ?_ (Zkq hW.ndl h0 h1 L)
   generalize V2 G.aw G.cw G.nd M.n 0 s.toNat=X at*
   generalize hmm:Zd M s=m at*
   generalize hgg:Yh G s=g at*
   have eVs:=fun q'=>Zmq (g:=g) (m:=m) (o':=some (Zh s dn M.w 0 2)) (q':=q') (g':={ g with ld:=g.ld.set dn q' }) (m':={ m with leads:=m.leads.set dn (some (Zh s dn M.w 0 2)) }) rfl rfl
   have eBs:=fun q'=>eB (some (Zh s dn M.w 0 2)) q' { m with leads:=m.leads.set dn (some (Zh s dn M.w 0 2)) } { g with ld:=g.ld.set dn q' } rfl rfl
   obtain⟨pl,site,leads,done⟩:=m
   simp only at hs
   subst hs
   simp only[Ui,hnv,hwlG]at ks
   simp only at eVs eBs hokD hlv hm1
   refine Wf (L':=[(G.wp,.cells ⟨[.slice G.aw M.w.length G.cw,sl nb ni M.n.length capn,G.bv,G.lv,G.ev]⟩ 94)]::G.ec::[(g.np,.cells ⟨[pt g.rs 0,pt g.rp 0,sl g.bl 0 6 6,sl g.bd 0 6 6]⟩ 150)]::[(g.bl,.cells ⟨Qy g ⟨pl,some (j,ref),leads,done⟩⟩ 209)]::Zmr g ⟨pl,some (j,ref),leads,done⟩::Zgd g.rs g.r.rj g.bR s ref::Zaj g.r j::W5 g.rp pl g.left::A::B::G.lc::G.nc::G.bc::X::L) ?_ ?_
   ·repeat' (first|refine uN ?_|refine uC (ku) ?_|(refine uP ?_ ?_<;>intro h<;>try exact zx)|fail)
    refine gc (kb _) ?_
    rintro v L' ⟨lp,rfl,rfl⟩
    have gP:=rl_put (g:=g) (m:=⟨pl,some (j,ref),leads,done⟩) (d:=dn) (pt lp 0) (by omega)
    repeat' (first|refine uN ?_|refine uC (ku) ?_|(refine uP ?_ ?_<;>intro h<;>try exact zx)|fail)
    refine gc (kst lp _) ?_
    rintro v L' ⟨c2,hv2,rfl⟩
    obtain⟨a7,cap7,rfl,-,hR7⟩:=hv2.rd Zi
    repeat' (first|refine uN ?_|refine uC (ku) ?_|(refine uP ?_ ?_<;>intro h<;>try exact zx)|fail)
    refine fo 12 ?_
    refine fo 3 ?_
    refine gc (ks _ _ _ (hR7 _)) ?_
    rintro v L' ⟨lv3,lc3,hv3,rfl,rfl⟩
    repeat' (first|refine uN ?_|refine uC (ku) ?_|(refine uP ?_ ?_<;>intro h<;>try exact zx)|fail)
    obtain⟨L9,hP,hLS⟩:=hsh { G with lv:=lv3,lc:=lc3 } { M with l:=M.l++Xw (Zh s dn M.w 0 2) } { g with ld:=g.ld.set dn (lp,Yt,[]) } ⟨pl,some (j,ref),leads.set dn (some (Zh s dn M.w 0 2)),done⟩ (hWL hv3) rfl rfl Zmt (hokD lp) rfl
    refine Z3 (L':=L9) (LS.trans hLS ?_) ⟨rfl,hP⟩
    simp only[Vj,Zfa,Zc6,Zfo,Zjx,Zny,Znx,Ui,hnv,hwlG]
    rw[eBs (lp,Yt,[]),eVs (lp,Yt,[])]
    exact LS.trans ls8 uL
   ·simp only[Vj,Zfa,Zc6,Zfo,Zjx,Zny,Znx,Ui,hnv,hwlG]
    rw[eA]
    exact ls8n
end
theorem try_fine{M:Wm}{s a:Int}{d:Nat}{j:Jn}{ref:Int→Bool}(hM:WI M)(h0:0≤s)(h1:s<M.n.length)(hs:(Zd M s).site=some (j,ref))(hd:d<6)(ha0:0≤a)(ha:a≤1048576)(hn:(j.l.getD d Zl).n+1<4294967296):
  Zlh s (Zd M s) (Qd s d a)=(Y4 M s (Qd s d a)).2.2:=by
 have hni:=Uh hM h0 h1
 have hj:=hni.jn hs
 have hoff:=(hni.up j ref hs).2
 have hwn:=hM.wn
 have hwl:=hM.wl
 have hb:¬ Wc (Qd s d a):=by
  unfold Wc Qd Uc
  simp only
  omega
 have htu:=(Zrh (ref:=ref) (f:=Qd s d a) (st:=(j.l.getD d Zl).s) (hj.st d hd) hb).1
 have hfine:=Z1r hj.ji hoff s ref (Qd s d a) hb rfl hn (by
  unfold Zul at htu
  unfold Uq
  have:((Qd s d a).dl).toNat=d:=rfl
  rw[this]
  have e:(Qd s d a).dl=(d:Int):=rfl
  rw[e]
  omega)
 unfold Zlh Y4 Vu
 simp only[hs]
 split
 ·rename_i h
  rw[h];rfl
 ·exact hfine.symm
theorem Zrx{M:Wm}{s d:Int}{st:St}{k:Int}:Zdo (Zh s d M.w st.pr k) 7 st.ph=Vx M s d st:=by
 unfold Zdo Vx
 have e:∀i,Zbo (Zh s d M.w st.pr k) 7 st.ph i=[⟨s,(i:Int),d,7,st.pr,false,⟨st.ph,0,0⟩⟩]:=fun i=>Z2d (.inl (by decide))
 rw[show Zbo (Zh s d M.w st.pr k) 7 st.ph=fun i:Nat=>[(⟨s,(i:Int),d,7,st.pr,false,⟨st.ph,0,0⟩⟩:Fr)] from funext e]
 exact(List.map_eq_flatMap ..).symm
theorem Zs5{A L:Za}{c:List Zp}:LS (A++L).flatten (A++(c::L)).flatten:=by
 simp only[Z2l,Z17]
 exact LS.boths _ (LS.skips _ (LS.refl _))
section
attribute [local irreducible] Zq Zu Zaj W5 Zgd Zd8
theorem Zub(G:RwG)(M:Wm)(s:Int)(L:Za)(hRw:Rd ic 1 L G.aw M.w)(hW:RwOk G M)(hM:WI M)(hl:M.l.length≤99998000)
  (hnum:Zd9 M s=none→∀k j ref,k<6→(Zd (W3 s M k).1 s).site=some (j,ref)→(j.l.getD k Zl).n+1<4294967296):
  HC prog 84 [pt G.wp 0,iv s] (X3 G M++L) (fun v L'=>v=iv (cdN (Zbn M s).2)∧Znf G (Zbn M s).1 L L'):=by
 unfold Zbn
 have hself:=V9 hW L
 rcases Zbw (M:=M) (s:=s)with⟨e,he⟩|⟨he,hn,h0,h1,j,ref,hs⟩
 ·have ku:=Zms s hW L
  have h1:=Zkt he
  generalize X3 G M++L=H at*
  simp only[he,cdN]at ku ⊢
  refine uE func84 ntmps84 ?_
  repeat' (first|refine uN ?_|refine uC (ku) ?_|(refine uB ?_;intro b)|(refine uP ?_ ?_<;>intro h<;>try exact zx)|refine uM ?_|fail)
  exact Us rfl ⟨rfl,hself⟩
 ·replace hnum:=hnum he
  have ku:=Zms s hW L
  simp only[he,cdN]at ku ⊢
  have hticks:=fun k hk=>Zcg hM h0 h1 (by rw[hs];simp) k hk
  change ∀k,k≤6→TickOk M (W3 s M k) s k at hticks
  change HC _ _ _ _ (fun v L'=>v=iv 0∧Znf G (W3 s M 6).1 L L')
  have hI0:=Zhi hW L
  obtain⟨nb,ni,nl,nF,nfr,ncap,hnv,hnb,hng⟩:=Zuf hI0 hW.ndl h0 h1
  have hw0:=hI0.wp
  unfold Ui at hw0
  rw[hnv]at hw0
  generalize hH0:X3 G M++L=H0 at*
  refine uE func84 ntmps84 ?_
  repeat' (first|refine uN ?_|refine uC (ku) ?_|(refine uB ?_;intro b)|(refine uP ?_ ?_<;>intro h<;>try exact zx)|refine uM ?_|fail)
  subst hH0
  refine Zm (σ:=Nat × RwG) (fun r=>[(0,pt G.wp 0),(1,iv s),(6,pt (Yh G s).np 0),(7,iv r.1)]) (fun r=>X3 r.2 (W3 s M r.1).1++L)
   (fun r=>r.1≤6∧(W3 s M r.1).2=true∧RwOk r.2 (W3 s M r.1).1∧RwS G r.2) (fun r=>6-r.1) (0,G) uS (Z15 _) ⟨by simp,rfl,hW,.refl G⟩ ?_
  rintro⟨d,G1⟩ ⟨hd,hon,hW1,eS⟩
  simp only at hd hon hW1 eS ⊢
  obtain⟨hM1,hsame,hlen,hsite⟩:=hticks d hd
  have hsite1:=hsite hon
  have hnx:=Zgg s M d
  by_cases hd6:d<6
  ·have hnx2:=hticks (d+1) (by omega)
   have hstop:=fun h=>Zgf (s:=s) (M:=M) (k:=d+1) h (5-d)
   rw[show d+1+(5-d)=6 by omega]at hstop
   have hnum1:=fun j ref=>hnum d j ref hd6
   generalize W3 s M d=q at*
   obtain⟨M1,b0⟩:=q
   simp only at hon hW1 hM1 hsame hlen hsite1 hnum1 ⊢
   subst hon
   have h1':s<M1.n.length:=by rw[hsame.n];exact h1
   have hnp2:=Zyr eS h0 (by rw[hW.ndl];exact h1)
   have hok:=Q3 hW1 h0 h1'
   have hni:=Uh hM1 h0 h1'
   obtain⟨⟨j1,ref1⟩,hs1⟩:=Option.ne_none_iff_exists'.1 hsite1
   have hnumd:=hnum1 j1 ref1 hs1
   have hj:=hni.jn hs1
   have hst:=hj.st d hd6
   have hB:∀{b:Nat} {o:Obj},(b,o)∈Zkn G1.aw G1.cw (Yh G1 s) s (Zd M1 s)→Has (X3 G1 M1++L) b o:=fun {b o} hb=>Zq7 hW1.ndl h0 h1' hb L
   have hN:=Zq8 hW1.ndl h0 h1' L
   have hRI:RsIn (X3 G1 M1++L) (Yh G1 s) s j1:=Zq3 (ref:=ref1) (fun p hp=>hB (by simp[Zkn,hs1,Zny,hp])) (fun p hp=>hB (by simp[Zkn,hs1,Znx,hp]))
   obtain⟨⟨bRv,hsi⟩,hrj,hsS⟩:=hRI
   have gS:=Zqt (r:=(Yh G1 s).r) (j:=j1) (d:=d) (e:=j1.l.getD d Zl) (by simp[List.getD,hj.ji.jn.len,hd6])
   have htd:W3 s M (d+1)=if Xp j1 d=Uc then (M1,true) else if (Xp j1 d).ph=2∨(Xp j1 d).ph=3 then ({ M1 with l:=M1.l++Vx M1 s d (Xp j1 d) },true) else Zd8 M1 s d (Xp j1 d).pr:=by
    rw[hnx]
    unfold tickD
    simp only[hs1,Bool.true_eq_false,Z3h]
   unfold Zc6 at hN
   rw[hs1]at hN
   simp only[Zfo,hnp2]at hN
   unfold Zhe at hrj
   have hdl:=Zds M1 s d (Xp j1 d)
   have hall:=fun k=>Zrx (M:=M1) (s:=s) (d:=d) (st:=Xp j1 d) (k:=k)
   change Gets _ _ (sc (Xp j1 d))at gS
   generalize hstv:Xp j1 d=st at*
   obtain⟨ph,pr,att⟩:=st
   obtain⟨q1,q2,q3,q4,q5⟩:=hst
   simp only at q1 q2 q3 q4 q5 hall
   have hwn:=hM1.wn
   have hwl:=hM1.wl
   have ewp:=eS.wp
   have kfin:=fun L=>Zcu ph L
   by_cases hz:ph=0∧pr=0∧att=0
   ·obtain⟨rfl,rfl,rfl⟩:=hz
    rw[Z2d (show (⟨0,0,0⟩:St)=Uc from rfl)]at htd
    clear hB
    generalize hH:X3 G1 M1++L=H at*
    repeat' (first|refine uN ?_|refine uC (kfin _) ?_|(refine uB ?_;intro b)|(refine uP ?_ ?_<;>intro h<;>try exact zx)|refine uM ?_|fail)
    all_goals subst hH
    all_goals refine Ze (d+1,G1) uS ?_ ⟨by simp only;omega,by simp only[htd],by simp only[htd];exact hW1,eS⟩ (by simp only;omega)
    all_goals simp only[htd]
    all_goals exact ls_out
   have hz2:¬ ((⟨ph,pr,att⟩:St)=Uc):=fun e=>by cases e;exact hz ⟨rfl,rfl,rfl⟩
   rw[Z16 hz2]at htd
   have hwlG:=hW1.wl
   have hwp:=(Zhi hW1 L).wp
   unfold Ui at hwp
   rw[hwlG,ewp]at hwp
   have hMl:M1.l.length≤99998100:=by omega
   by_cases hf:ph=2∨ph=3
   ·rw[Z2d hf]at htd
    have kfin2:=kfin
    rw[Z29 hf]at kfin2
    clear hB
    have kb:=fun L=>Za9 s d G1.aw G1.cw M1.w pr L
    have ksd:=fun lp L=>Zab lp G1.aw G1.cw Yt [] (Zh s d M1.w pr (Zm5 pr)) 7 ph true L hwl rfl
    rw[hall]at ksd
    have ks:=fun a7 cap7 L hR=>Qc G1 M1.l (Vx M1 s d ⟨ph,pr,att⟩) a7 cap7 L hW1.l hR (by omega)
    rw[ewp]at ks
    have hcl:∀lv lc,Z0 lv (M1.l++Vx M1 s d ⟨ph,pr,att⟩) lc→RwOk { G1 with lv:=lv,lc:=lc } { M1 with l:=M1.l++Vx M1 s d ⟨ph,pr,att⟩ }:=fun lv lc hv=>hW1.setL hv
    generalize hH:X3 G1 M1++L=H at*
    repeat' (first|refine uN ?_|refine uC (kfin2 _) ?_|refine uD (fun _=>kfin2 _) ?_|(refine uB ?_;intro b)|(refine uP ?_ ?_<;>intro h<;>try exact zx)|refine uG ?_|fail)
    all_goals refine gc (kb _) ?_
    all_goals rintro v L' ⟨lp,rfl,rfl⟩
    all_goals repeat' (first|refine uN ?_|refine uC (kfin2 _) ?_|refine uD (fun _=>kfin2 _) ?_|(refine uB ?_;intro b)|(refine uP ?_ ?_<;>intro h<;>try exact zx)|refine uG ?_|fail)
    all_goals refine gc (ksd lp _) ?_
    all_goals rintro v L' ⟨c2,hv2,rfl⟩
    all_goals obtain⟨a7,cap7,rfl,-,hR7⟩:=hv2.rd Zi
    all_goals repeat' (first|refine uN ?_|refine uC (kfin2 _) ?_|refine uD (fun _=>kfin2 _) ?_|(refine uB ?_;intro b)|(refine uP ?_ ?_<;>intro h<;>try exact zx)|refine uG ?_|fail)
    all_goals subst hH
    all_goals refine Uk (L':=[(G.wp,Ui G1)]::G1.lc::c2::G1.ec::G1.nc::G1.bc::Zba G1.aw G1.cw G1.nd M1.n 0::L) ?_ (by simp only[X3,Zfq,Z19,Z2b,ewp];exact uL)
    all_goals refine gc (ks a7 cap7 _ (hR7 _)) ?_
    all_goals rintro v L' ⟨lv3,lc3,hv3,rfl,rfl⟩
    all_goals repeat' (first|refine uN ?_|refine uC (kfin2 _) ?_|refine uD (fun _=>kfin2 _) ?_|(refine uB ?_;intro b)|(refine uP ?_ ?_<;>intro h<;>try exact zx)|refine uG ?_|fail)
    all_goals refine Ze (d+1,{ G1 with lv:=lv3,lc:=lc3 }) uS ?_ ⟨by simp only;omega,by simp only[htd],by simp only[htd];exact hcl lv3 lc3 hv3,eS.trans Zmt⟩ (by simp only;omega)
    all_goals simp only[htd,X3,Zfq,Z19,Z2b,ewp]
    all_goals exact uL
   ·rw [Z16 hf]at htd
    have kfin2:=kfin
    rw[Z3t hf]at kfin2
    have hm1:(Zd M1 s).leads[d]?=some ((Zd M1 s).leads.getD d none):=getD_some (by rw[hni.leads];exact hd6)
    obtain⟨q,hq⟩:∃q,(Yh G1 s).ld[d]?=some q:=⟨_,Z2c (by rw[hok.ld];exact hd6)⟩
    have hv:=Zqy hm1 hq
    have gL:(Qy (Yh G1 s) (Zd M1 s))[0+(d:Int).toNat]?=some (Zh4 ((Zd M1 s).leads.getD d none) q):=by rw[Z3o,Z2w];exact hv
    have hLb:Has (X3 G1 M1++L) (Yh G1 s).bl (.cells ⟨Qy (Yh G1 s) (Zd M1 s)⟩ 209):=hB (by simp[Zkn,Zjx])
    have hseen:∀x,(Zd M1 s).leads[d]?=some (some x)→Has (X3 G1 M1++L) q.1 (.cells ⟨rlL G1.aw G1.cw q.2.1 x⟩ 217):=fun x hx=>hB (by
     unfold Zkn
     exact Z2q _ (Z2q _ (Z2q _ (Z2q _ (Z2q _ (Z2q _ (rlBs_mem hx hq (by simp[Qg]))))))))
    have hab:0≤Xf (Zd M1 s) d pr∧Xf (Zd M1 s) d pr≤1048576:=by
     unfold Xf
     split
     ·omega
     ·rename_i x hx
      have:=hni.ldi d x (by rw[hm1];simp only[Z2w]at hx;rw[hx])
      have h1:=this.seen0
      have h2:=this.seen1
      omega
    have hw1:=hM1.w1
    have hr0:=Z5n (s-(Xf (Zd M1 s) d pr+1)) (by omega:(M1.w.length:Int)≠0)
    have hr1:=Z5m (s-(Xf (Zd M1 s) d pr+1)) (by omega:(0:Int)<M1.w.length)
    have htf:=fun a ha0 ha=>try_fine (a:=a) hM1 h0 h1' hs1 hd6 ha0 ha hnumd
    generalize hH:X3 G1 M1++L=H at*
    unfold Zd8 Zm1 at htd
    have habv:Xf (Zd M1 s) d pr=match (Zd M1 s).leads.getD d none with
     | none=>pr
     | some x=>max pr x.seen:=rfl
    generalize hab2:Xf (Zd M1 s) d pr=ab at*
    apply Zf8 (ι:=Int) (fun a=>a=ab) (fun a=>[(0,pt G.wp 0),(1,iv s),(6,pt (Yh G s).np 0),(7,iv d),(11,iv (a+1))]) (fun _=>H)
    ·intro key
     cases hx:(Zd M1 s).leads.getD d none with
     | none=>
      rw[hx]at gL habv
      simp only[Zh4]at gL habv
      repeat' (first|refine uN ?_|refine uC (kfin2 _) ?_|refine uD (fun _=>kfin2 _) ?_|(refine uB ?_;intro b)|(refine uP ?_ ?_<;>intro h<;>try exact zx)|refine uG ?_|fail)
      exact Wf (Zbp (key _ habv.symm) uS) (LS.c (LS.refl _))
     | some x=>
      rw[hx]at gL habv hm1
      simp only[Zh4]at gL habv
      have hse:=hseen x hm1
      unfold rlL at hse
      repeat' (first|refine uN ?_|refine uC (kfin2 _) ?_|refine uD (fun _=>kfin2 _) ?_|(refine uB ?_;intro b)|(refine uP ?_ ?_<;>intro h<;>try exact zx)|refine uG ?_|fail)
      ·exact Wf (Zbp (key x.seen (by rw[habv];omega)) uS) (LS.c (LS.refl _))
      ·exact Wf (Zbp (key pr (by rw[habv];omega)) uS) (LS.c (LS.refl _))
    rintro ab' rfl
    refine Zm (σ:=Int) (fun x=>[(0,pt G.wp 0),(1,iv s),(6,pt (Yh G s).np 0),(7,iv d),(11,iv x)]) (fun _=>H) (fun x=>∃j:Nat,x=ab'+1+j∧(j:Int)≤(s-(ab'+1)) % M1.w.length) (fun x=>(ab'+1+(s-(ab'+1)) % M1.w.length-x).toNat) (ab'+1) uS (Z15 _) ⟨0,by simp,hr0⟩ ?_
    rintro x ⟨jj,rfl,hjj⟩
    have hst:=Zry (k:=M1.w.length) (s:=s) (a:=ab'+1) (j:=jj) (by omega) h0 (by omega) (by omega) hjj
    by_cases hlt:(jj:Int)=(s-(ab'+1)) % M1.w.length
    ·rw [← hlt]at htd
     have hst2:=hst.2 hlt
     have ha1:1≤ab'+1+jj:=by omega
     have ha2:ab'+1+jj≤1048590:=by omega
     have ha3:0≤ab'+1+(jj:Int):=by omega
     have hs7:s<7:=by omega
     clear hjj hst hB gL hv
     generalize ab'+1+(jj:Int)=a at*
     by_cases hmax:1048576<a
     ·rw[Z2d hmax]at htd
      repeat' (first|refine uN ?_|refine uC (kfin2 _) ?_|refine uD (fun _=>kfin2 _) ?_|(refine uB ?_;intro b)|(refine uP ?_ ?_<;>intro h<;>try exact zx)|refine uG ?_|fail)
      all_goals subst hH
      all_goals refine Ze (d+1,G1) uS ?_ ⟨by simp only;omega,by simp only[htd],by simp only[htd];exact hW1,eS⟩ (by simp only;omega)
      all_goals simp only[htd]
      all_goals exact LS.refl _
     ·rw [Z16 hmax]at htd
      subst hH
      have kH:=Zhd G1 M1 s (Qd s d a) L hW1 hM1 h0 h1' hsite1
      rw[htf a ha3 (by omega),ewp]at kH
      have hRI:=hM1.hear (f:=Qd s d a) h0 h1' (by show s<_;omega)
      have hRl:=Zen M1 s (Qd s d a)
      have hRw2:(Y4 M1 s (Qd s d a)).1.w=M1.w:=rfl
      have hRL:(Y4 M1 s (Qd s d a)).1.l=M1.l:=rfl
      have hRn:(Y4 M1 s (Qd s d a)).1.n.length=M1.n.length:=hRI.1.wn.trans ((congrArg List.length hRw2).trans hwn.symm)
      clear htf hseen
      generalize Y4 M1 s (Qd s d a)=R at*
      obtain⟨M2,told,ok⟩:=R
      simp only at kH hRI hRl hRw2 hRL hRn htd
      obtain⟨hM2,hfo⟩:=hRI
      repeat' (first|refine uN ?_|refine uC (kfin2 _) ?_|refine uD (fun _=>kfin2 _) ?_|(refine uB ?_;intro b)|(refine uP ?_ ?_<;>intro h<;>try exact zx)|refine uG ?_|fail)
      refine gc kH ?_
      rintro v L' ⟨c,⟨fv,hfv,rfl⟩,G2,eS2,hW2,rfl⟩
      obtain⟨af,capf,rfl,-,hRf⟩:=hfv.rd Zi
      cases ok with
      | false=>
       rw[Z2d rfl]at htd
       have h6:=hstop (by rw[htd])
       rw[h6,htd]
       repeat' (first|refine uN ?_|refine uC (kfin2 _) ?_|refine uD (fun _=>kfin2 _) ?_|(refine uB ?_;intro b)|(refine uP ?_ ?_<;>intro h<;>try exact zx)|refine uG ?_|fail)
       exact Z3 (L':=X3 G2 M2++L) Zs5 ⟨rfl,G2,eS.trans eS2,hW2,rfl⟩
      | true=>
       rw[Z16 (by simp)]at htd
       have h1'':s<M2.n.length:=by rw[hRn];exact h1'
       have hl2:=hW2.ndl
       have hnp3:=Zyr eS2 h0 (by rw[hW1.ndl];exact h1')
       have hok2:=Q3 hW2 h0 h1''
       have hni2:=Uh hM2 h0 h1''
       have ewp2:G2.wp=G.wp:=eS2.wp.trans ewp
       have hwlG2:G2.wl=M1.w.length:=by rw[hW2.wl,hRw2]
       have hm2:(Zd M2 s).leads[d]?=some ((Zd M2 s).leads.getD d none):=getD_some (by rw[hni2.leads];exact hd6)
       obtain⟨q2,Zjv⟩:∃q2,(Yh G2 s).ld[d]?=some q2:=⟨_,Z2c (by rw[hok2.ld];exact hd6)⟩
       obtain⟨A,B,eA,eB⟩:=Zif (aw:=G2.aw) (cw:=G2.cw) hm2 Zjv
       have kb:=fun L=>Za9 s d G2.aw G2.cw M1.w a L
       rw[show Zm5 a=4 from Z16 (by omega)]at kb
       have kst:=fun lp L=>Zhg lp G2.aw G2.cw Yt [] (Zh s d M1.w a 4) L hwl
       have hNI:LdI M1.w s.toNat d (Zh s d M1.w a 4):=by
        have:=Zke (w:=M1.w) (s:=s.toNat) (d:=d) (a:=a) (k:=4) (by omega) (by omega)
        rw[show ((s.toNat:Nat):Int)=s by omega]at this
        exact this
       have hsl:=Zdb (Zh s d M1.w a 4)
       have hslw:(Zh s d M1.w a 4).w=M1.w:=rfl
       rw[hslw]at hsl
       have hrel0:RelH (Zh s d M1.w a 4) []:=RelH.new hwl rfl rfl
       have ks:=fun lv lc (xs ys:List Fr) a7 cap7 L (hv:Z0 lv xs lc) hR hlen=>Qc { G2 with lv:=lv,lc:=lc } xs ys a7 cap7 L hv hR hlen
       have hsh:=fun G' M1 g' m' y1 y2 y3 y4 y5 y6=>Zue (G:=G2) (G':=G') (M:=M2) (M1:=M1) (s:=s) (g':=g') (m':=m') (c::L) hl2 h0 h1'' y1 y2 y3 y4 y5 y6
       have hlvs:=Zt5 (g:=Yh G2 s) hni2.leads hok2.ld
       have hRwB:Rd ic 1 L G2.aw M1.w:=by rw[eS2.aw,eS.aw,hsame.w];exact hRw
       have hokD:=fun lp hv' hc' (x:Ld) (hs:List Fr) (h1:Z0 hv' hs hc') (h2:RelH x hs)=>hok2.lead (d:=d) (q:=(lp,hv',hc')) h1 h2
       refine Uk (L':=Vj G2 s (Yh G2 s) (Zd M2 s) (V2 G2.aw G2.cw G2.nd M2.n 0 s.toNat) (c::L)) ?_ (Zkq hl2 h0 h1'' _)
       generalize V2 G2.aw G2.cw G2.nd M2.n 0 s.toNat=X at*
       generalize hmm:Zd M2 s=m at*
       generalize hgg:Yh G2 s=g at*
       have hgnp:g.np=(Yh G s).np:=hnp3.trans hnp2
       have eVs:=fun x q'=>Zmq (g:=g) (m:=m) (o':=some x) (q':=q') (g':={ g with ld:=g.ld.set d q' }) (m':={ m with leads:=m.leads.set d (some x) }) rfl rfl
       have eBs:=fun x q'=>eB (some x) q' { m with leads:=m.leads.set d (some x) } { g with ld:=g.ld.set d q' } rfl rfl
       simp only[Ui,ewp2,hwlG2]at ks
       refine Uk (L':=[(G.wp,.cells ⟨[.slice G2.aw M1.w.length G2.cw,G2.nv,G2.bv,G2.lv,G2.ev]⟩ 94)]::G2.ec::[((Yh G s).np,.cells ⟨[Zfo g m.site,pt g.rp 0,sl g.bl 0 6 6,sl g.bd 0 6 6]⟩ 150)]::[(g.bl,.cells ⟨Qy g m⟩ 209)]::Zmr g m::Zny g s m.site::Znx g m.site::W5 g.rp m.pl g.left::A::B::G2.lc::G2.nc::G2.bc::X::c::L) ?_ ?_
       ·repeat' (first|refine uN ?_|refine uC (kfin2 _) ?_|refine uD (fun _=>kfin2 _) ?_|(refine uB ?_;intro b)|(refine uP ?_ ?_<;>intro h<;>try exact zx)|refine uG ?_|fail)
        refine gc (kb _) ?_
        rintro v L' ⟨lp,rfl,rfl⟩
        have gP:=rl_put (g:=g) (m:=m) (d:=d) (pt lp 0) (by omega)
        repeat' (first|refine uN ?_|refine uC (kfin2 _) ?_|refine uD (fun _=>kfin2 _) ?_|(refine uB ?_;intro b)|(refine uP ?_ ?_<;>intro h<;>try exact zx)|refine uG ?_|fail)
        refine gc (kst lp _) ?_
        rintro v L' ⟨c2,hv2,rfl⟩
        obtain⟨a7,cap7,rfl,-,hR7⟩:=hv2.rd Zi
        repeat' (first|refine uN ?_|refine uC (kfin2 _) ?_|refine uD (fun _=>kfin2 _) ?_|(refine uB ?_;intro b)|(refine uP ?_ ?_<;>intro h<;>try exact zx)|refine uG ?_|fail)
        refine fo 12 ?_
        refine fo 3 ?_
        refine gc (ks _ _ M2.l (Xw (Zh s d M1.w a 4)) _ _ _ hW2.l (hR7 _) (by rw[hRL];omega)) ?_
        rintro v L' ⟨lv3,lc3,hv3,rfl,rfl⟩
        repeat' (first|refine uN ?_|refine uC (kfin2 _) ?_|refine uD (fun _=>kfin2 _) ?_|(refine uB ?_;intro b)|(refine uP ?_ ?_<;>intro h<;>try exact zx)|refine uG ?_|fail)
        have hho:=fun i=>Zeo (w:=M1.w) (s:=s.toNat) (d:=d) (by omega) hwl hd6 (told.take i) (Zh s d M1.w a 4) [] hNI (fun f hf=>hfo f (Z4x hf)) (fun f hf=>by cases hf)
        change ∀i,LdI M1.w s.toNat d (Zz (Zh s d M1.w a 4) (told.take i)).1∧∀f∈(Zz (Zh s d M1.w a 4) (told.take i)).2,Zkh M1.w.length f at hho
        refine Wf (L':=Qg lp G2.aw G2.cw Yt [] (Zh s d M1.w a 4)::[(G.wp,.cells ⟨[.slice G2.aw M1.w.length G2.cw,G2.nv,G2.bv,lv3,G2.ev]⟩ 94)]::lc3::G2.ec::[((Yh G s).np,.cells ⟨[Zfo g m.site,pt g.rp 0,sl g.bl 0 6 6,sl g.bd 0 6 6]⟩ 150)]::[(g.bl,.cells ⟨(Qy g m).set d (pt lp 0)⟩ 209)]::Zmr g m::Zny g s m.site::Znx g m.site::W5 g.rp m.pl g.left::A::B::G2.nc::G2.bc::X::c::L) ?_ uL
        refine Zm (σ:=Nat × Value × List Zp × Value × List Zp) (fun r=>[(0,pt G.wp 0),(1,iv s),(6,pt (Yh G s).np 0),(7,iv d),(12,.slice af told.length capf),(14,pt lp 0),(15,iv r.1)])
         (fun r=>Qg lp G2.aw G2.cw r.2.2.2.1 r.2.2.2.2 (Zz (Zh s d M1.w a 4) (told.take r.1)).1::[(G.wp,.cells ⟨[.slice G2.aw M1.w.length G2.cw,G2.nv,G2.bv,r.2.1,G2.ev]⟩ 94)]::r.2.2.1::G2.ec::[((Yh G s).np,.cells ⟨[Zfo g m.site,pt g.rp 0,sl g.bl 0 6 6,sl g.bd 0 6 6]⟩ 150)]::[(g.bl,.cells ⟨(Qy g m).set d (pt lp 0)⟩ 209)]::Zmr g m::Zny g s m.site::Znx g m.site::W5 g.rp m.pl g.left::A::B::G2.nc::G2.bc::X::c::L)
         (fun r=>r.1≤told.length∧(Zz (Zh s d M1.w a 4) (told.take r.1)).2.length≤7*r.1∧Z0 r.2.1 (M2.l++Xw (Zh s d M1.w a 4)++(Zz (Zh s d M1.w a 4) (told.take r.1)).2) r.2.2.1∧∃hs,Z0 r.2.2.2.1 hs r.2.2.2.2∧RelH (Zz (Zh s d M1.w a 4) (told.take r.1)).1 hs) (fun r=>told.length-r.1) (0,lv3,lc3,Yt,[]) uS (Z15 _)
         ⟨by simp,by simp[Zz],by simp only[List.take_zero,Zz,List.foldl_nil,Z2p];exact hv3,[],Zt,hrel0⟩ ?_
        rintro⟨i,lv4,lc4,hv4,hc4⟩ ⟨hi,hlen4,hvl4,hs4,hH4,hrel4⟩
        simp only at hi hlen4 hvl4 hH4 hrel4 ⊢
        obtain⟨hI4,hF4⟩:=hho i
        have hlast:i=told.length→Zz (Zh s d M1.w a 4) (told.take i)=Zz (Zh s d M1.w a 4) told:=fun e=>by rw[e,Z4c]
        have hsucc:=fun h=>Zi1 (Zh s d M1.w a 4) told i h
        by_cases hit:i<told.length
        ·specialize hsucc hit
         have hl3:=Zb3 (Zz (Zh s d M1.w a 4) (told.take i)).1 told[i]
         rw[hI4.ww]at hl3
         have hck:Ys (Zz (Zh s d M1.w a 4) (told.take i)).1.w=none:=by rw[hI4.ww];exact hM1.w0
         have hRx:Rd ic 1 L G2.aw (Zz (Zh s d M1.w a 4) (told.take i)).1.w:=by rw[hI4.ww];exact hRwB
         have hrel5:=hrel4.hear told[i]
         have kh:=fun L hR=>Zjh lp G2.aw G2.cw hv4 hc4 (Zz (Zh s d M1.w a 4) (told.take i)).1 hs4 told[i] L hR hck hH4 hrel4
         obtain⟨b5,i5,l5,F5,fr5,e6,hb5,hg5⟩:=(hRf L).at (j:=(i:Int)) (by omega) (by omega)
         subst e6
         have hgi:told[(i:Int).toNat]'(by omega)=told[i]:=rfl
         rw[hgi]at hg5
         clear hlast hI4 hF4 hho
         generalize Zz (Zh s d M1.w a 4) (told.take i)=Q at*
         obtain⟨x3,fs3⟩:=Q
         simp only at hlen4 hvl4 hH4 hrel4 hl3 hck hRx hrel5 kh hsucc ⊢
         generalize told[i]=f at*
         obtain⟨ffr,fto,fdl,fkd,fatt,fys,fs⟩:=f
         repeat' (first|refine uN ?_|refine uC (kfin2 _) ?_|refine uD (fun _=>kfin2 _) ?_|(refine uB ?_;intro b)|(refine uP ?_ ?_<;>intro h<;>try exact zx)|refine uG ?_|fail)
         refine gc (kh _ (Rd.up hRx [_,_,_,_,_,_,_,_,_,_,_,_,_,_,_])) ?_
         rintro v L' ⟨c4,hv5,hc5,hv6,hH5,rfl⟩
         obtain⟨a9,cap9,rfl,-,hR9⟩:=hv6.rd Zi
         repeat' (first|refine uN ?_|refine uC (kfin2 _) ?_|refine uD (fun _=>kfin2 _) ?_|(refine uB ?_;intro b)|(refine uP ?_ ?_<;>intro h<;>try exact zx)|refine uG ?_|fail)
         refine fo 3 ?_
         refine fo 3 ?_
         refine gc (ks _ _ _ (Zw x3 ⟨ffr,fto,fdl,fkd,fatt,fys,fs⟩).2 _ _ _ hvl4 (hR9 _) (by simp only[Z2i,hRL];omega)) ?_
         rintro v L' ⟨lv7,lc7,hv7,rfl,rfl⟩
         repeat' (first|refine uN ?_|refine uC (kfin2 _) ?_|refine uD (fun _=>kfin2 _) ?_|(refine uB ?_;intro b)|(refine uP ?_ ?_<;>intro h<;>try exact zx)|refine uG ?_|fail)
         refine Ze (i+1,lv7,lc7,hv5,hc5) uS ?_ ⟨by simp only;omega,?_,?_,Ql x3 hs4 ⟨ffr,fto,fdl,fkd,fatt,fys,fs⟩,hH5,?_⟩ (by simp only;omega)
         ·simp only[hsucc]
          exact uL
         ·simp only[hsucc,Z2i]
          omega
         ·simp only[hsucc]
          rw[← Z18]
          exact hv7
         ·simp only[hsucc]
          exact hrel5
        ·obtain rfl:i=told.length:=by omega
         rw[hlast rfl]at hvl4 hrel4 ⊢
         repeat' (first|refine uN ?_|refine uC (kfin2 _) ?_|refine uD (fun _=>kfin2 _) ?_|(refine uB ?_;intro b)|(refine uP ?_ ?_<;>intro h<;>try exact zx)|refine uG ?_|fail)
         obtain⟨L9,hP,hLS⟩:=hsh { G2 with lv:=lv4,lc:=lc4 } { M2 with l:=M2.l++Xw (Zh s d M1.w a 4)++(Zz (Zh s d M1.w a 4) told).2 } { g with ld:=g.ld.set d (lp,hv4,hc4) } { m with leads:=m.leads.set d (some (Zz (Zh s d M1.w a 4) told).1) } (hW2.setL hvl4) rfl rfl Zmt (hokD lp hv4 hc4 _ hs4 hH4 hrel4) rfl
         obtain⟨G3,eS3,hW3,rfl⟩:=hP
         simp only[Z2w]at htd
         refine Ze (d+1,G3) uS ?_ ⟨by simp only;omega,by simp only[htd],by simp only[htd];exact hW3,(eS.trans eS2).trans eS3⟩ (by simp only;omega)
         simp only[htd]
         refine LS.trans Zs5 (LS.trans hLS ?_)
         rw[← hgnp]
         simp only[Vj,Zfa,Zc6,Zjx,Ui,ewp2,hwlG2]
         rw[eBs _ (lp,hv4,hc4),eVs _ (lp,hv4,hc4)]
         exact LS.trans ls8 uL
       ·simp only[Vj,Zfa,Zc6,Zjx,Ui,ewp2,hwlG2,hgnp]
        rw[eA]
        exact ls8n
    ·have hst2:¬ (ab'+1+jj) % M1.w.length=s:=fun h=>hlt (hst.1 h)
     repeat' (first|refine uN ?_|refine uC (kfin2 _) ?_|refine uD (fun _=>kfin2 _) ?_|(refine uB ?_;intro b)|(refine uP ?_ ?_<;>intro h<;>try exact zx)|refine uG ?_|fail)
     refine Ze (ab'+1+(jj:Int)+1) uS (LS.refl _) ⟨jj+1,by push_cast;omega,by push_cast;omega⟩ (by omega)
  ·obtain rfl:d=6:=by omega
   repeat' (first|refine uN ?_|(refine uB ?_;intro b)|(refine uP ?_ ?_<;>intro h<;>try exact zx)|refine uM ?_|fail)
   exact Z3 (LS.refl _) ⟨rfl,G1,eS,hW1,rfl⟩
end
theorem Zt8{aw:Option Addr}{cw:Nat}{g:NrG}{m:Nd}:∀{gs:List NrG} {ms:List Nd} {i:Nat},gs.length=ms.length→Zba aw cw (gs++[g]) (ms++[m]) i=Zba aw cw gs ms i++Zkn aw cw g ((i+gs.length:Nat):Int) m
 | [],[],i,_=>by simp[Zba]
 | g0::gs,m0::ms,i,h=>by
  have ih:=Zt8 (aw:=aw) (cw:=cw) (g:=g) (m:=m) (gs:=gs) (ms:=ms) (i:=i+1) (by simpa using h)
  simp only[Z19,Zba,ih,Z18,Z2y]
  rw[show i+1+gs.length=i+(gs.length+1) by omega]
 | [],_::_,_,h=>by simp at h
 | _::_,[],_,h=>by simp at h
theorem bytes512:List.replicate (Int.toNat 512) (Value.int .u8 0)=(Yg 512).map u8:=(Zm3 512).symm
theorem Zy7(b:Nat):W5 b ⟨Yg 512,false,-1⟩ 0=[(b,.cells ⟨[bs (Yg 512),.bool false,iv 0,.bool false]⟩ 144)]:=rfl
theorem Zhu:(Yg 512).length=512:=Zpj 512
def ld6:List (Nat × Value × List Zp):=List.replicate 6 (0,Yt,[])
theorem Zh5{x y n a b c d e f:List Zp}{L:Za}:LS (x::y::(n++(a++(b++(c++(d++(e++(f++[])))))))::L).flatten (x::y::n::a::b::c::d::e::f::L).flatten:=LS.of_eq (by simp only[Z17,Z18,Z2p,Z2b])
theorem nrOk_new{np rp rs bR bA bB:Nat}{r:RJ}(hr:r.rp=rp):NrOk ⟨np,rp,0,rs,bR,r,bA,bB,ld6⟩ newNd:=by
 refine⟨rfl,hr,fun h=>absurd rfl h,fun d x hx=>?_⟩
 simp only[newNd,Z8,Z24]at hx
 split at hx<;>cases hx
section
attribute [local irreducible] Zq Zu Zaj Zgd Yg
theorem Zjy(w:List Int)(aw:Option Addr)(cw:Nat)(L:Za)(hw:w.length≤7):
  HC prog 29 [.slice aw w.length cw] L (fun v L'=>∃G,v=pt G.wp 0∧G.aw=aw∧G.cw=cw∧RwOk G (Vg w)∧L'=X3 G (Vg w)++L):=by
 refine uE func29 ntmps29 ?_
 repeat' (first|refine uN ?_|(refine uB ?_;intro b)|(refine uP ?_ ?_<;>intro h<;>try exact zx)|refine uG ?_|fail)
 generalize b=wp
 refine Wf (L':=[]::[(wp,.cells ⟨[.slice aw w.length cw,Yt,Yt,Yt,Yt]⟩ 94)]::[]::L) ?_ uL
 refine Zm (σ:=Nat × Value × List Zp × List NrG) (fun r=>[(0,.slice aw w.length cw),(3,pt wp 0),(4,iv r.1)])
  (fun r=>r.2.2.1::[(wp,.cells ⟨[.slice aw w.length cw,r.2.1,Yt,Yt,Yt]⟩ 94)]::Zba aw cw r.2.2.2 (List.replicate r.1 newNd) 0::L)
  (fun r=>r.1≤w.length∧r.2.2.2.length=r.1∧Vec 145 1 pc r.2.1 (r.2.2.2.map (·.np)) r.2.2.1∧∀g∈r.2.2.2,NrOk g newNd) (fun r=>w.length-r.1) (0,Yt,[],[]) uS (Z15 _) ⟨by simp,rfl,Zt,by simp⟩ ?_
 rintro⟨i,nv,nc,nd⟩ ⟨hi,hnl,hnv,hok⟩
 simp only at hi hnl hnv hok ⊢
 by_cases hlt:i<w.length
 ·obtain⟨an,capn,he,-,-⟩:=hnv.rd Vh
  subst he
  have kn:=fun rp L=>Zd4 i rp ⟨Yg 512,false,-1⟩ 0 L (by simp only[Zhu];omega) (by simp only[Zhu];omega)
  simp only[Zy7]at kn
  have hz5:=Zhu
  repeat' (first|refine uN ?_|(refine uB ?_;intro b)|(refine uP ?_ ?_<;>intro h<;>try exact zx)|refine uG ?_|fail)
  rw[bytes512]
  refine X7 (qtx S (Zhc _ _ _ _) ?_) ?_
  ·exact Zhu
  generalize b=bytes
  repeat' (first|refine uN ?_|(refine uB ?_;intro b)|(refine uP ?_ ?_<;>intro h<;>try exact zx)|refine uG ?_|fail)
  generalize b=rp
  have eN:∀np rs bR (r:RJ) bA bB,Zba aw cw (nd++[⟨np,rp,0,rs,bR,r,bA,bB,ld6⟩]) (List.replicate (i+1) newNd) 0=Zba aw cw nd (List.replicate i newNd) 0++([(np,.cells ⟨[pt rs 0,pt rp 0,sl bA 0 6 6,sl bB 0 6 6]⟩ 150)]++([(bA,.cells ⟨Z0t⟩ 209)]++([(bB,.cells ⟨List.replicate 6 (.bool false)⟩ 4)]++(Zgd rs r.rj bR i (fun _=>false)++(Zaj r ⟨Zq (Yg 512),false⟩++([(rp,.cells ⟨[bs (Yg 512),.bool false,iv 0,.bool false]⟩ 144)]++[])))))):=fun np rs bR r bA bB=>by
   rw[Z7e,Zt8 (by simp[hnl]),hnl,Z3o,← Zy7]
   rfl
  have hokN:∀np rs bR (r:RJ) bA bB,r.rp=rp→∀g∈nd++[(⟨np,rp,0,rs,bR,r,bA,bB,ld6⟩:NrG)],NrOk g newNd:=fun np rs bR r bA bB hr g hg=>by
   rcases Z2f.1 hg with h|h
   ·exact hok g h
   ·rw[Z3j.1 h]
    exact nrOk_new hr
  refine Zlg ?_ ?_ ?_
  ·refine gc (kn _ _) ?_
   rintro v L' ⟨rs,bR,r,rfl,hr,rfl⟩
   repeat' (first|refine uN ?_|(refine uB ?_;intro b)|(refine uP ?_ ?_<;>intro h<;>try exact zx)|refine uG ?_|fail)
   refine Zdw ?_ ?_
   ·repeat' (first|refine uN ?_|(refine uB ?_;intro b)|(refine uP ?_ ?_<;>intro h<;>try exact zx)|refine uG ?_|fail)
    rename_i bA bB np
    refine fo 8 ?_
    refine Zfc S np hnv Vh Zf9 ?_ (hby:=by simp only[Z26];omega) (hmax:=by simp only[Z26];omega)
    intro v' c' hv'
    obtain⟨a6,cap6,rfl,-,-⟩:=hv'.rd Vh
    repeat' (first|refine uN ?_|(refine uB ?_;intro b)|(refine uP ?_ ?_<;>intro h<;>try exact zx)|refine uG ?_|fail)
    refine Ze (i+1,_,c',nd++[⟨np,rp,0,rs,bR,r,bA,bB,ld6⟩]) uS ?_ ⟨by simp only;omega,by simp[hnl],by simp only[Z20,Z2s,Z3z];exact hv',hokN _ _ _ _ _ _ hr⟩ (by simp only;omega)
    simp only[eN]
    exact LS.trans Zh5 uL
   ·repeat' (first|refine uN ?_|(refine uB ?_;intro b)|(refine uP ?_ ?_<;>intro h<;>try exact zx)|refine uG ?_|fail)
    rename_i bB bA np
    refine fo 8 ?_
    refine Zfc S np hnv Vh Zf9 ?_ (hby:=by simp only[Z26];omega) (hmax:=by simp only[Z26];omega)
    intro v' c' hv'
    obtain⟨a6,cap6,rfl,-,-⟩:=hv'.rd Vh
    repeat' (first|refine uN ?_|(refine uB ?_;intro b)|(refine uP ?_ ?_<;>intro h<;>try exact zx)|refine uG ?_|fail)
    refine Ze (i+1,_,c',nd++[⟨np,rp,0,rs,bR,r,bA,bB,ld6⟩]) uS ?_ ⟨by simp only;omega,by simp[hnl],by simp only[Z20,Z2s,Z3z];exact hv',hokN _ _ _ _ _ _ hr⟩ (by simp only;omega)
    simp only[eN]
    exact LS.trans Zh5 uL
  ·repeat' (first|refine uN ?_|(refine uB ?_;intro b)|(refine uP ?_ ?_<;>intro h<;>try exact zx)|refine uG ?_|fail)
   refine Zdw ?_ ?_
   ·refine fo 1 ?_
    refine gc (kn _ _) ?_
    rintro v L' ⟨rs,bR,r,rfl,hr,rfl⟩
    repeat' (first|refine uN ?_|(refine uB ?_;intro b)|(refine uP ?_ ?_<;>intro h<;>try exact zx)|refine uG ?_|fail)
    rename_i bA bB np
    refine fo 8 ?_
    refine Zfc S np hnv Vh Zf9 ?_ (hby:=by simp only[Z26];omega) (hmax:=by simp only[Z26];omega)
    intro v' c' hv'
    obtain⟨a6,cap6,rfl,-,-⟩:=hv'.rd Vh
    repeat' (first|refine uN ?_|(refine uB ?_;intro b)|(refine uP ?_ ?_<;>intro h<;>try exact zx)|refine uG ?_|fail)
    refine Ze (i+1,_,c',nd++[⟨np,rp,0,rs,bR,r,bA,bB,ld6⟩]) uS ?_ ⟨by simp only;omega,by simp[hnl],by simp only[Z20,Z2s,Z3z];exact hv',hokN _ _ _ _ _ _ hr⟩ (by simp only;omega)
    simp only[eN]
    exact LS.trans Zh5 uL
   ·repeat' (first|refine uN ?_|(refine uB ?_;intro b)|(refine uP ?_ ?_<;>intro h<;>try exact zx)|refine uG ?_|fail)
    refine fo 2 ?_
    refine gc (kn _ _) ?_
    rintro v L' ⟨rs,bR,r,rfl,hr,rfl⟩
    repeat' (first|refine uN ?_|(refine uB ?_;intro b)|(refine uP ?_ ?_<;>intro h<;>try exact zx)|refine uG ?_|fail)
    rename_i bA bB np
    refine fo 8 ?_
    refine Zfc S np hnv Vh Zf9 ?_ (hby:=by simp only[Z26];omega) (hmax:=by simp only[Z26];omega)
    intro v' c' hv'
    obtain⟨a6,cap6,rfl,-,-⟩:=hv'.rd Vh
    repeat' (first|refine uN ?_|(refine uB ?_;intro b)|(refine uP ?_ ?_<;>intro h<;>try exact zx)|refine uG ?_|fail)
    refine Ze (i+1,_,c',nd++[⟨np,rp,0,rs,bR,r,bA,bB,ld6⟩]) uS ?_ ⟨by simp only;omega,by simp[hnl],by simp only[Z20,Z2s,Z3z];exact hv',hokN _ _ _ _ _ _ hr⟩ (by simp only;omega)
    simp only[eN]
    exact LS.trans Zh5 uL
  ·repeat' (first|refine uN ?_|(refine uB ?_;intro b)|(refine uP ?_ ?_<;>intro h<;>try exact zx)|refine uG ?_|fail)
   refine Zdw ?_ ?_
   ·refine fo 1 ?_
    refine gc (kn _ _) ?_
    rintro v L' ⟨rs,bR,r,rfl,hr,rfl⟩
    repeat' (first|refine uN ?_|(refine uB ?_;intro b)|(refine uP ?_ ?_<;>intro h<;>try exact zx)|refine uG ?_|fail)
    rename_i bB bA np
    refine fo 8 ?_
    refine Zfc S np hnv Vh Zf9 ?_ (hby:=by simp only[Z26];omega) (hmax:=by simp only[Z26];omega)
    intro v' c' hv'
    obtain⟨a6,cap6,rfl,-,-⟩:=hv'.rd Vh
    repeat' (first|refine uN ?_|(refine uB ?_;intro b)|(refine uP ?_ ?_<;>intro h<;>try exact zx)|refine uG ?_|fail)
    refine Ze (i+1,_,c',nd++[⟨np,rp,0,rs,bR,r,bA,bB,ld6⟩]) uS ?_ ⟨by simp only;omega,by simp[hnl],by simp only[Z20,Z2s,Z3z];exact hv',hokN _ _ _ _ _ _ hr⟩ (by simp only;omega)
    simp only[eN]
    exact LS.trans Zh5 uL
   ·repeat' (first|refine uN ?_|(refine uB ?_;intro b)|(refine uP ?_ ?_<;>intro h<;>try exact zx)|refine uG ?_|fail)
    refine fo 2 ?_
    refine gc (kn _ _) ?_
    rintro v L' ⟨rs,bR,r,rfl,hr,rfl⟩
    repeat' (first|refine uN ?_|(refine uB ?_;intro b)|(refine uP ?_ ?_<;>intro h<;>try exact zx)|refine uG ?_|fail)
    rename_i bB bA np
    refine fo 8 ?_
    refine Zfc S np hnv Vh Zf9 ?_ (hby:=by simp only[Z26];omega) (hmax:=by simp only[Z26];omega)
    intro v' c' hv'
    obtain⟨a6,cap6,rfl,-,-⟩:=hv'.rd Vh
    repeat' (first|refine uN ?_|(refine uB ?_;intro b)|(refine uP ?_ ?_<;>intro h<;>try exact zx)|refine uG ?_|fail)
    refine Ze (i+1,_,c',nd++[⟨np,rp,0,rs,bR,r,bA,bB,ld6⟩]) uS ?_ ⟨by simp only;omega,by simp[hnl],by simp only[Z20,Z2s,Z3z];exact hv',hokN _ _ _ _ _ _ hr⟩ (by simp only;omega)
    simp only[eN]
    exact LS.trans Zh5 uL
 ·obtain rfl:i=w.length:=by omega
  repeat' (first|refine uN ?_|(refine uB ?_;intro b)|(refine uP ?_ ?_<;>intro h<;>try exact zx)|refine uG ?_|fail)
  refine Z3 (L':=X3 ⟨wp,aw,cw,w.length,nv,nc,Yt,[],[],Yt,[],Yt,[],nd⟩ (Vg w)++L) ?_ ⟨⟨wp,aw,cw,w.length,nv,nc,Yt,[],[],Yt,[],Yt,[],nd⟩,rfl,rfl,rfl,⟨rfl,hnv,by simp[Vg,hnl],Zt,(fun a b=>by simp[Vg]),List.nodup_nil,(fun p hp=>by cases hp),Zt,Zt,fun s g m hg hm=>?_⟩,rfl⟩
  ·simp only[X3,Zfq,Ui,Z19,Z2b,Vg]
   exact uL
  ·have:m=newNd:=by
    simp only[Vg,Z24]at hm
    split at hm
    ·cases hm;rfl
    ·cases hm
   rw[this]
   exact hok g (Z3a hg)
end
section
attribute [local irreducible] Zq Zd8 Zbn U6 Ww Zzd
theorem Zw2(D:RwG)(M:Wm)(v:Int)(L:Za)(hRw:Rd ic 1 L D.aw M.w)(hD:RwOk D M)(hM:WI M)(hl:M.l.length≤99998000)(hv:0≤v)(hv2:v≤9223372036854775807)
  (hnum:∀s,Zd9 M s=none→∀k j ref,k<6→(Zd (W3 s M k).1 s).site=some (j,ref)→(j.l.getD k Zl).n+1<4294967296):
  HC prog 107 [pt D.wp 0,iv v] (X3 D M++L) (fun u L'=>u=iv (cdN (Zbg M v).2)∧Znf D (Zbg M v).1 L L'):=by
 have hself:=V9 hD L
 have hI:=Zhi hD L
 obtain⟨al,capl,hlv,hlr⟩:=hI.ls
 have hw:=hI.wp
 unfold Ui at hw
 rw[hlv]at hw
 have k7:=fun k=>Zt2 D M k L hD (by omega)
 have k8:=fun k=>Zq6 D M k L hD (by omega)
 have k9:=fun s d=>Zqu D M s d L hD hM (by omega)
 have k10:=fun s=>Zub D M s L hRw hD hM (by omega) (hnum s)
 have k11:=fun s d=>Znz D M s d L hD hM
 have k12:=fun a b w=>Zt6 D M a b w L hD hM
 have k13:=fun s n=>Zug D M s n L hD hM
 have k14:=fun s=>Zt1 D M s L hD hM
 have k15:=fun s=>Zw8 D M s L hD hM
 have k0:=fun k=>Zml D M k L hRw hD hM (by omega)
 generalize X3 D M++L=H at*
 unfold Zbg
 have hq0:0≤v / 16:=by omega
 have hr0:0≤v % 16∧v % 16<16:=by omega
 refine uE func107 ntmps107 ?_
 repeat' (first|refine uN ?_|(refine uP ?_ ?_<;>intro h<;>try exact zx)|fail)
 all_goals first|(rw[Z2d (show v % 16<9∧M.l.length=0 by omega)];exact Us rfl ⟨rfl,hself⟩)|(refine gc (k7 _) ?_;rintro u L' ⟨rfl,hP⟩;(repeat' (first|refine uN ?_|(refine uP ?_ ?_<;>intro h<;>try exact zx)|fail));rw[Z16 (show ¬ (v % 16<9∧M.l.length=0) by omega),Z2d (show v % 16=7 by omega)];exact Us rfl ⟨rfl,hP⟩)|(refine gc (k8 _) ?_;rintro u L' ⟨rfl,hP⟩;(repeat' (first|refine uN ?_|(refine uP ?_ ?_<;>intro h<;>try exact zx)|fail));rw[Z16 (show ¬ (v % 16<9∧M.l.length=0) by omega),Z16 (show ¬ v % 16=7 by omega),Z2d (show v % 16=8 by omega)];exact Us rfl ⟨rfl,hP⟩)|(refine gc (k9 _ _) ?_;rintro u L' ⟨rfl,hP⟩;(repeat' (first|refine uN ?_|(refine uP ?_ ?_<;>intro h<;>try exact zx)|fail));rw[Z16 (show ¬ (v % 16<9∧M.l.length=0) by omega),Z16 (show ¬ v % 16=7 by omega),Z16 (show ¬ v % 16=8 by omega),Z2d (show v % 16=9 by omega)];exact Us rfl ⟨rfl,hP⟩)|(refine gc (k10 _) ?_;rintro u L' ⟨rfl,hP⟩;(repeat' (first|refine uN ?_|(refine uP ?_ ?_<;>intro h<;>try exact zx)|fail));rw[Z16 (show ¬ (v % 16<9∧M.l.length=0) by omega),Z16 (show ¬ v % 16=7 by omega),Z16 (show ¬ v % 16=8 by omega),Z16 (show ¬ v % 16=9 by omega),Z2d (show v % 16=10 by omega)];exact Us rfl ⟨rfl,hP⟩)|(refine gc (k11 _ _) ?_;rintro u L' ⟨rfl,hP⟩;(repeat' (first|refine uN ?_|(refine uP ?_ ?_<;>intro h<;>try exact zx)|fail));rw[Z16 (show ¬ (v % 16<9∧M.l.length=0) by omega),Z16 (show ¬ v % 16=7 by omega),Z16 (show ¬ v % 16=8 by omega),Z16 (show ¬ v % 16=9 by omega),Z16 (show ¬ v % 16=10 by omega),Z2d (show v % 16=11 by omega)];exact Us rfl ⟨rfl,hP⟩)|(refine gc (k12 _ _ _) ?_;rintro u L' ⟨rfl,hP⟩;(repeat' (first|refine uN ?_|(refine uP ?_ ?_<;>intro h<;>try exact zx)|fail));rw[Z16 (show ¬ (v % 16<9∧M.l.length=0) by omega),Z16 (show ¬ v % 16=7 by omega),Z16 (show ¬ v % 16=8 by omega),Z16 (show ¬ v % 16=9 by omega),Z16 (show ¬ v % 16=10 by omega),Z16 (show ¬ v % 16=11 by omega),Z2d (show v % 16=12 by omega)];exact Us rfl ⟨rfl,hP⟩)|(refine gc (k13 _ _) ?_;rintro u L' ⟨rfl,hP⟩;(repeat' (first|refine uN ?_|(refine uP ?_ ?_<;>intro h<;>try exact zx)|fail));rw[Z16 (show ¬ (v % 16<9∧M.l.length=0) by omega),Z16 (show ¬ v % 16=7 by omega),Z16 (show ¬ v % 16=8 by omega),Z16 (show ¬ v % 16=9 by omega),Z16 (show ¬ v % 16=10 by omega),Z16 (show ¬ v % 16=11 by omega),Z16 (show ¬ v % 16=12 by omega),Z2d (show v % 16=13 by omega)];exact Us rfl ⟨rfl,hP⟩)|(refine gc (k14 _) ?_;rintro u L' ⟨rfl,hP⟩;(repeat' (first|refine uN ?_|(refine uP ?_ ?_<;>intro h<;>try exact zx)|fail));rw[Z16 (show ¬ (v % 16<9∧M.l.length=0) by omega),Z16 (show ¬ v % 16=7 by omega),Z16 (show ¬ v % 16=8 by omega),Z16 (show ¬ v % 16=9 by omega),Z16 (show ¬ v % 16=10 by omega),Z16 (show ¬ v % 16=11 by omega),Z16 (show ¬ v % 16=12 by omega),Z16 (show ¬ v % 16=13 by omega),Z2d (show v % 16=14 by omega)];exact Us rfl ⟨rfl,hP⟩)|(refine gc (k15 _) ?_;rintro u L' ⟨rfl,hP⟩;(repeat' (first|refine uN ?_|(refine uP ?_ ?_<;>intro h<;>try exact zx)|fail));rw[Z16 (show ¬ (v % 16<9∧M.l.length=0) by omega),Z16 (show ¬ v % 16=7 by omega),Z16 (show ¬ v % 16=8 by omega),Z16 (show ¬ v % 16=9 by omega),Z16 (show ¬ v % 16=10 by omega),Z16 (show ¬ v % 16=11 by omega),Z16 (show ¬ v % 16=12 by omega),Z16 (show ¬ v % 16=13 by omega),Z16 (show ¬ v % 16=14 by omega),Z2d (show v % 16=15 by omega)];exact Us rfl ⟨rfl,hP⟩)|(refine gc (k0 _) ?_;rintro u L' ⟨rfl,hP⟩;(repeat' (first|refine uN ?_|(refine uP ?_ ?_<;>intro h<;>try exact zx)|fail));rw[Z16 (show ¬ (v % 16<9∧M.l.length=0) by omega),Z16 (show ¬ v % 16=7 by omega),Z16 (show ¬ v % 16=8 by omega),Z16 (show ¬ v % 16=9 by omega),Z16 (show ¬ v % 16=10 by omega),Z16 (show ¬ v % 16=11 by omega),Z16 (show ¬ v % 16=12 by omega),Z16 (show ¬ v % 16=13 by omega),Z16 (show ¬ v % 16=14 by omega),Z16 (show ¬ v % 16=15 by omega)];exact Us rfl ⟨rfl,hP⟩)
theorem Zt9(D:RwG)(M:Wm)(v:Int)(H:Za)(hv:v<0):HC prog 107 [pt D.wp 0,iv v] H (fun u L'=>u=iv (-1)∧L'=H):=by
 refine uE func107 ntmps107 ?_
 repeat' (first|refine uN ?_|(refine uP ?_ ?_<;>intro h<;>try exact zx)|fail)
 exact Us rfl ⟨rfl,rfl⟩
end
end Go.HL
namespace Go.HL
open Go Go.Proofs Go.Proofs.Tryz
variable[Tasks]
def Zi4(m:Pl)(d:Nat):Int:=((Zq m.b).getD d Zl).n
theorem Zy1{m:Pl}{j:Jn}(h:JI m j)(deal:Int)(s:St)(q:Nat):((X2 m j deal s).2.1.l.getD q Zl).n≤(j.l.getD q Zl).n+1:=by
 have hp:=Zkm h deal s
 obtain⟨-,-,hp⟩:=hp
 rcases hp with⟨h1,-⟩|⟨-,-,-,-,⟨-,h1,-⟩|⟨-,h1⟩⟩
 ·rw[h1];omega
 ·rw[h1];omega
 ·rw[h1]
  by_cases e:q=deal.toNat
  ·subst e
   by_cases hl:deal.toNat<j.l.length
   ·simp[List.getD,Z2z,hl]
   ·simp[List.getD,Z2z,hl,Zl]
  ·simp[List.getD,Z2z,Ne.symm e]
   omega
theorem site_num{id:Int}{ref:Int→Bool}{m:Pl}{j:Jn}(h:SI m j)(f:Fr)(q:Nat):((Zu id ref m j f).2.1.l.getD q Zl).n≤(j.l.getD q Zl).n+1:=by
 unfold Zu
 split
 ·simp only;omega
 split
 ·simp only;omega
 split
 ·exact Zy1 h.ji _ _ _
 ·exact Zy1 h.ji _ _ _
theorem nd_num{w:List Int}{s:Nat}{m:Nd}(h:NdI w s m)(ev:List Evt)(f:Fr)(q:Nat):Zi4 (Vu s m ev f).1.pl q≤Zi4 m.pl q+1:=by
 unfold Vu
 split
 ·simp only;omega
 ·rename_i j ref hs
  have hS:=h.jn hs
  have hn:=site_num (id:=s) (ref:=ref) hS f q
  have hany:=(Zhl (id:=s) (ref:=ref) hS f).1
  have hl':(Zu s ref m.pl j f).2.1.l=Zq (Zu s ref m.pl j f).1.b:=hany.ji.l
  have hj:j.l=Zq m.pl.b:=hS.ji.l
  rw[hl',hj]at hn
  unfold Zi4
  split<;>exact hn
theorem nd_or(M:Wm)(s:Int)(m:Nd)(t:Int):Zd (Xm M s m) t=m∨Zd (Xm M s m) t=Zd M t:=by
 unfold Zd Xm
 simp only[List.getD,Z2z]
 split
 ·rename_i e
  split
  ·exact .inl rfl
  ·rename_i h
   right
   rw[← e,Z4s (by omega)]
 ·exact .inr rfl
def Num(M:Wm)(N:Int):Prop:=∀(s:Int) (d:Nat),Zi4 (Zd M s).pl d≤N
theorem Num.mono{M:Wm}{N N':Int}(h:Num M N)(hN:N≤N'):Num M N':=fun s d=>Int.le_trans (h s d) hN
theorem Num.set{M:Wm}{N N' s:Int}{m:Nd}(h:Num M N)(hN:N≤N')(hm:∀d,Zi4 m.pl d≤N'):Num (Xm M s m) N':=fun t d=>by
 rcases nd_or M s m t with e|e<;>rw[e]
 ·exact hm d
 ·exact Int.le_trans (h t d) hN
theorem Num.same{M:Wm}{N s:Int}{m:Nd}(h:Num M N)(hb:m.pl.b=(Zd M s).pl.b):Num (Xm M s m) N:=h.set (Z6s _) fun d=>by unfold Zi4;rw[hb];exact h s d
theorem Num.hear{M:Wm}{N s:Int}(h:Num M N)(hI:WI M)(h0:0≤s)(h1:s<M.n.length)(f:Fr):Num (Y4 M s f).1 (N+1):=by
 obtain⟨n,rfl⟩:=Z2t h0
 have hn:=hI.at h0 h1
 exact h.set (m:=(Vu n (Zd M n) M.ev f).1) (by omega) fun d=>by
  have:=nd_num hn M.ev f d
  have:=h n d
  simp only[Z2w] at*
  omega
theorem Num.tickD{M:Wm}{N:Int}{q:Wm × Bool}{s:Int}{k d:Nat}(h:Num q.1 N)(hT:TickOk M q s k)(h0:0≤s)(h1:s<M.n.length):Num (tickD s q d).1 (N+1):=by
 have hn:=hT.same.n
 have hh:=fun f=>h.hear hT.wi h0 (by rw[hn];exact h1) f
 have hm:=h.mono (N':=N+1) (by omega)
 unfold HL.tickD Zd8
 split
 ·exact hm
 split
 ·exact hm
 split
 ·exact hm
 split
 ·exact hm
 simp only
 split
 ·exact hm
 split
 ·exact hh _
 ·exact(hh _).same rfl
theorem Num.ticks{M:Wm}{N:Int}(h:Num M N)(hI:WI M){s:Int}(h0:0≤s)(h1:s<M.n.length)(hs:(Zd M s).site≠none):∀k:Nat,k≤6→Num ((List.range k).foldl (HL.tickD s) (M,true)).1 (N+k)
 | 0,_=>by simpa using h
 | k+1,hk=>by
  rw[Z4i,Z5b]
  exact(Num.tickD (d:=k) (Num.ticks h hI h0 h1 hs k (by omega)) (Zcg hI h0 h1 hs k (by omega)) h0 h1).mono (by push_cast;omega)
theorem Num.one{M:Wm}{N:Int}(h:Num M N)(hI:WI M)(v:Int):Num (Zbg M v).1 (N+6):=by
 have hm:=h.mono (N':=N+6) (by omega)
 unfold Zbg
 split
 ·exact hm
 split
 ·unfold Zdg;split<;>exact hm
 split
 ·unfold Zam;split<;>exact hm
 split
 ·unfold U6
  split
  ·exact hm
  split
  ·exact hm
  split
  ·exact hm
  ·exact hm.same rfl
 split
 ·unfold Zbn
  split
  ·exact hm
  ·rename_i hu
   obtain⟨h0,h1,hs⟩:=Zez hu
   exact h.ticks hI h0 h1 hs 6 (by omega)
 split
 ·unfold Up
  split
  ·exact hm
  split
  ·exact hm
  ·exact hm.same (m:=Q2 _ _) (by unfold Q2;split<;>rfl)
 split
 ·unfold Zdh;split<;>exact hm
 split
 ·unfold Zjr
  split
  ·exact hm
  split
  ·exact hm
  ·exact hm.same rfl
 split
 ·unfold Zdf;split
  ·exact hm
  ·exact hm.same rfl
 split
 ·unfold Zzd
  split
  ·exact hm
  split
  ·exact hm
  ·exact hm.same rfl
 unfold Ww
 split
 ·exact hm
 rename_i hk
 obtain⟨⟨hbad,hto,hfr⟩,hk0,hk1⟩:=Zlc hI hk
 have hE:=hI.erase (v / 16 % M.l.length).toNat
 have hn:=hI.wn
 generalize M.l.getD (v / 16 % M.l.length).toNat Yb=f at*
 unfold Wc at hbad
 simp only
 split
 ·exact hm
 split
 ·split
  ·exact hm
  ·exact hm.same rfl
 ·exact(Num.hear (M:={ M with l:=M.l.eraseIdx (v / 16 % M.l.length).toNat }) h hE (by omega) (by simp only;omega) f).mono (by omega)
theorem num_new{w:List Int}:Num (Vg w) 0:=fun s d=>by
 have hz:∀d,(List.replicate 6 Zl).getD d Zl=Zl:=fun d=>by
  rw[List.getD,Z24]
  split<;>rfl
 unfold Zi4 Zd Vg
 simp only[List.getD,Z24]
 split
 ·simp only[Z46]
  unfold newNd
  simp only
  rw[Zl7 (by omega),← List.getD_eq_getElem?_getD,hz]
  exact Z6s _
 ·simp only[Z6z]
  rw[show Zq []=List.replicate 6 Zl by kernel_rfl,← List.getD_eq_getElem?_getD,hz]
  exact Z6s _
theorem num_of{M:Wm}{N:Int}(h:Num M N)(hI:WI M)(hN:N+8<4294967296)(s:Int)(hu:Zd9 M s=none)(k:Nat)(j:Jn)(ref:Int→Bool)(hk:k<6)(hs:(Zd (W3 s M k).1 s).site=some (j,ref)):(j.l.getD k Zl).n+1<4294967296:=by
 obtain⟨h0,h1,hs0⟩:=Zez hu
 have hb:Num (W3 s M k).1 (N+k):=h.ticks hI h0 h1 hs0 k (by omega)
 have ht:TickOk M (W3 s M k) s k:=Zcg hI h0 h1 hs0 k (by omega)
 have hn:=ht.same.n
 have hni:=ht.wi.at h0 (by omega)
 obtain⟨rfl,-⟩:=hni.up j ref hs
 have:=hb s k
 unfold Zi4 at this
 simp only
 omega
theorem Zuc{M:Wm}{N:Int}(h:Num M N)(hI:WI M)(l:List Int):∀i:Nat,i≤l.length→Num ((l.take i).foldl Zak (M,[])).1 (N+6*i)
 | 0,_=>h.mono (by omega)
 | i+1,hi=>by
  have ih:=Zuc h hI l i (by omega)
  have hw:=(Zhh (l.take i) (M:=M) (q:=(M,[])) (k:=0) (.refl hI 0)).1.wi
  rw[Zbv M l i (by omega)]
  unfold Zak
  split
  ·exact(ih.one hw _).mono (by push_cast;omega)
  ·exact ih.mono (by push_cast;omega)
attribute [local irreducible] HW HO HQ HD HC QOp Has Upd Yi Gets Vv W6 Xn Zaf Wa Yz Zcl Xy
section
attribute [local irreducible] Zbg
theorem Zw4(D:RwG)(M:Wm)(a:Option Addr)(cap:Nat)(l:List Int)(L:Za)(hRw:Rd ic 1 L D.aw M.w)(hD:RwOk D M)(hM:WI M){N:Int}(hB:Num M N)(hN:N+6*l.length+8<4294967296)(hl:M.l.length+84*l.length≤99998000)(hl3:l.length≤3000)(hR:Rd ic 1 L a l)(hd:∀v∈l,v≤9223372036854775807):
  HC prog 50 [pt D.wp 0,.slice a l.length cap] (X3 D M++L) (fun v L'=>∃c,Vec 3 1 ic v (Zal M l).2 c∧Znf D (Zal M l).1 (c::L) L'):=by
 have hfin:(l.take l.length).foldl Zak (M,[])=Zal M l:=by unfold Zal;rw[Z4c,Z3d hl3]
 have hok:=fun i=>Zhh (l.take i) (M:=M) (q:=(M,[])) (k:=0) (.refl hM 0)
 have hbn:=Zuc hB hM l
 have hsucc:=Zbv M l
 refine uE func50 ntmps50 ?_
 repeat' (first|refine uN ?_|(refine uB ?_;intro b)|(refine uP ?_ ?_<;>intro h<;>try exact zx)|fail)
 refine Wf (L':=[]::(X3 D M++L)) ?_ (LS.refl _)
 refine Zm (σ:=Nat × Value × List Zp × RwG) (fun r=>[(0,pt D.wp 0),(1,.slice a l.length cap),(5,r.2.1),(6,iv r.1)])
  (fun r=>r.2.2.1::(X3 r.2.2.2 ((l.take r.1).foldl Zak (M,[])).1++L))
  (fun r=>r.1≤l.length∧Vec 3 1 ic r.2.1 ((l.take r.1).foldl Zak (M,[])).2 r.2.2.1∧RwOk r.2.2.2 ((l.take r.1).foldl Zak (M,[])).1∧RwS D r.2.2.2) (fun r=>l.length-r.1) (0,Yt,[],D) uS (Z15 _) ⟨by simp,Zt,hD,.refl D⟩ ?_
 rintro⟨i,v1,c,G1⟩ ⟨hi,hv,hW1,eS⟩
 simp only at hi hv hW1 eS ⊢
 obtain⟨a5,cap5,he5,-,-⟩:=hv.rd X0
 subst he5
 obtain⟨⟨hM1,hsame,hlen⟩,hl2⟩:=hok i
 have hti:(l.take i).length=i:=by rw[Z3g];omega
 rw[hti]at hlen hl2
 by_cases hit:i<l.length
 ·have hs:=hsucc i (by omega)
  have hbi:=hbn i hi
  obtain⟨b9,bi,q,F,fr,rfl,hb,hg⟩:=hR.at1 (j:=(i:Int)) (by omega) (by omega)
  have eg:l[(i:Int).toNat]'(by omega)=l[i]:=rfl
  rw[eg]at hg
  have hdi:=hd l[i] (Z3c _)
  clear hok hfin hsucc eg hbn
  obtain⟨M1,cs,hQ⟩:∃M1 cs,(l.take i).foldl Zak (M,[])=(M1,cs):=⟨_,_,rfl⟩
  simp only[hQ,Z23,Z3o]at hs hv hW1 hM1 hsame hlen hl2 hbi ⊢
  generalize l[i]=x at*
  have hb':Has (X3 G1 M1++L) b9 (.cells ⟨q⟩ F fr):=Zp6 hb
  by_cases hx:0≤x
  ·have k1:=Zw2 G1 M1 x (c::L) (by rw[eS.aw,hsame.w];exact hRw.cons _) hW1 hM1 (by omega) hx hdi (fun s hu k j ref hk hsi=>num_of hbi hM1 (by omega) s hu k j ref hk hsi)
   have hrv:Zak (M1,cs) x=((Zbg M1 x).1,cs++[cdN (Zbg M1 x).2]):=Z2d hx
   rw[hrv]at hs
   clear hrv
   rw[eS.wp]at k1
   generalize Zbg M1 x=R at*
   obtain⟨M2,e⟩:=R
   simp only at k1 hs
   generalize hH:X3 G1 M1++L=H at*
   repeat' (first|refine uN ?_|(refine uB ?_;intro b)|(refine uP ?_ ?_<;>intro h<;>try exact zx)|fail)
   subst hH
   refine Uk (L':=X3 G1 M1++(c::L)) ?_ ls_in
   refine gc k1 ?_
   rintro v L' ⟨rfl,G2,f1,f3,rfl⟩
   generalize hH2:X3 G2 M2++(c::L)=H2 at*
   repeat' (first|refine uN ?_|(refine uB ?_;intro b)|(refine uP ?_ ?_<;>intro h<;>try exact zx)|fail)
   subst hH2
   refine Uk (L':=c::[(b,.cells ⟨[iv (cdN e)]⟩ 3)]::(X3 G2 M2++L)) ?_ (LS.trans (LS.p1 (LS.refl _)) (LS.k ls_in'))
   refine Zfc S (cdN e) hv X0 Zh1 ?_
   intro v' c' hv'
   repeat' (first|refine uN ?_|(refine uB ?_;intro b)|(refine uP ?_ ?_<;>intro h<;>try exact zx)|fail)
   refine Ze (i+1,v',c',G2) uS ?_ ⟨by simp only;omega,by simp only[hs];exact hv',by simp only[hs];exact f3,eS.trans f1⟩ (by simp only;omega)
   simp only[hs]
   exact uL
  ·have hrv:Zak (M1,cs) x=(M1,cs++[-1]):=Z16 hx
   rw[hrv]at hs
   have k1:=fun H=>Zt9 G1 M1 x H (by omega)
   rw[eS.wp]at k1
   generalize hH:X3 G1 M1++L=H at*
   repeat' (first|refine uN ?_|refine uC (k1 _) ?_|(refine uB ?_;intro b)|(refine uP ?_ ?_<;>intro h<;>try exact zx)|fail)
   subst hH
   refine fo 1 ?_
   refine Zfc S (-1) hv X0 Zh1 ?_
   intro v' c' hv'
   repeat' (first|refine uN ?_|(refine uB ?_;intro b)|(refine uP ?_ ?_<;>intro h<;>try exact zx)|fail)
   refine Ze (i+1,v',c',G1) uS ?_ ⟨by simp only;omega,by simp only[hs];exact hv',by simp only[hs];exact hW1,eS⟩ (by simp only;omega)
   simp only[hs]
   exact uL
 ·obtain rfl:i=l.length:=by omega
  rw[hfin]at hv hW1 ⊢
  repeat' (first|refine uN ?_|(refine uB ?_;intro b)|(refine uP ?_ ?_<;>intro h<;>try exact zx)|fail)
  exact Z3 (L':=X3 G1 (Zal M l).1++(c::L)) ls_in ⟨c,hv,G1,eS,hW1,rfl⟩
end
end Go.HL
namespace Go.HL
open Go Go.Proofs Go.Proofs.Tryz
variable[Tasks]
def FV(T:Nat)(E:Nat→Addr)(v:Value)(code at_:Int)(c:List Zp):Prop:=(∃e,okE e∧v=eV T E e∧code=cdN e∧(e=none∨at_=-1)∧c=[])∨∃(pb k:Nat),List.elem k all9=true∧v=.iface 158 (pt pb 0)∧code=k∧c=faC pb at_ T E (some k)
theorem FV.nil{T:Nat}{E:Nat→Addr}{at_:Int}:FV T E .nilIface 0 at_ []:=.inl ⟨none,trivial,rfl,rfl,.inl rfl,rfl⟩
theorem FV.bare{T:Nat}{E:Nat→Addr}{k:Nat}(h:List.elem k all9=true):FV T E (eV T E (some k)) k (-1) []:=.inl ⟨some k,h,rfl,rfl,.inr rfl,rfl⟩
theorem FV.at{T:Nat}{E:Nat→Addr}{k:Nat}(h:List.elem k all9=true)(pb:Nat)(x:Int):FV T E (.iface 158 (pt pb 0)) k x (faC pb x T E (some k)):=.inr ⟨pb,k,h,rfl,rfl,rfl⟩
theorem FV.zero{T:Nat}{E:Nat→Addr}{v:Value}{at_:Int}{c:List Zp}(h:FV T E v 0 at_ c):v=.nilIface∧c=[]:=by
 rcases h with⟨e,he,rfl,hc,-,rfl⟩|⟨pb,k,hk,-,hc,-⟩
 ·cases e with
  | none=>exact⟨rfl,rfl⟩
  | some k=>
   have:k=0:=by simp only[cdN]at hc;omega
   subst this
   exact absurd (show List.elem 0 all9=true from he) (by decide)
 ·have:k=0:=by omega
  subst this
  exact absurd hk (by decide)
def Zy5(p:Zp):Zp:=(p.1,Zr p.2)
def Pc(A:List Zp):Prop:=∀p∈A,∃c E,p.2=.cells c E (0,0)
theorem wk_all:∀{A:List Zp} {L:Za},Pc A→Wk (A::L) (A.map Zy5::L)
 | [],L,_=>.refl _
 | (b,o)::A,L,h=>by
  obtain⟨c,E,rfl⟩:∃c E,o=.cells c E (0,0):=h _ (.head _)
  have h1:Wk (((b,.cells c E (0,0))::A)::L) ([(b,.cells c E (0,0))]::A::L):=.ls (.of_eq (by simp))
  have h2:Wk ([(b,.cells c E (0,0))]::A::L) ([(b,Zr (.cells c E (0,0)))]::A::L):=Zpi Xx Z1i
  have h3:Wk (A::[(b,Zr (.cells c E (0,0)))]::L) (A.map Zy5::[(b,Zr (.cells c E (0,0)))]::L):=wk_all fun p hp=>h p (.tail _ hp)
  refine h1.trans (h2.trans ((Wk.ls uL).trans (h3.trans (.ls ?_))))
  exact LS.trans (b:=([(b,Zr (.cells c E (0,0)))]::A.map Zy5::L:Za).flatten) (.of_eq (by simp[Zy5])) uL
theorem Rd.ro{α:Type}{enc:α→List Value}{sz:Nat}{A:List Zp}{L:Za}{a:Option Addr}{xs:List α}(h:Rd enc sz (A::L) a xs):Rd enc sz (A.map Zy5::L) a xs:=by
 rcases h with h|⟨b,i,l,E,fr,h1,hb,hg⟩
 ·exact .inl h
 ·unfold Has at hb
  rw[Z17]at hb
  rcases Z2f.1 hb with hb|hb
  ·exact .inr ⟨b,i,l,E,_,h1,Yr (Z2v.2 ⟨_,hb,rfl⟩),hg⟩
  ·exact .inr ⟨b,i,l,E,fr,h1,Zb hb,hg⟩
theorem Zxm{α:Type}{E sz:Nat}{enc:α→List Value}{v:Value}{xs:List α}{c:List Zp}(h:Vec E sz enc v xs c):Pc c:=by
 rcases h with⟨-,-,-,rfl⟩|⟨b,cap,sp,-,rfl,-⟩
 ·intro p hp;cases hp
 ·intro p hp
  simp only[Z3j]at hp
  subst hp
  exact⟨_,_,rfl⟩
theorem Z1h{wk m:Int}{c:Nat}(h:Zai wk m=some c):okE (some c)∧0<c:=by
 unfold Zai at h
 by_cases a1:wk<1
 ·rw[Z2d a1]at h;cases h;exact⟨rfl,by omega⟩
 by_cases a2:16<wk
 ·rw[Z16 a1,Z2d a2]at h;cases h;exact⟨rfl,by omega⟩
 by_cases a3:100<m
 ·rw[Z16 a1,Z16 a2,Z2d a3]at h;cases h;exact⟨rfl,by omega⟩
 rw[Z16 a1,Z16 a2,Z16 a3]at h;cases h
theorem take_ns{xs:List Sc}{i:Nat}(hi:i<xs.length):(xs.take (i+1)).map (·.ns)=(xs.take i).map (·.ns)++[xs[i].ns]:=by
 rw[Z2n hi,Z20];rfl
theorem rd_told{w:List Int}{ss:List (List Int)}{i:Nat}{x:Tl2}{bl:List Zp}{L:Za}(h:Zir w ss i x bl)(hb:∀p∈bl,p∈L.flatten):
  x.n=(Zal (Vg w) (ss.getD i [])).2.length∧x.m=(Zal (Vg w) (ss.getD i [])).1.ev.length∧Rd ic 1 L x.a (Zal (Vg w) (ss.getD i [])).2∧Rd ec 3 L x.b (Zal (Vg w) (ss.getD i [])).1.ev:=by
 obtain⟨c1,c2,h1,h2,rfl⟩:=h
 obtain⟨a1,n1,e1,-,r1⟩:=h1.rd X0
 obtain⟨a2,n2,e2,-,r2⟩:=h2.rd Vt
 obtain⟨rfl,e3,-⟩:=Z4q e1
 obtain⟨rfl,e4,-⟩:=Z4q e2
 refine⟨e3,e4,(r1 []).mono fun b o ho=>?_,(r2 []).mono fun b o ho=>?_⟩
 ·exact hb _ (Z2x _ (by simpa[Has] using ho))
 ·exact hb _ (Z2q _ (by simpa[Has] using ho))
def HB(P:Program)(f:Nat)(fn:Func)(args:List Value)(L:Za)(Q:Value→Za→Prop):Prop:=∃c n,P.funcs[f]?=some fn∧fn.body=some c∧fn.ntmps=n∧args.length≤n∧HW P n c (Zaf P fn Q) (Q6 0 args) L
theorem hb_enter{P:Program}{f:Nat}{fn:Func}{c:Code}{args:List Value}{L:Za}{Q:Value→Za→Prop}(hf:P.funcs[f]?=some fn)(hb:fn.body=some c){n:Nat}(hn:fn.ntmps=n)(hlen:args.length≤n)
  (h:HW P n c (Zaf P fn Q) (Q6 0 args) L):HB P f fn args L Q:=⟨c,n,hf,hb,hn,hlen,h⟩
attribute [local irreducible] HW HO HQ HD HC QOp Has Upd Yi Gets Vv W6 Xn Zaf Wa Yz Zcl Xy
theorem Zfg(T:Nat)(E:Nat→Addr)(e:Option Nat)(L:Za)(hE:Ez T E L)(he:okE e)(x:Int)(hx:e=none∨x=-1):HC prog 57 [eV T E e,.agg ⟨[iv (cdN e),iv x]⟩] L (fun v L'=>v=.bool true∧L'=L):=by
 have hc:=fun c=>Zr5 T E e (c::L) (hE.cons c) he
 refine uE func57 ntmps57 ?_
 rcases hx with rfl|rfl
 ·repeat' (first|refine uN ?_|refine uC (hc _) ?_|(refine uB ?_;intro b)|(refine uP ?_ ?_<;>intro h<;>try exact zx)|fail)
  all_goals first|contradiction|exact Z3 uZ ⟨rfl,rfl⟩|(refine Z3 uZ ⟨?_,rfl⟩;simp_all [cdN])
 ·repeat' (first|refine uN ?_|refine uC (hc _) ?_|(refine uB ?_;intro b)|(refine uP ?_ ?_<;>intro h<;>try exact zx)|fail)
  all_goals first|contradiction|exact Z3 uZ ⟨rfl,rfl⟩|(refine Z3 uZ ⟨?_,rfl⟩;simp_all [cdN])
section
attribute [local irreducible] Ze5 Zpv Zej Ze7 Zal Vg Zxp
section
variable[Go.ConcR.Payload]
theorem Zj0{t:Tk}{C E0:Nat}{o0:Array Value}{f0:Nat × Nat}{v0:Value}{Lr L0:Za}(T:Nat)(E:Nat→Addr)(w:List Int)(xs:List Sc)(wk:Int)(aw a:Option Addr)(capw cap:Nat)(hT:Tasks.T=240)(hA:AtC C (.cells o0 E0 f0) Lr)(hl:o0[0]?=some v0)(h12:t.st=12)
  (hro:∀p∈Lr.flatten,Zq1 p.2=true)(hls:LS Lr.flatten L0.flatten)(hE:Ez T E Lr)(hR:Rd ic 1 Lr aw w)(hS:Rd se 1 Lr a xs)(hS2:∀s∈xs,Rd ic 1 Lr s.a s.ns∧s.ns.length≤s.c∧s.ns.length≤1048576∧∀v∈s.ns,v≤9223372036854775807)
  (hR0:∀i v bl,Tasks.R 0 i v bl↔∃x,v=Zde i (fc x)∧FrR i x bl)(hR1:∀i v bl,Tasks.R 1 i v bl↔∃x,v=Zde i (tc x)∧Zir w (xs.map (·.ns)) i x bl):
  HB prog 12 Tryz.f12 [.slice aw w.length capw,.slice a xs.length cap,iv wk] ([t.at_]::L0) (fun v L'=>∃t':Tk,t'.st=12∧v=.bool true∧L'=[t'.at_]::L0):=by
 have up:∀b o,Has Lr b o→Has L0 b o:=fun b o hb=>by unfold Has at *;exact hls.mem hb
 have hE0:=hE.mono up
 have hRw:=hR.mono up
 have hSx:=hS.mono up
 have k0:=Znh (t:=t) (g:=0) T E hT hA hl h12 hro hls hE hR0
 refine hb_enter func12 rfl ntmps12 (Z2m rfl) ?_
 simp only[Q6,Nat.reduceAdd]
 repeat' (first|refine uN ?_|(refine uB ?_;intro b)|(refine uP ?_ ?_<;>intro h<;>try exact zx)|fail)
 refine gc k0 ?_
 rintro v L' ⟨t1,ht1,rfl,rfl⟩
 clear k0 h12
 by_cases hw:30<w.length
 ·repeat' (first|refine uN ?_|(refine uB ?_;intro b)|(refine uP ?_ ?_<;>intro h<;>try exact zx)|fail)
  all_goals first|omega|exact Z3 (L':=[t1.at_]::L0) uZ ⟨t1,ht1,rfl,rfl⟩
 by_cases hx:110<xs.length
 ·repeat' (first|refine uN ?_|(refine uB ?_;intro b)|(refine uP ?_ ?_<;>intro h<;>try exact zx)|fail)
  all_goals first|omega|exact Z3 (L':=[t1.at_]::L0) uZ ⟨t1,ht1,rfl,rfl⟩
 have hw':¬ (30:Int)<w.length:=by omega
 have hx':¬ (110:Int)<xs.length:=by omega
 repeat' (first|refine uN ?_|(refine uB ?_;intro b)|(refine uP ?_ ?_<;>intro h<;>try exact zx)|fail)
 all_goals first|omega|skip
 refine Zsr (L':=[]::[]::[t1.at_]::L0) ?_ rfl
 refine Zm (σ:=Nat × Nat × Value × List Zp × List Sc × List Zp) (fun q=>[(0,.slice aw w.length capw),(1,.slice a xs.length cap),(2,iv wk),(8,iv q.2.1),(9,q.2.2.1),(10,iv q.1)]) (fun q=>q.2.2.2.2.2::q.2.2.2.1::[t1.at_]::L0)
  (fun q=>q.1≤xs.length∧q.2.1≤300∧Vec 22 1 se q.2.2.1 q.2.2.2.2.1 q.2.2.2.1∧q.2.2.2.2.1.map (·.ns)=(xs.take q.1).map (·.ns)∧(∀y∈q.2.2.2.2.1,Rd ic 1 [q.2.2.2.2.2] y.a y.ns∧y.ns.length≤y.c∧y.ns.length≤300∧∀v∈y.ns,v≤9223372036854775807)∧Pc q.2.2.2.2.2) (fun q=>xs.length-q.1) (0,0,Yt,[],[],[]) uS (Z15 _) ⟨by simp,by simp,Zt,by simp,by simp,fun p hp=>(by cases hp)⟩ ?_
 rintro⟨i,n,v9,c9,ys,B⟩ ⟨hi,hn,hv,hys,hyr,hB⟩
 simp only at hi hn hv hys hyr hB ⊢
 have hyl:ys.length=i:=by have:=congrArg List.length hys;rw[Z26,Z26,Z3g,Z41 hi]at this;exact this
 by_cases hlt:i<xs.length
 ·obtain⟨b1,i1,l1,E1,f1,rfl,hb1,hg1⟩:=ScR.at hSx hlt
  obtain⟨hsR,hsc,hsl,hsv⟩:=hS2 xs[i] (Z3c _)
  have hts:=take_ns hlt
  generalize xs[i]=s at*
  obtain⟨sa,sn,sc⟩:=s
  simp only at hsR hsc hsl hsv hts hg1
  by_cases hbig:300<n+sn.length
  ·repeat' (first|refine uN ?_|(refine uB ?_;intro b)|(refine uP ?_ ?_<;>intro h<;>try exact zx)|fail)
   all_goals first|omega|exact Z3 (L':=[t1.at_]::L0) uL ⟨t1,ht1,rfl,rfl⟩
  have ko:=fun L hR=>Zfk sa sc sn L hR (by omega)
  repeat' (first|refine uN ?_|(refine uB ?_;intro b)|(refine uP ?_ ?_<;>intro h<;>try exact zx)|fail)
  all_goals first|omega|skip
  refine gc (ko _ (((hsR.mono up).cons _).cons _ |>.cons _)) ?_
  rintro v L' ⟨c1,hc1,rfl⟩
  obtain⟨a3,cap3,rfl,hcap3,hR3⟩:=Vec.rd hc1 X0
  repeat' (first|refine uN ?_|(refine uB ?_;intro b)|(refine uP ?_ ?_<;>intro h<;>try exact zx)|fail)
  refine fo 3 ?_
  refine Zfc S (⟨a3,sn,cap3⟩:Sc) hv se_len se_one ?_
  intro v' c' hv'
  repeat' (first|refine uN ?_|(refine uB ?_;intro b)|(refine uP ?_ ?_<;>intro h<;>try exact zx)|fail)
  exact Ze (i+1,n+sn.length,v',c',ys++[⟨a3,sn,cap3⟩],c1++B) uS (Zf6 uL) ⟨by simp only;omega,by simp only;omega,hv',by simp only[Z20,hys,hts,Z2s,Z3z],fun y hy=>by
   rcases Z2f.1 hy with hy|hy
   ·obtain⟨h1,h2⟩:=hyr y hy
    exact⟨h1.mono fun b o hb=>by simp only[Has,Z17,Z22,Z2p,Z2f]at hb ⊢;exact .inr hb,h2⟩
   ·simp only[Z3j]at hy
    subst hy
    exact⟨(hR3 []).mono fun b o hb=>by simp only[Has,Z17,Z22,Z2p,Z2f]at hb ⊢;exact .inl hb,hcap3,by simp only;omega,hsv⟩,fun p hp=>by
   rcases Z2f.1 hp with hp|hp
   ·exact Zxm hc1 p hp
   ·exact hB p hp⟩ (by simp only;omega)
 obtain rfl:i=xs.length:=by omega
 rw[Z4c]at hys
 have ko:=fun L hR=>Zfk aw capw w L hR (by omega)
 repeat' (first|refine uN ?_|(refine uB ?_;intro b)|(refine uP ?_ ?_<;>intro h<;>try exact zx)|fail)
 all_goals first|omega|skip
 refine gc (ko _ (by repeat (first|exact hRw|apply Rd.cons))) ?_
 rintro v L' ⟨cw,hcw,rfl⟩
 obtain⟨aw2,capw2,rfl,-,hR2⟩:=Vec.rd hcw X0
 obtain⟨a2,cap2,rfl,-,hR3⟩:=hv.rd se_len
 have hpc:Pc (cw++(B++c9)):=fun p hp=>by
  rcases Z2f.1 hp with hp|hp
  ·exact Zxm hcw p hp
  rcases Z2f.1 hp with hp|hp
  ·exact hB p hp
  ·exact Zxm hv p hp
 have inA:∀{D:List Zp},(∀p∈D,p∈cw++(B++c9))→∀b o,Has [D] b o→Has ((cw++(B++c9))::Lr) b o:=fun hD b o hb=>by
  simp only[Has,Z17,Z22,Z2p]at hb ⊢
  exact Z2x _ (hD _ hb)
 have kp:=Zts (t:=t1) (C:=C) (E0:=E0) (g:=1) (o0:=o0) (f0:=f0) (v0:=v0) (Lr:=(cw++(B++c9)).map Zy5::Lr) (L0:=(cw++(B++c9)).map Zy5::L0) T E aw2 a2 capw2 cap2 w ys wk hT (hA.mono fun p hp=>by simp[hp]) hl ht1
  (fun p hp=>by
   rw[Z17]at hp
   rcases Z2f.1 hp with hp|hp
   ·obtain⟨q,hq,rfl⟩:=Z2v.1 hp
    obtain⟨c,E,e⟩:=hpc q hq
    unfold Zy5
    rw[e]
    exact Wj _ _ _
   ·exact hro p hp) (LS.k hls) (hE.cons _) (Rd.ro ((hR2 []).mono (inA fun p hp=>by simp[hp]))) ⟨Rd.ro ((hR3 []).mono (inA fun p hp=>by simp[hp])),fun y hy=>⟨Rd.ro ((hyr y hy).1.mono (inA fun p hp=>by simp[hp])),(hyr y hy).2⟩⟩ (by omega) (by omega) (by rw[hys];exact hR1)
 repeat' (first|refine uN ?_|(refine uB ?_;intro b)|(refine uP ?_ ?_<;>intro h<;>try exact zx)|fail)
 refine gc (((kp.wk (.ls (show LS _ ((cw++(B++c9)).map Zy5::[t1.at_]::L0:Za).flatten from uL))).wk (wk_all hpc)).wk (.ls (Zf6 (LS.trans (b:=(cw::B::c9::[t1.at_]::L0:Za).flatten) (.of_eq (by simp[Z18])) uL)))) ?_
 rintro v L' ⟨t2,ht2,hq⟩
 rw[hyl,hys]at hq
 have kw:=fun L=>Z1x wk xs.length L
 have kwe:=fun L hR=>Zgi aw capw w L hR
 cases hr:Zai wk xs.length with
 | some c=>
  rw[hr]at hq kw
  obtain⟨rfl,rfl⟩:=hq
  obtain⟨hok,hc0⟩:=Z1h hr
  have kf:=fun L hE=>Zfg T E (some c) L hE hok (-1) (.inr rfl)
  simp only[cdN]at kw kf
  repeat' (first|refine uN ?_|(refine uB ?_;intro b)|(refine uP ?_ ?_<;>intro h<;>try exact zx)|fail)
  refine gc (kw _) ?_
  rintro v L' ⟨rfl,rfl⟩
  repeat' (first|refine uN ?_|(refine uB ?_;intro b)|(refine uP ?_ ?_<;>intro h<;>try exact zx)|fail)
  refine gc (kwe _ (by repeat (first|exact hRw|apply Rd.cons))) ?_
  rintro v L' ⟨rfl,rfl⟩
  repeat' (first|refine uN ?_|(refine uB ?_;intro b)|(refine uP ?_ ?_<;>intro h<;>try exact zx)|fail)
  all_goals first|omega|skip
  refine gc (kf _ (by repeat (first|exact hE0|apply Ez.cons))) ?_
  rintro v L' ⟨rfl,rfl⟩
  repeat' (first|refine uN ?_|(refine uB ?_;intro b)|(refine uP ?_ ?_<;>intro h<;>try exact zx)|fail)
  all_goals first|omega|exact Z3 (L':=[t2.at_]::L0) uL ⟨t2,ht2,rfl,rfl⟩
 | none=>
  rw[hr]at hq kw
  cases hc:Ys w with
  | some e=>
   rw[hc]at hq kwe
   obtain⟨rfl,rfl⟩:=hq
   have hok:okE (some e):=hc▸Zve w
   have hc0:=okE_pos hok
   have kf:=fun L hE=>Zfg T E (some e) L hE hok (-1) (.inr rfl)
   have kb:=Zkz e
   simp only[cdN,cdN']at kw kf kwe
   repeat' (first|refine uN ?_|(refine uB ?_;intro b)|(refine uP ?_ ?_<;>intro h<;>try exact zx)|fail)
   refine gc (kw _) ?_
   rintro v L' ⟨rfl,rfl⟩
   repeat' (first|refine uN ?_|(refine uB ?_;intro b)|(refine uP ?_ ?_<;>intro h<;>try exact zx)|fail)
   refine gc (kwe _ (by repeat (first|exact hRw|apply Rd.cons))) ?_
   rintro v L' ⟨rfl,rfl⟩
   repeat' (first|refine uN ?_|(refine uB ?_;intro b)|(refine uP ?_ ?_<;>intro h<;>try exact zx)|fail)
   all_goals first|omega|skip
   refine gc (kb _) ?_
   rintro v L' ⟨rfl,rfl⟩
   repeat' (first|refine uN ?_|(refine uB ?_;intro b)|(refine uP ?_ ?_<;>intro h<;>try exact zx)|fail)
   all_goals first|omega|skip
   refine gc (kf _ (by repeat (first|exact hE0|apply Ez.cons))) ?_
   rintro v L' ⟨rfl,rfl⟩
   repeat' (first|refine uN ?_|(refine uB ?_;intro b)|(refine uP ?_ ?_<;>intro h<;>try exact zx)|fail)
   all_goals first|omega|exact Z3 (L':=[t2.at_]::L0) uL ⟨t2,ht2,rfl,rfl⟩
  | none=>
   rw[hc]at hq kwe
   obtain⟨bo,ts,B2,htl,hall,rfl,rfl⟩:=hq
   have h300:∀s∈xs,s.ns.length≤300:=fun s hs=>by
    have hm:s.ns∈ys.map (·.ns):=by rw[hys];exact Z2v.2 ⟨s,hs,rfl⟩
    obtain⟨y,hy,e⟩:=Z2v.1 hm
    rw[← e]
    exact(hyr y hy).2.2.1
   obtain⟨c1,c2,-⟩:=Vm hc
   have hM:=new_ok hc
   have hnl:(Vg w).l.length=0:=by unfold Vg;rfl
   have hnw:(Vg w).w=w:=by unfold Vg;rfl
   simp only[cdN,cdN']at kw kwe
   repeat' (first|refine uN ?_|(refine uB ?_;intro b)|(refine uP ?_ ?_<;>intro h<;>try exact zx)|fail)
   refine gc (kw _) ?_
   rintro v L' ⟨rfl,rfl⟩
   repeat' (first|refine uN ?_|(refine uB ?_;intro b)|(refine uP ?_ ?_<;>intro h<;>try exact zx)|fail)
   refine gc (kwe _ (by repeat (first|exact hRw|apply Rd.cons))) ?_
   rintro v L' ⟨rfl,rfl⟩
   repeat' (first|refine uN ?_|(refine uB ?_;intro b)|(refine uP ?_ ?_<;>intro h<;>try exact zx)|fail)
   all_goals first|omega|skip
   refine Wf (L':=[t2.at_]::[(bo,.cells ⟨(ts.map tc).flatten⟩ 90)]::B2::L0) ?_ uL
   refine Zm (σ:=Nat) (fun i=>[(0,.slice aw w.length capw),(1,.slice a xs.length cap),(12,sl bo 0 xs.length xs.length),(16,iv i)]) (fun _=>[t2.at_]::[(bo,.cells ⟨(ts.map tc).flatten⟩ 90)]::B2::L0)
    (fun i=>i≤xs.length) (fun i=>xs.length-i) 0 uS (Z15 _) (Z6v _) ?_
   intro i hi
   by_cases hlt:i<xs.length
   ·obtain⟨x,bl,hx1,htold,hbl⟩:=hall i hlt
    obtain⟨b1,i1,l1,E1,f1,rfl,hb1,hg1⟩:=ScR.at hSx hlt
    obtain⟨hsR,hsc,-,hsv⟩:=hS2 xs[i] (Z3c _)
    have hs3:=h300 xs[i] (Z3c _)
    have hsi:(xs.map (·.ns)).getD i []=xs[i].ns:=by simp[hlt]
    have hgt:Gets (ts.map tc).flatten (0+(i:Int).toNat*2) (tc x):=by
     have:=Uj (enc:=tc) (sz:=2) (fun _=>rfl) ts [] [] i x hx1
     simpa using this
    obtain⟨e3,e4,rA,rV⟩:=rd_told (L:=[t2.at_]::[(bo,.cells ⟨(ts.map tc).flatten⟩ 90)]::B2::L0) htold (fun p hp=>by simp[hbl p hp])
    rw[hsi]at e3 e4 rA rV
    obtain⟨xa,xn,xc,xb,xm,xd⟩:=x
    simp only[tc]at e3 e4 rA rV hgt
    subst e3 e4
    have hbX:Has ([t2.at_]::[(bo,.cells ⟨(ts.map tc).flatten⟩ 90)]::B2::L0) bo (.cells ⟨(ts.map tc).flatten⟩ 90):=Zb Zk
    have toX:∀b o,Has L0 b o→Has ([t2.at_]::[(bo,.cells ⟨(ts.map tc).flatten⟩ 90)]::B2::L0) b o:=fun b o hb=>Zb (Zb (Zb hb))
    generalize xs[i]=sc at*
    obtain⟨sa,sn,sc⟩:=sc
    simp only at hsR hsc hsv hs3 hg1 rA rV hgt
    have hb2:=toX _ _ hb1
    have krn:=fun L=>Zjy w aw capw L (by omega)
    have hRX:=hRw.mono toX
    have hsX:=(hsR.mono up).mono toX
    have kr:=fun D X (e:D.aw=aw) hD h1 h2=>Zw4 D (Vg w) sa sc sn X (by rw[e,hnw];exact h1) hD hM num_new (by omega) (by omega) (by omega) h2 hsv
    obtain⟨hok1,hlen1⟩:=run_ok hM sn
    have hwi:=hok1.wi
    have hevl:=hwi.evl
    repeat' (first|refine uN ?_|(refine uB ?_;intro b)|(refine uP ?_ ?_<;>intro h<;>try exact zx)|fail)
    refine gc (krn _) ?_
    rintro v L' ⟨D,rfl,ha1,ha2,hD,rfl⟩
    generalize ([t2.at_]::[(bo,.cells ⟨(ts.map tc).flatten⟩ 90)]::B2::L0:Za)=X at*
    have hb3:=Za2 (X:=X3 D (Vg w)) hb2
    generalize hH:X3 D (Vg w)++X=H at*
    repeat' (first|refine uN ?_|(refine uB ?_;intro b)|(refine uP ?_ ?_<;>intro h<;>try exact zx)|fail)
    subst hH
    refine gc (kr D X ha1 hD hRX hsX) ?_
    generalize Zal (Vg w) sn=R1 at*
    obtain⟨M1,s1⟩:=R1
    simp only at rA rV hgt hwi hevl hlen1 ⊢
    rintro v L' ⟨c,hv2,D1,e5,hD1,rfl⟩
    obtain⟨a5,cap5,rfl,-,hR5⟩:=hv2.rd X0
    obtain⟨ae,cape,hev,-,hRe⟩:=hD1.ev.rd Vt
    have hin:=(Zhi hD1 (c::X)).wp
    unfold Ui at hin
    rw[hev,e5.wp]at hin
    have hRe2:Rd ec 3 (X3 D1 M1++(c::X)) ae M1.ev:=(hRe []).mono fun b o hb=>by
     unfold Has at*
     simp only[X3,Zfq,Z17,Z22,Z2p,Z19,Z2b]at hb ⊢
     simp[hb]
    have toH:∀b o,Has X b o→Has (X3 D1 M1++(c::X)) b o:=fun b o hb=>Za2 (Zb hb)
    have ksi:=Zmv xa a5 xc cap5 s1 s1 (X3 D1 M1++(c::X)) (rA.mono toH) ((hR5 X).mono fun b o hb=>Za2 hb) (by omega)
    have kse:=Zig xb ae xd cape M1.ev M1.ev (X3 D1 M1++(c::X)) (rV.mono toH) hRe2 (by omega)
    simp only[decide_true]at ksi kse
    have hb9:=toH _ _ hbX
    have hfin:LS X.flatten (X3 D1 M1++(c::X)).flatten:=by
     rw[Z2l,Z17]
     exact .of_sub ((Z4f _ _).trans (Z4f _ _))
    generalize X3 D1 M1++(c::X)=H at*
    repeat' (first|refine uN ?_|refine uC (ksi) ?_|refine uC (kse) ?_|(refine uB ?_;intro b)|(refine uP ?_ ?_<;>intro h<;>try exact zx)|refine uM ?_|fail)
    all_goals first|omega|exact Ze (i+1) uS hfin (by omega) (by omega)
   ·obtain rfl:i=xs.length:=by omega
    repeat' (first|refine uN ?_|(refine uB ?_;intro b)|(refine uP ?_ ?_<;>intro h<;>try exact zx)|fail)
    exact Z3 (L':=[t2.at_]::L0) uL ⟨t2,ht2,rfl,rfl⟩
end
end
end Go.HL
