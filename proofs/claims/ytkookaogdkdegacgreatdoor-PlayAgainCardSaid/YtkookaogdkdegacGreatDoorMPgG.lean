/- Texts laid into one, without what the claim does not use. Conditions: none. -/
import Derived.Test.YtkookaogdkdegacGreatDoorMPgE
set_option linter.unusedVariables false
set_option linter.unusedSimpArgs false
/-! WoS -/
section
namespace Go.HL
open Go Go.Proofs
theorem Zjg {α β:Type} (f:α→β→List Zo) : ∀ {l:List α} {k:List β} {d:Nat} {a:α} {b:β},l[d]? = some a→k[d]? = some b → ∃ A B,(List.zipWith f l k).flatten=A++(f a b++B) ∧ ∀ a' b',(List.zipWith f (l.set d a') (k.set d b')).flatten=A++(f a' b'++B)
 | [],_,_,_,_,h,_=>by simp at h
 | _::_,[],_,_,_,_,h=>by simp at h
 | x::l,y::k,0,a,b,h1,h2=>by
  simp at h1 h2
  subst h1;subst h2
  exact ⟨[],(List.zipWith f l k).flatten,by simp,fun a' b'=>by simp⟩
 | x::l,y::k,d+1,a,b,h1,h2=>by
  obtain ⟨A,B,e1,e2⟩:=Zjg f (l:=l) (k:=k) (d:=d) (a:=a) (b:=b) (by simpa using h1) (by simpa using h2)
  exact ⟨f x y++A,B,by simp [e1],fun a' b'=>by simp [e2]⟩
theorem Zdn {g:NdG} {m:Nd} {d:Nat} {o:Option Ld} {q:Nat × Value × List Zo} (h1:m.leads[d]? = some o) (h2:g.ld[d]? = some q) :
  ∃ A B,Un g m=A++(ldB o q++B) ∧ ∀ o' q' (m':Nd) (g':NdG),m'.leads=m.leads.set d o'→g'.ld=g.ld.set d q'→Un g' m'=A++(ldB o' q'++B):=by
 obtain ⟨A,B,e1,e2⟩:=Zjg ldB h1 h2
 refine ⟨A,B,e1,fun o' q' m' g' h3 h4=>?_⟩
 unfold Un
 rw [h3,h4]
 exact e2 o' q'
theorem Qg {α:Type} {l:List α} {d:Nat} {x:α} (h:l[d]? = some x):l.set d x=l:=by
 refine List.ext_getElem? fun i=>?_
 rw [List.getElem?_set]
 split
 ·rename_i e
  subst e
  rw [h,if_pos (List.getElem?_eq_some_iff.1 h).1]
 ·rfl
theorem Zdm {g g':NdG} {m m':Nd} {d:Nat} {o':Option Ld} {q':Nat × Value × List Zo} (h3:m'.leads=m.leads.set d o') (h4:g'.ld=g.ld.set d q'):Yd g' m'=(Yd g m).set d (Zlk o' q'):=by
 unfold Yd
 rw [h3,h4]
 refine List.ext_getElem? fun i=>?_
 simp only [List.getElem?_zipWith,List.getElem?_set,List.length_zipWith]
 by_cases hd:d=i
 ·subst hd
  simp only [if_true]
  by_cases ha:d<m.leads.length
  ·by_cases hb:d<g.ld.length
   ·have:d<min m.leads.length g.ld.length:=by omega
    simp [ha,hb,this]
   ·have : ¬ d<min m.leads.length g.ld.length:=by omega
    simp [ha,hb];omega
  ·have : ¬ d<min m.leads.length g.ld.length:=by omega
   simp [ha];omega
 ·simp only [if_neg hd]
theorem NdOk.lead {g:NdG} {m:Nd} (h:NdOk g m) {d:Nat} {x:Ld} {q:Nat × Value × List Zo} (hx:LdOk q.2.1 q.2.2 x):NdOk { g with ld:=g.ld.set d q } { m with leads:=m.leads.set d (some x) }:=by
 refine ⟨by simp [h.ld],fun e y hy p hp=>?_,h.map⟩
 simp only [List.getElem?_set] at hy hp
 by_cases hde:d=e
 ·rw [if_pos hde] at hy hp
  split at hy
  ·split at hp
   ·cases hy;cases hp;exact hx
   ·cases hp
  ·cases hy
 ·rw [if_neg hde] at hy hp
  exact h.lok e y hy p hp
theorem NdOk.hear {g:NdG} {m:Nd} (h:NdOk g m) {d:Nat} {x:Ld} {q:Nat × Value × List Zo} (h2:g.ld[d]? = some q) (hx:LdOk q.2.1 q.2.2 x):NdOk g { m with leads:=m.leads.set d (some x) }:=by
 have:=h.lead (d:=d) hx
 rw [Qg h2] at this
 exact this
theorem Zns (id:Int) (ref:Int→Bool) (m:Pl) (j:Jn) (f:Fr):(Zy id ref m j f).2.2.1.length≤1:=by
 unfold Zy
 split
 ·simp
 split
 ·simp
 split
 ·simp
 ·simp only
  split<;>simp
theorem Zfm (M:Wm) (s:Int) (f:Fr):(Xe M s f).2.1.length≤1:=by
 unfold Xe W5
 split
 ·simp
 ·rename_i j ref _
  split
  ·simp
  ·exact Zns s ref _ j f
theorem errs_ls {tab:List (Nat × Nat)} {T:Nat} {E:Nat→Addr} {cs:List Nat} {L L':Zb} (h:Errs tab T E cs L) (hl:LS L.flatten L'.flatten):Errs tab T E cs L':=h.mono fun _ _ hb=>hl.mem hb
theorem ls_mid {c A B:List Zo} {D:Zb}:LS (c::A::B::D).flatten ((A++(c++B))::D).flatten:=by
 simp only [List.flatten_cons,List.append_assoc]
 refine LS.of_perm ?_
 rw [← List.append_assoc,← List.append_assoc A c]
 exact List.perm_append_comm.append_right _
theorem ls_mid' {c A B:List Zo} {D:Zb}:LS ((A++(c++B))::D).flatten (c::A::B::D).flatten:=by
 simp only [List.flatten_cons,List.append_assoc]
 refine LS.of_perm ?_
 rw [← List.append_assoc,← List.append_assoc c A]
 exact List.perm_append_comm.append_right _
theorem ls7 {x0 x1 x2 x3 x4 x5 x6 c A B:List Zo} {D:Zb}:LS (x0::x1::x2::x3::x4::x5::x6::(A++(c++B))::D).flatten (x0::x1::x2::x3::x4::x5::x6::c::A::B::D).flatten:=LS.k (LS.k (LS.k (LS.k (LS.k (LS.k (LS.k ls_mid'))))))
theorem Rd.ls {α:Type} {enc:α→List Value} {sz:Nat} {L L':Zb} {a:Option Addr} {xs:List α} (h:Rd enc sz L a xs) (hl:LS L.flatten L'.flatten):Rd enc sz L' a xs:=h.mono fun _ _ hb=>hl.mem hb
theorem WdIn.sp {L L':Zb} {G:WdG} {M:Wm} (h:WdIn L G M) (hl:LS L.flatten L'.flatten):WdIn L' G M:=by
 obtain ⟨h1,⟨a2,c2,e2,r2⟩,⟨a3,c3,e3,r3⟩,⟨a4,c4,e4,r4⟩,h5⟩:=h
 exact ⟨hl.mem h1,⟨a2,c2,e2,r2.ls hl⟩,⟨a3,c3,e3,r3.ls hl⟩,⟨a4,c4,e4,r4.ls hl⟩,h5⟩
set_option maxHeartbeats 2000000 attribute [local irreducible] HW HO HQ HD HC QOp Has Upd Zq Gets Yj Ya Zv Wf Yg Zp Wq Z5
attribute [local irreducible] Xt Zw Yf Zy Yt Zt
theorem Xc {ρ:Zn} {L:Zb} {ty:TypeId} {pos:String} {af:Array Edge} {d:Option Tmp} {g:Option (Nat × Bool)} {r:Nat} {x y:Operand} {es:List MapEntry} {ck:Nat} {f:Int × Int→Bool} {a b:Int} {v:Bool} (h00:Xa ρ=true:=by exact rfl) (hx:ev ρ x=some (.map (some r)):=by exact rfl) (hy:ev ρ y=some (.agg ⟨[iv a,iv b]⟩):=by exact rfl)
  (hb:Has L r (.map ⟨es⟩ ck):=by (repeat (first|assumption|exact Zj|exact Yw (by assumption)|apply X4|apply Ze))) (hF:Z5 pk es f:=by assumption) (hv:f (a,b)=v:=by assumption) :
  QOp Tryz.prog ⟨d,.lookup 107 x y false,ty,pos,af,g⟩ ρ L (.bool v):=hv▸qmP h00 hx hy (hb:=hb) (hF:=hF)
set_option maxHeartbeats 1000000 in
theorem Zet (T:Nat) (E:Nat→Addr) (G:WdG) (M:Wm) (k:Int) (L:Zb) (hG:Er T E [2,3,4,5,6] L) (hW:WdOk G M) (hM:WI M) (hl:M.l.length≤99999999) :
  HC Tryz.prog 23 [pt G.wp 0,iv k] (Z9 G M++L) (fun v L'=>v=eV T E (Wh M k).2∧Zao G (Wh M k).1 L L'):=by
 unfold Wh
 have hself:=Xo hW L
 have hI:=Uy hW L
 have ka:=Qt T E G M k _ (Xj hG.sub G M) hI
 cases he:Znx M k with
 | some e =>
  simp only [he] at ka ⊢
  generalize Z9 G M++L=H at *
  refine Za (fun _ _=>Tryz.call23 _ _) Tryz.func23 rfl Tryz.ntmps23 (Nat.le_of_ble_eq_true rfl) ?_;simp only [Zd,Nat.reduceAdd]
  repeat' (first|refine uN ?_|refine Z8 S ?_|refine Yq S ?_|refine uC (ka) ?_|refine Yy (fun _=>ka) ?_|refine Yz (fun _=>ka) ?_|refine Y0 (fun _=>ka) ?_|refine Y1 (fun _=>ka) ?_|refine Vc Xc ?_|refine Zcm Xc ?_|refine Zey 100 (by exact rfl) (fun _=>Xc) ?_|(refine uB ?_;intro b)|(refine uP ?_ ?_<;>(intro h;((try simp only [zs,zq,reduceCtorEq] at h);try exact zx)))|refine da 101 ?_|fail)
  exact U3 rfl ⟨rfl,hself⟩
 | none =>
  simp only [he] at ka ⊢
  clear hself
  have hk:0≤k∧k<M.l.length:=by
   unfold Znx at he
   split at he
   ·cases he
   ·omega
  obtain ⟨hk0,hk1⟩:=hk
  have hgk:M.l[k.toNat]'(by omega)=M.l.getD k.toNat Wp:=by
   rw [List.getD,List.getElem?_eq_getElem (by omega)];rfl
  obtain ⟨hbad,hto,hfr⟩:=hM.fr (M.l.getD k.toNat Wp) (by rw [← hgk];exact List.getElem_mem _)
  have hM1:=hM.erase k.toNat
  have hW1 : ∀ lv lc,Y9 lv (M.l.eraseIdx k.toNat) lc→WdOk { G with lv:=lv,lc:=lc } { M with l:=M.l.eraseIdx k.toNat }:=fun lv lc hv=>hW.setL hv
  have kd:=fun L=>Zaq G.lv M.l G.lc k (k+1) L hW.l (by omega) (by omega) (by omega) rfl
  obtain ⟨a5,cap5,he5,-,hR5⟩:=hW.l.rd Zl
  have hR6:=(hR5 []).mono (L':=G.lc::[]) fun b o hb=>by
   simp only [Has,List.flatten_cons,List.flatten_nil,List.append_nil] at hb ⊢
   simp [hb]
  obtain ⟨b5,i5,l5,F5,fr5,e6,hb5,hg5⟩:=hR6.at (j:=k) (by omega) (by omega)
  have hb5' : ∀ H,Has (G.lc::H) b5 (.cells ⟨l5⟩ F5 fr5):=fun H=>by
   simp only [Has,List.flatten_cons,List.flatten_nil,List.append_nil] at hb5
   exact Yw hb5
  rw [hgk] at hg5
  rw [e6] at he5
  clear hR5 hR6 e6 hb5
  have hn0:0≤(M.l.getD k.toNat Wp).to:=by unfold Wg at hbad;omega
  have hn1:(M.l.getD k.toNat Wp).to<M.n.length:=by rw [hM.wn];exact hto
  have hd0:0≤(M.l.getD k.toNat Wp).dl∧(M.l.getD k.toNat Wp).dl<6:=by unfold Wg at hbad;omega
  have hnp:=Zax hW hn0 hn1 (H:=G.nc::[]) (fun b o hb=>Yw hb)
  have hN:=Zma hW.ndl hn0 hn1 L
  have hF:=hW.br
  obtain ⟨⟨nb,ni,nl,nF,nfr,ncap,e7,hnb,hng⟩,-,-⟩:=hnp
  have hnb' : ∀ H,Has (G.nc::H) nb (.cells ⟨nl⟩ nF nfr):=fun H=>by
   simp only [Has,List.flatten_cons,List.flatten_nil,List.append_nil] at hnb
   exact Yw hnb
  clear hnb
  have e8 : ∀ l,(Zf { M with l:=l } (M.l.getD k.toNat Wp).to)=Zf M (M.l.getD k.toNat Wp).to:=fun l=>rfl
  rw [e8]
  have hni:=Uz hM hn0 hn1
  have hok:=X6 hW hn0 hn1
  generalize hf:M.l.getD k.toNat Wp=f at *
  have hcl : ∀ lv lc,Y9 lv (M.l.eraseIdx k.toNat) lc→Zao G { M with l:=M.l.eraseIdx k.toNat } L (Z9 { G with lv:=lv,lc:=lc } { M with l:=M.l.eraseIdx k.toNat }++L):=fun lv lc hv=>Zcz (hW1 lv lc hv) rfl rfl
  have hsc:(Zf M f.to).site=none ∨ ∃ q,(Zf M f.to).site=some q:=by
   cases (Zf M f.to).site with
   | none=>exact .inl rfl
   | some q=>exact .inr ⟨q,rfl⟩
  rcases hsc with hs|⟨q,hs⟩
  ·rw [if_pos (.inl (by rw [hs];rfl))]
   obtain ⟨ffr,fto,fdl,fkd,fatt,fys,fs⟩:=f
   simp only at hbad hto hfr hg5 hng hn0 hn1 hN hs ⊢
   unfold Uw at hN
   rw [hs] at hN
   have g0:(Xt (.pointer none) (Zg G fto).bp (Yd (Zg G fto) (Zf M fto)) (Zf M fto).done)[0+0]? = some (.pointer none):=Xg rfl
   simp only [Z9,Zan,V1,List.cons_append,List.nil_append] at hcl ka ⊢
   rw [e7,he5] at ka ⊢
   rw [e7] at hcl
   rw [he5] at kd
   have hb5a:=hb5' (G.ec::Wx G.nd M.n 0::L)
   have hnba:=hnb' ([(G.mb,.map ⟨G.es⟩ G.ck)]::G.ec::Wx G.nd M.n 0::L)
   refine Za (fun _ _=>Tryz.call23 _ _) Tryz.func23 rfl Tryz.ntmps23 (Nat.le_of_ble_eq_true rfl) ?_;simp only [Zd,Nat.reduceAdd]
   repeat' (first|refine uN ?_|refine Z8 S ?_|refine Yq S ?_|refine uC (ka) ?_|refine Yy (fun _=>ka) ?_|refine Yz (fun _=>ka) ?_|refine Y0 (fun _=>ka) ?_|refine Y1 (fun _=>ka) ?_|refine Vc Xc ?_|refine Zcm Xc ?_|refine Zey 100 (by exact rfl) (fun _=>Xc) ?_|(refine uB ?_;intro b)|(refine uP ?_ ?_<;>(intro h;((try simp only [zs,zq,reduceCtorEq] at h);try exact zx)))|refine da 101 ?_|fail)
   refine fo 5 ?_
   refine gc (kd _) ?_
   rintro v L' ⟨c',hv',rfl⟩
   obtain ⟨a6,cap6,rfl,-,-⟩:=hv'.rd Zl
   repeat' (first|refine uN ?_|refine Z8 S ?_|refine Yq S ?_|refine uC (ka) ?_|refine Yy (fun _=>ka) ?_|refine Yz (fun _=>ka) ?_|refine Y0 (fun _=>ka) ?_|refine Y1 (fun _=>ka) ?_|refine Vc Xc ?_|refine Zcm Xc ?_|refine Zey 100 (by exact rfl) (fun _=>Xc) ?_|(refine uB ?_;intro b)|(refine uP ?_ ?_<;>(intro h;((try simp only [zs,zq,reduceCtorEq] at h);try exact zx)))|refine da 101 ?_|fail)
   all_goals exact Xb uL ⟨rfl,hcl _ c' hv'⟩
  ·obtain ⟨j,ref⟩:=q
   have hbr0 : ∀ b,M.br (Zln f)=b→M.br (min f.fr f.to,max f.fr f.to)=b:=fun b h=>h
   obtain ⟨dn,hdn⟩:=Int.eq_ofNat_of_zero_le hd0.1
   have hd6:dn<6:=by omega
   have g0:(Xt (pt (Zg G f.to).sp 0) (Zg G f.to).bp (Yd (Zg G f.to) (Zf M f.to)) (Zf M f.to).done)[0+0]? = some (pt (Zg G f.to).sp 0):=Xg rfl
   have hm1:(Zf M f.to).leads[dn]? = some ((Zf M f.to).leads.getD dn none):=getD_some (by rw [hni.leads];exact hd6)
   obtain ⟨q,hq⟩ : ∃ q,(Zg G f.to).ld[dn]? = some q:=⟨_,List.getElem?_eq_getElem (by rw [hok.ld];exact hd6)⟩
   have hv:=Qr hm1 hq
   have gL:=Qb (sv:=pt (Zg G f.to).sp 0) (bp:=(Zg G f.to).bp) (dn:=(Zf M f.to).done) hv
   have hNv:Uw (Zg G f.to) (Zf M f.to) = .cells ⟨Xt (pt (Zg G f.to).sp 0) (Zg G f.to).bp (Yd (Zg G f.to) (Zf M f.to)) (Zf M f.to).done⟩ 122:=by unfold Uw;rw [hs];rfl
   by_cases hbr:M.br (Zln f)=true
   ·rw [if_pos (.inr hbr)]
    have hbr':=hbr0 _ hbr
    rw [hNv] at hN
    obtain ⟨ffr,fto,fdl,fkd,fatt,fys,fs⟩:=f
    simp only at hbad hto hfr hg5 hng hn0 hn1 hN hs hbr' g0 ⊢
    simp only [Z9,Zan,V1,List.cons_append,List.nil_append] at hcl ka ⊢
    rw [e7,he5] at ka ⊢
    rw [e7] at hcl
    rw [he5] at kd
    have hb5a:=hb5' (G.ec::Wx G.nd M.n 0::L)
    have hnba:=hnb' ([(G.mb,.map ⟨G.es⟩ G.ck)]::G.ec::Wx G.nd M.n 0::L)
    refine Za (fun _ _=>Tryz.call23 _ _) Tryz.func23 rfl Tryz.ntmps23 (Nat.le_of_ble_eq_true rfl) ?_;simp only [Zd,Nat.reduceAdd]
    repeat' (first|refine uN ?_|refine Z8 S ?_|refine Yq S ?_|refine uC (ka) ?_|refine Yy (fun _=>ka) ?_|refine Yz (fun _=>ka) ?_|refine Y0 (fun _=>ka) ?_|refine Y1 (fun _=>ka) ?_|refine Vc Xc ?_|refine Zcm Xc ?_|refine Zey 100 (by exact rfl) (fun _=>Xc) ?_|(refine uB ?_;intro b)|(refine uP ?_ ?_<;>(intro h;((try simp only [zs,zq,reduceCtorEq] at h);try exact zx)))|refine da 101 ?_|fail)
    refine fo 5 ?_
    refine gc (kd _) ?_
    rintro v L' ⟨c',hv',rfl⟩
    obtain ⟨a6,cap6,rfl,-,-⟩:=hv'.rd Zl
    repeat' (first|refine uN ?_|refine Z8 S ?_|refine Yq S ?_|refine uC (ka) ?_|refine Yy (fun _=>ka) ?_|refine Yz (fun _=>ka) ?_|refine Y0 (fun _=>ka) ?_|refine Y1 (fun _=>ka) ?_|refine Vc Xc ?_|refine Zcm Xc ?_|refine Zey 100 (by exact rfl) (fun _=>Xc) ?_|(refine uB ?_;intro b)|(refine uP ?_ ?_<;>(intro h;((try simp only [zs,zq,reduceCtorEq] at h);try exact zx)))|refine da 101 ?_|fail)
    all_goals exact Xb uL ⟨rfl,hcl _ c' hv'⟩
   ·have hbrf:M.br (Zln f)=false:=by simpa using hbr
    rw [if_neg (by simp [hbrf,hs])]
    have hbr':=hbr0 _ hbrf
    by_cases hkd:f.kd=2∨f.kd=4∨f.kd=6
    ·rw [if_pos hkd]
     rw [show f.dl.toNat=dn by omega]
     cases hx:(Zf M f.to).leads.getD dn none with
     | none =>
      simp only
      rw [hx] at gL
      simp only [Zlk] at gL
      rw [hNv] at hN
      obtain ⟨ffr,fto,fdl,fkd,fatt,fys,fs⟩:=f
      simp only at hbad hto hfr hg5 hng hn0 hn1 hN hs hbr' g0 gL hkd hdn ⊢
      subst hdn
      simp only [Z9,Zan,V1,List.cons_append,List.nil_append] at hcl ka ⊢
      rw [e7,he5] at ka ⊢
      rw [e7] at hcl
      rw [he5] at kd
      have hb5a:=hb5' (G.ec::Wx G.nd M.n 0::L)
      have hnba:=hnb' ([(G.mb,.map ⟨G.es⟩ G.ck)]::G.ec::Wx G.nd M.n 0::L)
      refine Za (fun _ _=>Tryz.call23 _ _) Tryz.func23 rfl Tryz.ntmps23 (Nat.le_of_ble_eq_true rfl) ?_;simp only [Zd,Nat.reduceAdd]
      repeat' (first|refine uN ?_|refine Z8 S ?_|refine Yq S ?_|refine uC (ka) ?_|refine Yy (fun _=>ka) ?_|refine Yz (fun _=>ka) ?_|refine Y0 (fun _=>ka) ?_|refine Y1 (fun _=>ka) ?_|refine Vc Xc ?_|refine Zcm Xc ?_|refine Zey 100 (by exact rfl) (fun _=>Xc) ?_|(refine uB ?_;intro b)|(refine uP ?_ ?_<;>(intro h;((try simp only [zs,zq,reduceCtorEq] at h);try exact zx)))|refine da 101 ?_|fail)
      refine fo 5 ?_
      refine gc (kd _) ?_
      rintro v L' ⟨c',hv',rfl⟩
      obtain ⟨a6,cap6,rfl,-,-⟩:=hv'.rd Zl
      repeat' (first|refine uN ?_|refine Z8 S ?_|refine Yq S ?_|refine uC (ka) ?_|refine Yy (fun _=>ka) ?_|refine Yz (fun _=>ka) ?_|refine Y0 (fun _=>ka) ?_|refine Y1 (fun _=>ka) ?_|refine Vc Xc ?_|refine Zcm Xc ?_|refine Zey 100 (by exact rfl) (fun _=>Xc) ?_|(refine uB ?_;intro b)|(refine uP ?_ ?_<;>(intro h;((try simp only [zs,zq,reduceCtorEq] at h);try exact zx)))|refine da 101 ?_|fail)
      all_goals exact Xb uL ⟨rfl,hcl _ c' hv'⟩
     | some x =>
      simp only
      rw [hx] at hm1 gL hv
      simp only [Zlk] at gL hv
      have hLI:=hni.ldi dn x hm1
      have hLO:=hok.lok dn x hm1 q hq
      have hhd:x.heard<2 ^ x.w.length:=by rw [hLI.ww];exact hLI.heard
      have hLs:LdIs M.w x.id x.deal x.att x:=⟨rfl,rfl,rfl,hLI.ww,hLI.told,hLI.heard⟩
      have hLh:=hLs.hear f
      have hLO':=hLs.ok hLh hLO
      have hhl:=Zat x f
      have hwl:=hM.wl
      rw [hLI.ww] at hhl
      refine HC.node (M':={ Yp { M with l:=M.l.eraseIdx k.toNat } f.to { Zf M f.to with leads:=(Zf M f.to).leads.set dn (some (Z7 x f).1) } with l:=M.l.eraseIdx k.toNat++(Z7 x f).2 }) hW hn0 hn1 ?_
      obtain ⟨A,B,eA,eB⟩:=Zdn hm1 hq
      have eB':=eB (some (Z7 x f).1) q { Zf M f.to with leads:=(Zf M f.to).leads.set dn (some (Z7 x f).1) } (Zg G f.to) rfl (Qg hq).symm
      have eV':Yd (Zg G f.to) { Zf M f.to with leads:=(Zf M f.to).leads.set dn (some (Z7 x f).1) }=Yd (Zg G f.to) (Zf M f.to):=by
       rw [Zdm (g:=Zg G f.to) (m:=Zf M f.to) (o':=some (Z7 x f).1) (q':=q) rfl (Qg hq).symm]
       exact Qg hv
      have hokD:=hok.hear hq hLO'
      have hls : ∀ X,LS (Y8 G f.to (Zg G f.to) (Zf M f.to) X L).flatten ([(G.wp,V1 G)]::G.ec::[((Zg G f.to).np,.cells ⟨Xt (pt (Zg G f.to).sp 0) (Zg G f.to).bp (Yd (Zg G f.to) (Zf M f.to)) (Zf M f.to).done⟩ 122)]::Zcp (Zg G f.to).sp (Zg G f.to).bj (Zg G f.to).mb f.to::Zcv (Zg G f.to).mb (Zg G f.to).es (Zg G f.to).ck::Yf (Zg G f.to).bp (Zg G f.to).ba (Zf M f.to).pl::jC (Zg G f.to).bj (Zg G f.to).bp j::W6 q.1 q.2.1 q.2.2 x::A::B::G.lc::G.wc::G.nc::[(G.mb,.map ⟨G.es⟩ G.ck)]::X::L).flatten:=fun X=>by
       simp only [Y8,U0,hNv,hs,Zf2,Zf1,Zf0]
       rw [eA]
       iterate 7 refine LS.k ?_
       exact ls_mid'
      have kat:=Qt T E G M k _ (errs_ls (Zgm hG.sub G f.to (Zg G f.to) (Zf M f.to) (Xs G.nd M.n 0 f.to.toNat)) (hls _)) ((Zhi hW f.to _ _ _ L).sp (hls _))
      rw [he] at kat
      clear hls
      have kh:=fun L hG=>Zdd T E q.1 q.2.1 q.2.2 x f L hG hLO hhd
      generalize Xs G.nd M.n 0 f.to.toNat=X at *
      simp only [V1] at kat
      simp only [Y8,U0,hNv,hs,Zcc,Zf2,Zf1,Zf0,V1]
      rw [eA]
      rw [e7,he5] at kat ⊢
      rw [he5] at kd
      generalize hmm:Zf M f.to=m at *
      generalize Zg G f.to=g at *
      have hokD2:NdOk g ⟨m.pl,some (j,ref),m.leads.set dn (some (Z7 x f).1),m.done⟩:=by
       have:=hokD
       rw [hs] at this
       exact this
      have eB2:=eB (some (Z7 x f).1) q ⟨m.pl,some (j,ref),m.leads.set dn (some (Z7 x f).1),m.done⟩ g rfl (Qg hq).symm
      have eV2:Yd g ⟨m.pl,some (j,ref),m.leads.set dn (some (Z7 x f).1),m.done⟩=Yd g m:=eV'
      obtain ⟨ffr,fto,fdl,fkd,fatt,fys,fs⟩:=f
      simp only at hbad hto hfr hg5 hng hn0 hn1 hs hbr' g0 gL hkd hdn kh hhl hLO' hLh eB2 eV2 hokD2 kat ⊢
      clear eB' eV' hokD
      subst hdn
      have hb5a:=hb5' (G.wc::G.nc::[(G.mb,.map ⟨G.es⟩ G.ck)]::X::L)
      have hnba:=hnb' ([(G.mb,.map ⟨G.es⟩ G.ck)]::X::L)
      refine HC.sp (L':=[(G.wp,.cells ⟨[G.wv,sl nb ni M.n.length ncap,.map (some G.mb),sl b5 i5 M.l.length cap5,G.ev]⟩ 110)]::G.ec::[(g.np,.cells ⟨Xt (pt g.sp 0) g.bp (Yd g m) m.done⟩ 122)]::Zcp g.sp g.bj g.mb fto::Zcv g.mb g.es g.ck::Yf g.bp g.ba m.pl::jC g.bj g.bp j::W6 q.1 q.2.1 q.2.2 x::A::B::G.lc::G.wc::G.nc::[(G.mb,.map ⟨G.es⟩ G.ck)]::X::L) ?_ ?_
      ·refine Za (fun _ _=>Tryz.call23 _ _) Tryz.func23 rfl Tryz.ntmps23 (Nat.le_of_ble_eq_true rfl) ?_;simp only [Zd,Nat.reduceAdd]
       repeat' (first|refine uN ?_|refine Z8 S ?_|refine Yq S ?_|refine uC (kat) ?_|refine Yy (fun _=>kat) ?_|refine Yz (fun _=>kat) ?_|refine Y0 (fun _=>kat) ?_|refine Y1 (fun _=>kat) ?_|refine Vc Xc ?_|refine Zcm Xc ?_|refine Zey 100 (by exact rfl) (fun _=>Xc) ?_|(refine uB ?_;intro b)|(refine uP ?_ ?_<;>(intro h;((try simp only [zs,zq,reduceCtorEq] at h);try exact zx)))|refine da 101 ?_|fail)
       refine fo 11 ?_
       refine gc (kd _) ?_
       rintro v L' ⟨c',hv',rfl⟩
       obtain ⟨a6,cap6,rfl,-,-⟩:=hv'.rd Zl
       repeat' (first|refine uN ?_|refine Z8 S ?_|refine Yq S ?_|refine uC (kat) ?_|refine Yy (fun _=>kat) ?_|refine Yz (fun _=>kat) ?_|refine Y0 (fun _=>kat) ?_|refine Y1 (fun _=>kat) ?_|refine Vc Xc ?_|refine Zcm Xc ?_|refine Zey 100 (by exact rfl) (fun _=>Xc) ?_|(refine uB ?_;intro b)|(refine uP ?_ ?_<;>(intro h;((try simp only [zs,zq,reduceCtorEq] at h);try exact zx)))|refine da 101 ?_|fail)
       all_goals refine fo 9 ?_
       all_goals refine gc (kh _ (by repeat (first|exact hG|exact hG.sub|apply Errs.cons))) ?_
       all_goals rintro v L' ⟨c2,hv2,rfl⟩
       all_goals obtain ⟨a7,cap7,rfl,-,hR7⟩:=hv2.rd Zl
       all_goals repeat' (first|refine uN ?_|refine Z8 S ?_|refine Yq S ?_|refine uC (kat) ?_|refine Yy (fun _=>kat) ?_|refine Yz (fun _=>kat) ?_|refine Y0 (fun _=>kat) ?_|refine Y1 (fun _=>kat) ?_|refine Vc Xc ?_|refine Zcm Xc ?_|refine Zey 100 (by exact rfl) (fun _=>Xc) ?_|(refine uB ?_;intro b)|(refine uP ?_ ?_<;>(intro h;((try simp only [zs,zq,reduceCtorEq] at h);try exact zx)))|refine da 101 ?_|fail)
       all_goals refine fo 2 ?_
       all_goals refine wpA S hv' (Rd.cons (hR7 _) _) Zl Vj ?_ (hby:=by simp only [List.length_eraseIdx];split<;>omega) (hmax:=by simp only [List.length_eraseIdx];split<;>omega)
       all_goals intro v'' c'' hv''
       all_goals obtain ⟨a8,cap8,rfl,-,-⟩:=hv''.rd Zl
       all_goals repeat' (first|refine uN ?_|refine Z8 S ?_|refine Yq S ?_|refine uC (kat) ?_|refine Yy (fun _=>kat) ?_|refine Yz (fun _=>kat) ?_|refine Y0 (fun _=>kat) ?_|refine Y1 (fun _=>kat) ?_|refine Vc Xc ?_|refine Zcm Xc ?_|refine Zey 100 (by exact rfl) (fun _=>Xc) ?_|(refine uB ?_;intro b)|(refine uP ?_ ?_<;>(intro h;((try simp only [zs,zq,reduceCtorEq] at h);try exact zx)))|refine da 101 ?_|fail)
       all_goals refine Xb (L':=Y8 { G with lv := .slice a8 (M.l.eraseIdx k.toNat++(Z7 x ⟨ffr,fto,dn,fkd,fatt,fys,fs⟩).2).length cap8,lc:=c'' } fto g ⟨m.pl,some (j,ref),m.leads.set dn (some (Z7 x ⟨ffr,fto,dn,fkd,fatt,fys,fs⟩).1),m.done⟩ X L) ?_ ⟨rfl,{ G with lv := .slice a8 (M.l.eraseIdx k.toNat++(Z7 x ⟨ffr,fto,dn,fkd,fatt,fys,fs⟩).2).length cap8,lc:=c'' },{ M with l:=M.l.eraseIdx k.toNat++(Z7 x ⟨ffr,fto,dn,fkd,fatt,fys,fs⟩).2 },g,⟨m.pl,some (j,ref),m.leads.set dn (some (Z7 x ⟨ffr,fto,dn,fkd,fatt,fys,fs⟩).1),m.done⟩,hW.setL hv'',rfl,rfl,rfl,hokD2,rfl,rfl,rfl⟩
       all_goals simp only [Y8,U0,Uw,Zcc,Zf2,Zf1,Zf0,V1,eV2]
       all_goals rw [eB2,e7]
       all_goals simp only [ldB,W6]
       all_goals exact LS.trans ls7 uL
      ·iterate 7 refine LS.k ?_
       exact ls_mid
    ·rw [if_neg hkd]
     have kh:=fun lv lc hv L hG=>Za7 T E { G with lv:=lv,lc:=lc } { M with l:=M.l.eraseIdx k.toNat } f.to f L hG (hW1 lv lc hv) hM1 hn0 hn1 (by rw [e8,hs];simp)
     have hhl:=Zfm { M with l:=M.l.eraseIdx k.toNat } f.to f
     have hml:(Xe { M with l:=M.l.eraseIdx k.toNat } f.to f).1.l=M.l.eraseIdx k.toNat:=rfl
     rw [hNv] at hN
     obtain ⟨ffr,fto,fdl,fkd,fatt,fys,fs⟩:=f
     simp only at hbad hto hfr hg5 hng hn0 hn1 hN hs hbr' g0 hkd kh hhl hml ⊢
     clear hdn
     generalize Xe { M with l:=M.l.eraseIdx k.toNat } fto ⟨ffr,fto,fdl,fkd,fatt,fys,fs⟩=R at *
     simp only [Z9,Zan,V1,List.cons_append,List.nil_append] at ka ⊢
     rw [e7,he5] at ka ⊢
     rw [he5] at kd
     have hb5a:=hb5' (G.ec::Wx G.nd M.n 0::L)
     have hnba:=hnb' ([(G.mb,.map ⟨G.es⟩ G.ck)]::G.ec::Wx G.nd M.n 0::L)
     refine Za (fun _ _=>Tryz.call23 _ _) Tryz.func23 rfl Tryz.ntmps23 (Nat.le_of_ble_eq_true rfl) ?_;simp only [Zd,Nat.reduceAdd]
     repeat' (first|refine uN ?_|refine Z8 S ?_|refine Yq S ?_|refine uC (ka) ?_|refine Yy (fun _=>ka) ?_|refine Yz (fun _=>ka) ?_|refine Y0 (fun _=>ka) ?_|refine Y1 (fun _=>ka) ?_|refine Vc Xc ?_|refine Zcm Xc ?_|refine Zey 100 (by exact rfl) (fun _=>Xc) ?_|(refine uB ?_;intro b)|(refine uP ?_ ?_<;>(intro h;((try simp only [zs,zq,reduceCtorEq] at h);try exact zx)))|refine da 101 ?_|fail)
     refine fo 5 ?_
     refine gc (kd _) ?_
     rintro v L' ⟨c',hv',rfl⟩
     obtain ⟨a6,cap6,rfl,-,-⟩:=hv'.rd Zl
     repeat' (first|refine uN ?_|refine Z8 S ?_|refine Yq S ?_|refine uC (ka) ?_|refine Yy (fun _=>ka) ?_|refine Yz (fun _=>ka) ?_|refine Y0 (fun _=>ka) ?_|refine Y1 (fun _=>ka) ?_|refine Vc Xc ?_|refine Zcm Xc ?_|refine Zey 100 (by exact rfl) (fun _=>Xc) ?_|(refine uB ?_;intro b)|(refine uP ?_ ?_<;>(intro h;((try simp only [zs,zq,reduceCtorEq] at h);try exact zx)))|refine da 101 ?_|fail)
     refine Zdg (L':=Z9 { G with lv := .slice a6 (M.l.eraseIdx k.toNat).length cap6,lc:=c' } { M with l:=M.l.eraseIdx k.toNat }++L) ?_ ?_
     ·refine gc (kh _ _ hv' _ (by repeat (first|exact hG|exact hG.sub|apply Errs.cons))) ?_
      rintro v L' ⟨c2,⟨fv,hfv,rfl⟩,G2,e1,e2,hW2,rfl⟩
      obtain ⟨a7,cap7,rfl,-,hR7⟩:=hfv.rd Zl
      obtain ⟨a8,cap8,he8,-,-⟩:=hW2.l.rd Zl
      have hv2:=hW2.l
      rw [hml] at hv2 he8
      have hcl2 : ∀ lv lc,Y9 lv (M.l.eraseIdx k.toNat++R.2.1) lc→Zao G { R.1 with l:=M.l.eraseIdx k.toNat++R.2.1 } L (Z9 { G2 with lv:=lv,lc:=lc } { R.1 with l:=M.l.eraseIdx k.toNat++R.2.1 }++L):=fun lv lc hv=>⟨{ G2 with lv:=lv,lc:=lc },e1,e2,hW2.setL hv,rfl⟩
      simp only [Z9,Zan,V1,List.cons_append,List.nil_append,e1] at hcl2 ⊢
      rw [he8] at hv2 ⊢
      repeat' (first|refine uN ?_|refine Z8 S ?_|refine Yq S ?_|refine uC (ka) ?_|refine Yy (fun _=>ka) ?_|refine Yz (fun _=>ka) ?_|refine Y0 (fun _=>ka) ?_|refine Y1 (fun _=>ka) ?_|refine Vc Xc ?_|refine Zcm Xc ?_|refine Zey 100 (by exact rfl) (fun _=>Xc) ?_|(refine uB ?_;intro b)|(refine uP ?_ ?_<;>(intro h;((try simp only [zs,zq,reduceCtorEq] at h);try exact zx)))|refine da 101 ?_|fail)
      refine fo 4 ?_
      refine wpA S hv2 (Rd.cons ((hR7 []).mono fun b o hb=>?_) _) Zl Vj ?_ (hby:=by simp only [List.length_eraseIdx];split<;>omega) (hmax:=by simp only [List.length_eraseIdx];split<;>omega)
      ·exact Ze (Ze (Ze (Ze (Ze (Ze (Yw (by simpa [Has] using hb)))))))
      intro v'' c'' hv''
      obtain ⟨a9,cap9,rfl,-,-⟩:=hv''.rd Zl
      repeat' (first|refine uN ?_|refine Z8 S ?_|refine Yq S ?_|refine uC (ka) ?_|refine Yy (fun _=>ka) ?_|refine Yz (fun _=>ka) ?_|refine Y0 (fun _=>ka) ?_|refine Y1 (fun _=>ka) ?_|refine Vc Xc ?_|refine Zcm Xc ?_|refine Zey 100 (by exact rfl) (fun _=>Xc) ?_|(refine uB ?_;intro b)|(refine uP ?_ ?_<;>(intro h;((try simp only [zs,zq,reduceCtorEq] at h);try exact zx)))|refine da 101 ?_|fail)
      exact Xb uL ⟨rfl,hcl2 _ c'' hv''⟩
     ·simp only [Z9,Zan,V1,List.cons_append,List.nil_append,e7]
      exact uL
end Go.HL
end

/-! WoT -/
section
namespace Go.HL
open Go Go.Proofs
theorem Zi7 {G G':WdG} {M M1:Wm} {s:Int} {g':NdG} {m':Nd} (L:Zb) (hl:G.nd.length=M.n.length) (h0:0≤s) (h1:s<M.n.length) (hW:WdOk G' M1) (e1:G'.nd=G.nd) (e2:M1.n=M.n) (e3:G'.wp=G.wp) (hN:NdOk g' m') (e4:g'.np=(Zg G s).np) :
  ∃ L',Zao G (Yp M1 s m') L L'∧LS L'.flatten (Y8 G' s g' m' (Xs G.nd M.n 0 s.toNat) L).flatten:=by
 have hnp:g'.np=(Zg G' s).np:=by rw [e4];unfold Zg;rw [e1]
 refine ⟨Z9 { G' with nd:=G'.nd.set s.toNat g' } (Yp M1 s m')++L,⟨{ G' with nd:=G'.nd.set s.toNat g' },e3,?_,hW.put h0 (by rw [e2];exact h1) hN hnp,rfl⟩,?_⟩
 ·simp only
  rw [← e1]
  exact Zg1 h0 (by rw [e1];omega) hnp
 ·simp only [Z9,Yp,e1,e2]
  exact Zer (G:=G') h0 (by omega) (by omega) L
theorem LS.cutAt {a A x B:List Zo} {L L1:Zb} (k0:Nat) (h:LS a (A::B::L1).flatten) (hp:Ux k0 L=some (A++(x++B),L1):=by exact rfl):LS a L.flatten:=by
 refine LS.trans h (LS.trans ?_ (LS.of_perm (Xk hp).symm.flatten))
 simp only [List.flatten_cons,List.append_assoc]
 exact LS.boths A (LS.skips x (LS.refl _))
theorem Zej (m:Ld):(Xd m).length≤m.w.length:=by
 unfold Xd
 split<;>exact W1 _ (Zcr m _ _) _
theorem Zdo {M:Wm} (h:WI M) {s d a:Int} (h0:0≤s) (h1:s<M.n.length) (hd:0≤d∧d<6) (ha:a≤1048576):Qa s d M.w a=none:=by
 unfold Qa
 rw [h.w0]
 have:=h.wn
 simp only
 rw [if_neg (by omega)]
theorem busy_any {M:Wm} {d:Int} {i:Nat} (hi:i<M.n.length) (hb:X7 d (Zf M (i:Int))=true):M.n.any (X7 d)=true:=by
 rw [List.any_eq_true]
 refine ⟨_,?_,hb⟩
 unfold Zf
 simp only [Int.toNat_natCast]
 rw [List.getD,List.getElem?_eq_getElem hi]
 exact List.getElem_mem _
theorem Zmi {M:Wm} {d:Int} (h : ∀ i,i<M.n.length→X7 d (Zf M (i:Int))=false):M.n.any (X7 d)=false:=by
 rw [List.any_eq_false]
 intro x hx
 obtain ⟨i,hi,rfl⟩:=List.mem_iff_getElem.1 hx
 have:=h i hi
 unfold Zf at this
 simp only [Int.toNat_natCast] at this
 rw [List.getD,List.getElem?_eq_getElem hi] at this
 simp only [Option.getD_some] at this
 rw [this]
 simp
set_option maxHeartbeats 2000000 attribute [local irreducible] HW HO HQ HD HC QOp Has Upd Zq Gets Yj Ya Zv Wf Yg Zp Wq Z5
attribute [local irreducible] Xt Zw Yf Zy Yt Zt
theorem Uu (T:Nat) (E:Nat→Addr) (G:WdG) (M:Wm) (s d:Int) (L:Zb) (hG:Er T E [2,3,4,6,8] L) (hW:WdOk G M) (hM:WI M) (hl:M.l.length≤99999999) :
  HC Tryz.prog 21 [pt G.wp 0,iv s,iv d] (Z9 G M++L) (fun v L'=>v=eV T E (Xp M s d).2∧Zao G (Xp M s d).1 L L'):=by
 unfold Xp
 have hself:=Xo hW L
 have hI:=Uy hW L
 have hwn:=hM.wn
 have hwl:=hM.wl
 obtain ⟨an,capn,hnv,hnr⟩:=hI.ns
 by_cases h:d<0∨6≤d∨s<0∨M.n.length≤s
 ·simp only [if_pos h]
  have hG':=Xj hG G M
  have hw:=hI.wp
  unfold V1 at hw
  rw [hnv] at hw
  generalize Z9 G M++L=H at *
  refine Za (fun _ _=>Tryz.call21 _ _) Tryz.func21 rfl Tryz.ntmps21 (Nat.le_of_ble_eq_true rfl) ?_;simp only [Zd,Nat.reduceAdd]
  repeat' (first|refine uN ?_|refine Z8 S ?_|refine Yq S ?_|(refine uB ?_;intro b)|refine dg S 100 (fun _ _=>?_)|(refine uP ?_ ?_<;>(intro h;((try simp only [zs,zq,reduceCtorEq] at h);try exact zx)))|refine da 101 ?_|fail)
  all_goals exact U3 rfl ⟨rfl,hself⟩
 simp only [if_neg h]
 rcases Zeo (M:=M) (s:=s) with ⟨e,he⟩|⟨he,hn,h0,h1,j,ref,hs⟩
 ·have ku:=Zdl s hG.sub hW
  have hG':=Xj hG G M
  have hw:=hI.wp
  unfold V1 at hw
  rw [hnv] at hw
  generalize Z9 G M++L=H at *
  simp only [he] at ku ⊢
  refine Za (fun _ _=>Tryz.call21 _ _) Tryz.func21 rfl Tryz.ntmps21 (Nat.le_of_ble_eq_true rfl) ?_;simp only [Zd,Nat.reduceAdd]
  repeat' (first|refine uN ?_|refine Z8 S ?_|refine Yq S ?_|refine uC (ku) ?_|refine Yy (fun _=>ku) ?_|refine Yz (fun _=>ku) ?_|refine Y0 (fun _=>ku) ?_|refine Y1 (fun _=>ku) ?_|(refine uB ?_;intro b)|refine dg S 100 (fun _ _=>?_)|(refine uP ?_ ?_<;>(intro h;((try simp only [zs,zq,reduceCtorEq] at h);try exact zx)))|refine da 101 ?_|fail)
  exact U3 rfl ⟨rfl,hself⟩
 ·simp only [he]
  have ku:=Zdl s hG.sub hW
  have hG':=Xj hG G M
  have hw:=hI.wp
  unfold V1 at hw
  rw [hnv] at hw
  generalize hH:Z9 G M++L=H at *
  simp only [he,Zkt hn] at ku
  refine Za (fun _ _=>Tryz.call21 _ _) Tryz.func21 rfl Tryz.ntmps21 (Nat.le_of_ble_eq_true rfl) ?_;simp only [Zd,Nat.reduceAdd]
  repeat' (first|refine uN ?_|refine Z8 S ?_|refine Yq S ?_|refine uC (ku) ?_|refine Yy (fun _=>ku) ?_|refine Yz (fun _=>ku) ?_|refine Y0 (fun _=>ku) ?_|refine Y1 (fun _=>ku) ?_|(refine uB ?_;intro b)|refine dg S 100 (fun _ _=>?_)|(refine uP ?_ ?_<;>(intro h;((try simp only [zs,zq,reduceCtorEq] at h);try exact zx)))|refine da 101 ?_|fail)
  have hB : ∀ {i:Int} (h0:0≤i) (h1:i<M.n.length) {b:Nat} {o:Obj},(b,o)∈Ze0 (Zg G i) i (Zf M i)→Has H b o:=fun {i} h0 h1 {b o} hb=>by
   have:=Zes hW.ndl h0 h1 hb L
   subst hH
   unfold Has Z9 at *
   rw [List.append_assoc,List.flatten_append]
   exact List.mem_append_right _ this
  obtain ⟨dn,rfl⟩:=Int.eq_ofNat_of_zero_le (show 0≤d by omega)
  have hd6:dn<6:=by omega
  refine Z2 (σ:=Nat) (fun i=>[(0,pt G.wp 0),(1,iv s),(2,iv dn),(7,pt (Zg G s).np 0),(45,.slice an M.n.length capn),(46,iv M.n.length),(47,iv i)]) (fun _=>H) (fun i=>i≤M.n.length ∧ ∀ k,k<i→X7 dn (Zf M (k:Int))=false) (fun i=>M.n.length-i) 0 uS (List.Sublist.refl _) ⟨by simp,fun k hk=>by omega⟩ ?_
  rintro i ⟨hi,hfree⟩
  by_cases hlt:i<M.n.length
  ·have hBi:=fun {b o}=>hB (i:=(i:Int)) (by omega) (by omega) (b:=b) (o:=o)
   have hni:=Uz hM (s:=(i:Int)) (by omega) (by omega)
   have hok:=X6 hW (s:=(i:Int)) (by omega) (by omega)
   obtain ⟨⟨b,bi,l,F,fr,cap2,e7,hb,hg2⟩,-,-⟩:=Zax hW (s:=(i:Int)) (by omega) (by omega) (H:=H) (fun b o hb=>by
    subst hH
    simp only [Has,Z9,Zan,List.flatten_cons,List.cons_append,List.nil_append]
    simp [hb])
   rw [hnv] at e7
   obtain ⟨rfl,-,rfl⟩:=Value.slice.inj e7
   have hNi:Has H (Zg G i).np (Uw (Zg G i) (Zf M i)):=hBi (by simp [Ze0,U0])
   have kst:=Zhl T E G M i dn H hG'.sub hI hW.ndl (fun _=>hNi) (fun _=>⟨by rw [hni.b512];omega,by rw [hni.b512];omega,fun p hp=>hBi (by
    unfold Ze0 Yf
    simp only [List.mem_cons,List.not_mem_nil,or_false] at hp
    rcases hp with rfl|rfl
    ·simp [plB]
    ·simp [plD])⟩)
   have e1:Za9 M i dn=none:=by
    unfold Za9
    rw [Zdy (by omega) (by omega)]
    simp only
    rw [if_neg (by omega)]
   have e2:Zhk M i dn=Zke (Zf M i).pl dn:=by unfold Zhk;rw [e1]
   rw [e1,e2] at kst
   have hm1:(Zf M i).leads[dn]? = some ((Zf M i).leads.getD dn none):=getD_some (by rw [hni.leads];exact hd6)
   obtain ⟨q,hq⟩ : ∃ q,(Zg G i).ld[dn]? = some q:=⟨_,List.getElem?_eq_getElem (by rw [hok.ld];exact hd6)⟩
   have hv:=Qr hm1 hq
   have gL:=Qb (sv:=Zcc (Zg G i) (Zf M i).site) (bp:=(Zg G i).bp) (dn:=(Zf M i).done) hv
   have hbz:X7 dn (Zf M i)=(decide (Zke (Zf M i).pl dn≠Wu) || ((Zf M i).leads.getD dn none).isSome):=rfl
   have hbu:=busy_any (M:=M) (d:=dn) hlt
   unfold Uw at hNi
   generalize hmi:Zf M i=m at *
   generalize Zg G i=g at *
   generalize Zke m.pl dn=st at *
   obtain ⟨ph,pr,att⟩:=st
   cases hx:m.leads.getD dn none with
   | some x =>
    rw [hx] at gL hbz
    simp only [Zlk] at gL
    have hb1:X7 dn m=true:=by rw [hbz];simp
    rw [if_pos (hbu hb1)]
    repeat' (first|refine uN ?_|refine Z8 S ?_|refine Yq S ?_|refine uC (kst) ?_|refine Yy (fun _=>kst) ?_|refine Yz (fun _=>kst) ?_|refine Y0 (fun _=>kst) ?_|refine Y1 (fun _=>kst) ?_|(refine uB ?_;intro b)|refine dg S 100 (fun _ _=>?_)|(refine uP ?_ ?_<;>(intro h;((try simp only [zs,zq,reduceCtorEq] at h);try exact zx)))|refine da 101 ?_|fail)
    all_goals exact Xb (LS.c (LS.refl _)) ⟨rfl,hself⟩
   | none =>
    rw [hx] at gL hbz
    simp only [Zlk] at gL
    by_cases hz:ph=0∧pr=0∧att=0
    ·obtain ⟨rfl,rfl,rfl⟩:=hz
     have hb0:X7 dn m=false:=by rw [hbz];rfl
     repeat' (first|refine uN ?_|refine Z8 S ?_|refine Yq S ?_|refine uC (kst) ?_|refine Yy (fun _=>kst) ?_|refine Yz (fun _=>kst) ?_|refine Y0 (fun _=>kst) ?_|refine Y1 (fun _=>kst) ?_|(refine uB ?_;intro b)|refine dg S 100 (fun _ _=>?_)|(refine uP ?_ ?_<;>(intro h;((try simp only [zs,zq,reduceCtorEq] at h);try exact zx)))|refine da 101 ?_|fail)
     all_goals refine Y3 (i+1) uS (LS.c (LS.refl _)) ⟨by omega,fun k hk=>?_⟩ (by omega)
     all_goals by_cases e:k=i
     all_goals first|(subst e;rw [hmi];exact hb0;done)|exact hfree k (by omega)
    ·have hb1:X7 dn m=true:=by
      rw [hbz,decide_eq_true]
      ·rfl
      ·intro e
       cases e
       exact hz ⟨rfl,rfl,rfl⟩
     rw [if_pos (hbu hb1)]
     repeat' (first|refine uN ?_|refine Z8 S ?_|refine Yq S ?_|refine uC (kst) ?_|refine Yy (fun _=>kst) ?_|refine Yz (fun _=>kst) ?_|refine Y0 (fun _=>kst) ?_|refine Y1 (fun _=>kst) ?_|(refine uB ?_;intro b)|refine dg S 100 (fun _ _=>?_)|(refine uP ?_ ?_<;>(intro h;((try simp only [zs,zq,reduceCtorEq] at h);try exact zx)))|refine da 101 ?_|fail)
     all_goals first|exact Xb (LS.c (LS.refl _)) ⟨rfl,hself⟩|(exfalso;simp_all;done)
  ·obtain rfl:i=M.n.length:=by omega
   have hany:M.n.any (X7 (dn:Int))=false:=Zmi hfree
   simp only [hany,Bool.false_eq_true,if_false]
   subst hH
   obtain ⟨aw,capw,hwv,-,hwr⟩:=hW.w.rd Yh
   obtain ⟨al,capl,hlv5,-,hlr⟩:=hW.l.rd Zl
   have hvl:=hW.l
   have hok:=X6 hW h0 h1
   have hni:=Uz hM h0 h1
   have hm1:(Zf M s).leads[dn]? = some ((Zf M s).leads.getD dn none):=getD_some (by rw [hni.leads];exact hd6)
   obtain ⟨q,hq⟩ : ∃ q,(Zg G s).ld[dn]? = some q:=⟨_,List.getElem?_eq_getElem (by rw [hok.ld];exact hd6)⟩
   have hv:=Qr hm1 hq
   obtain ⟨A,B,eA,eB⟩:=Zdn hm1 hq
   have hlE:=Zdo hM (s:=s) (d:=dn) (a:=0) h0 h1 ⟨by omega,by omega⟩ (by omega)
   have kb:=fun L hG hR=>Zho T E s dn aw capw M.w L hG hR (by omega)
   rw [hlE] at kb
   rw [hlv5] at hvl
   have hsl:=Zej (Zh s dn M.w 0 2)
   have hslw:(Zh s dn M.w 0 2).w=M.w:=rfl
   rw [hslw] at hsl
   have hsh:=fun G' M1 g' m' a b c d e f=>Zi7 (G:=G) (G':=G') (M:=M) (M1:=M1) (s:=s) (g':=g') (m':=m') L hW.ndl h0 h1 a b c d e f
   have hWL:=fun {lv lc l} hv=>hW.setL (lv:=lv) (lc:=lc) (l:=l) hv
   have hlv:(Yd (Zg G s) (Zf M s)).length=6:=by simp [Yd,hni.leads,hok.ld]
   refine Zdh (L':=Y8 G s (Zg G s) (Zf M s) (Xs G.nd M.n 0 s.toNat) L) ?_ (Zc0 hW.ndl h0 h1 L)
   generalize Xs G.nd M.n 0 s.toNat=X at *
   generalize hmm:Zf M s=m at *
   generalize hgg:Zg G s=g at *
   obtain ⟨pl,site,leads,done⟩:=m
   simp only at hs hm1 hlv
   subst hs
   simp only [Y8,U0,Uw,Zcc,Zf2,Zf1,Zf0,V1]
   rw [hwv,hnv,hlv5]
   repeat' (first|refine uN ?_|refine Z8 S ?_|refine Yq S ?_|refine uC (ku) ?_|refine Yy (fun _=>ku) ?_|refine Yz (fun _=>ku) ?_|refine Y0 (fun _=>ku) ?_|refine Y1 (fun _=>ku) ?_|(refine uB ?_;intro b)|refine dg S 100 (fun _ _=>?_)|(refine uP ?_ ?_<;>(intro h;((try simp only [zs,zq,reduceCtorEq] at h);try exact zx)))|refine da 101 ?_|fail)
   refine Zey 4 (by exact rfl) (fun _=>qe S) ?_
   refine Zey 4 (by exact rfl) (fun _=>qe S) ?_
   refine da 101 ?_
   refine gc (kb _ (by repeat (first|exact hG|exact hG.sub|apply Errs.cons)) ?_) ?_
   ·repeat (first|exact hwr _|apply Rd.cons)
   rintro v L' ⟨lp,wv',wc',rfl,hLd,rfl⟩
   have gP:=Zij (sv:=pt g.sp 0) (bp:=g.bp) (lv:=Yd g ⟨pl,some (j,ref),leads,done⟩) (dn:=done) (d:=dn) (pt lp 0) (by omega)
   have gL2:=Qb (sv:=pt g.sp 0) (bp:=g.bp) (lv:=(Yd g ⟨pl,some (j,ref),leads,done⟩).set dn (pt lp 0)) (dn:=done) (d:=dn) (v:=pt lp 0) (by simp [hlv,hd6])
   have kst:=fun L=>Zcd lp wv' wc' (Zh s dn M.w 0 2) L hLd
   repeat' (first|refine uN ?_|refine Z8 S ?_|refine Yq S ?_|refine uC (ku) ?_|refine Yy (fun _=>ku) ?_|refine Yz (fun _=>ku) ?_|refine Y0 (fun _=>ku) ?_|refine Y1 (fun _=>ku) ?_|(refine uB ?_;intro b)|refine dg S 100 (fun _ _=>?_)|(refine uP ?_ ?_<;>(intro h;((try simp only [zs,zq,reduceCtorEq] at h);try exact zx)))|refine da 101 ?_|fail)
   refine gc (kst _) ?_
   rintro v L' ⟨c2,hv2,rfl⟩
   obtain ⟨a7,cap7,rfl,-,hR7⟩:=hv2.rd Zl
   repeat' (first|refine uN ?_|refine Z8 S ?_|refine Yq S ?_|refine uC (ku) ?_|refine Yy (fun _=>ku) ?_|refine Yz (fun _=>ku) ?_|refine Y0 (fun _=>ku) ?_|refine Y1 (fun _=>ku) ?_|(refine uB ?_;intro b)|refine dg S 100 (fun _ _=>?_)|(refine uP ?_ ?_<;>(intro h;((try simp only [zs,zq,reduceCtorEq] at h);try exact zx)))|refine da 101 ?_|fail)
   refine fo 10 ?_
   refine wpA S hvl (Rd.cons (hR7 _) _) Zl Vj ?_ (hby:=by omega) (hmax:=by omega)
   intro v'' c'' hv''
   obtain ⟨a8,cap8,rfl,-,-⟩:=hv''.rd Zl
   repeat' (first|refine uN ?_|refine Z8 S ?_|refine Yq S ?_|refine uC (ku) ?_|refine Yy (fun _=>ku) ?_|refine Yz (fun _=>ku) ?_|refine Y0 (fun _=>ku) ?_|refine Y1 (fun _=>ku) ?_|(refine uB ?_;intro b)|refine dg S 100 (fun _ _=>?_)|(refine uP ?_ ?_<;>(intro h;((try simp only [zs,zq,reduceCtorEq] at h);try exact zx)))|refine da 101 ?_|fail)
   obtain ⟨L2,hw2,hls2⟩:=hsh { G with lv := .slice a8 (M.l++Xd (Zh s dn M.w 0 2)).length cap8,lc:=c'' } { M with l:=M.l++Xd (Zh s dn M.w 0 2) } { g with ld:=g.ld.set dn (lp,wv',wc') } ⟨pl,some (j,ref),leads.set dn (some (Zh s dn M.w 0 2)),done⟩
    (hW.setL hv'') rfl rfl rfl (hok.lead (q:=(lp,wv',wc')) hLd) rfl
   refine Xb (LS.trans hls2 ?_) ⟨rfl,hw2⟩
   have eB2:=eB (some (Zh s dn M.w 0 2)) (lp,wv',wc') ⟨pl,some (j,ref),leads.set dn (some (Zh s dn M.w 0 2)),done⟩ { g with ld:=g.ld.set dn (lp,wv',wc') } rfl rfl
   have eV2:=Zdm (g:=g) (g':={ g with ld:=g.ld.set dn (lp,wv',wc') }) (m:=⟨pl,some (j,ref),leads,done⟩) (m':=⟨pl,some (j,ref),leads.set dn (some (Zh s dn M.w 0 2)),done⟩) (o':=some (Zh s dn M.w 0 2)) (q':=(lp,wv',wc')) rfl rfl
   simp only [Y8,U0,Uw,Zcc,Zf2,Zf1,Zf0,V1,eV2]
   rw [eB2,eA,hwv,hnv]
   simp only [ldB,W6,Zlk]
   refine LS.trans ls7 (LS.cutAt 10 ?_)
   exact uL
end Go.HL
end

/-! WoU -/
section
namespace Go.HL
open Go Go.Proofs
theorem att_step {k s a j:Int} (hk:0<k) (hs0:0≤s) (hs1:s<k) (hj0:0≤j) (hj:j≤(s-a) % k):((a+j) % k=s↔j=(s-a) % k):=by
 have hr0:=Int.emod_nonneg (s-a) (by omega:k≠0)
 have hr1:=Int.emod_lt_of_pos (s-a) hk
 have e1:=Int.emod_add_mul_ediv (s-a) k
 have e2:=Int.emod_add_mul_ediv (a+j) k
 have h0:=Int.emod_nonneg (a+j) (by omega:k≠0)
 have h1:=Int.emod_lt_of_pos (a+j) hk
 generalize (s-a) % k=r at *
 generalize (a+j) % k=t at *
 generalize (s-a) / k=u at *
 generalize (a+j) / k=v at *
 -- s-a=r+k u,a+j=t+k v
 have e3:s-t=(r-j)+k*(u+v):=by rw [Int.mul_add];omega
 constructor
 ·intro h
  subst h
  have:(r-j) = - (k*(u+v)):=by omega
  have hz:u+v=0:=by
   rcases Int.lt_trichotomy (u+v) 0 with h|h|h
   ·have:k*(u+v)≤k*(-1):=Int.mul_le_mul_of_nonneg_left (by omega) (by omega)
    omega
   ·exact h
   ·have:k*1≤k*(u+v):=Int.mul_le_mul_of_nonneg_left (by omega) (by omega)
    omega
  rw [hz] at this
  omega
 ·intro h
  subst h
  have hz:u+v=0:=by
   rcases Int.lt_trichotomy (u+v) 0 with h|h|h
   ·have:k*(u+v)≤k*(-1):=Int.mul_le_mul_of_nonneg_left (by omega) (by omega)
    omega
   ·exact h
   ·have:k*1≤k*(u+v):=Int.mul_le_mul_of_nonneg_left (by omega) (by omega)
    omega
  rw [hz] at e3
  omega
theorem Zh4 (x:Ld) (l:List Fr) (i:Nat) (h:i<l.length):Z0 x (l.take (i+1))=((Z7 (Z0 x (l.take i)).1 l[i]).1,(Z0 x (l.take i)).2++(Z7 (Z0 x (l.take i)).1 l[i]).2):=by
 unfold Z0
 rw [List.take_add_one,List.getElem?_eq_getElem h,Option.toList_some,List.foldl_append]
 rfl
set_option maxHeartbeats 2000000 attribute [local irreducible] HW HO HQ HD HC QOp Has Upd Zq Gets Yj Ya Zv Wf Yg Zp Wq Z5
attribute [local irreducible] Xt Zw Yf Zy Yt Zt
theorem Zk0 (T:Nat) (E:Nat→Addr) (G:WdG) (M:Wm) (s d p:Int) (L:Zb) (hG:Er T E [2,3,4,5,6] L) (hW:WdOk G M) (hM:WI M) (hl:M.l.length≤99999900) (h0:0≤s) (h1:s<M.n.length) (hs:(Zf M s).site≠none) (hd:0≤d∧d<6) (hp:0≤p∧p≤1048576) :
  HC Tryz.prog 144 [pt G.wp 0,iv s,iv d,iv p] (Z9 G M++L) (fun v L'=>v = .bool (Zcq M s d p).2∧Zao G (Zcq M s d p).1 L L'):=by
 have hself:=Xo hW L
 have hI:=Uy hW L
 have hwn:=hM.wn
 have hwl:=hM.wl
 have hw1:=hM.w1
 have hG':=Xj hG G M
 have hw:=hI.wp
 obtain ⟨⟨nb,ni,nl,nF,nfr,ncap,hnv,hnb,hng⟩,-,-⟩:=Zax hW h0 h1 (H:=Z9 G M++L) (fun b o hb=>by
  simp only [Has,Z9,Zan,List.flatten_cons,List.cons_append,List.nil_append]
  simp [hb])
 obtain ⟨aw,capw,hwv,-,hwr⟩:=hW.w.rd Yh
 unfold V1 at hw
 rw [hnv,hwv] at hw
 have hok:=X6 hW h0 h1
 have hni:=Uz hM h0 h1
 obtain ⟨dn,rfl⟩:=Int.eq_ofNat_of_zero_le hd.1
 have hd6:dn<6:=by omega
 have hm1:(Zf M s).leads[dn]? = some ((Zf M s).leads.getD dn none):=getD_some (by rw [hni.leads];exact hd6)
 obtain ⟨q,hq⟩ : ∃ q,(Zg G s).ld[dn]? = some q:=⟨_,List.getElem?_eq_getElem (by rw [hok.ld];exact hd6)⟩
 have hv:=Qr hm1 hq
 have gL:=Qb (sv:=Zcc (Zg G s) (Zf M s).site) (bp:=(Zg G s).bp) (dn:=(Zf M s).done) hv
 have hN:=Za6 hW.ndl h0 h1 L
 have hB : ∀ {b:Nat} {o:Obj},(b,o)∈Ze0 (Zg G s) s (Zf M s)→Has (Z9 G M++L) b o:=fun {b o} hb=>by
  have:=Zes hW.ndl h0 h1 hb L
  unfold Has Z9 at *
  rw [List.append_assoc,List.flatten_append]
  exact List.mem_append_right _ this
 have kse : ∀ x,(Zf M s).leads[dn]? = some (some x)→HC Tryz.prog 191 [pt q.1 0] (Z9 G M++L) (fun v L'=>v=iv x.seen∧L'=(Z9 G M++L)):=fun x hx=>lseenH q.1 q.2.1 x _ (hni.ldi dn x hx).told (hB (by
  unfold Ze0
  exact List.mem_append_right _ (Zib hx hq (by simp [W6]))))
 have hab:0≤Xh (Zf M s) dn p∧Xh (Zf M s) dn p≤1048576:=by
  unfold Xh
  split
  ·exact hp
  ·rename_i x hx
   have:=hni.ldi dn x (by rw [hm1];simp only [Int.toNat_natCast] at hx;rw [hx])
   have h1:=this.seen0
   have h2:=this.seen1
   omega
 have hr0:=Int.emod_nonneg (s-(Xh (Zf M s) dn p+1)) (by omega:(M.w.length:Int)≠0)
 have hr1:=Int.emod_lt_of_pos (s-(Xh (Zf M s) dn p+1)) (by omega:(0:Int)<M.w.length)
 unfold Uw at hN
 generalize hH:Z9 G M++L=H at *
 unfold Zcq Zhf
 have habv:Xh (Zf M s) dn p=match (Zf M s).leads.getD dn none with
  | none=>p
  | some x=>max p x.seen:=rfl
 generalize hab2:Xh (Zf M s) dn p=ab at *
 refine Za (fun _ _=>Tryz.call144 _ _) Tryz.func144 rfl Tryz.ntmps144 (Nat.le_of_ble_eq_true rfl) ?_;simp only [Zd,Nat.reduceAdd]
 apply once_w (ι:=Int) (fun a=>a=ab) (fun a=>[(0,pt G.wp 0),(1,iv s),(2,iv dn),(9,pt (Zg G s).np 0),(12,iv M.w.length),(13,iv (a+1))]) (fun _=>H)
 ·intro key
  cases hx:(Zf M s).leads.getD dn none with
  | none =>
   rw [hx] at gL habv
   simp only [Zlk] at gL habv
   repeat' (first|refine uN ?_|refine Z8 S ?_|refine Yq S ?_|refine uC (kse _ hx) ?_|refine Yy (fun _=>kse _ hx) ?_|refine Yz (fun _=>kse _ hx) ?_|refine Y0 (fun _=>kse _ hx) ?_|refine Y1 (fun _=>kse _ hx) ?_|(refine uB ?_;intro b)|(refine uP ?_ ?_<;>(intro h;((try simp only [zs,zq,reduceCtorEq] at h);try exact zx)))|refine da 101 ?_|fail)
   exact Zdh (hw_sub (key _ habv.symm) uS) (LS.refl _)
  | some x =>
   rw [hx] at gL habv hm1
   simp only [Zlk] at gL habv
   have kse2:=kse x hm1
   repeat' (first|refine uN ?_|refine Z8 S ?_|refine Yq S ?_|refine uC (kse2) ?_|refine Yy (fun _=>kse2) ?_|refine Yz (fun _=>kse2) ?_|refine Y0 (fun _=>kse2) ?_|refine Y1 (fun _=>kse2) ?_|(refine uB ?_;intro b)|(refine uP ?_ ?_<;>(intro h;((try simp only [zs,zq,reduceCtorEq] at h);try exact zx)))|refine da 101 ?_|fail)
   exact Zdh (hw_sub (key _ habv.symm) uS) (LS.refl _)
 rintro ab' rfl
 refine Z2 (σ:=Int) (fun x=>[(0,pt G.wp 0),(1,iv s),(2,iv dn),(9,pt (Zg G s).np 0),(12,iv M.w.length),(13,iv x)]) (fun _=>H) (fun x => ∃ j:Nat,x=ab'+1+j∧(j:Int)≤(s-(ab'+1)) % M.w.length) (fun x=>(ab'+1+(s-(ab'+1)) % M.w.length-x).toNat) (ab'+1) uS (List.Sublist.refl _) ⟨0,by simp,hr0⟩ ?_
 rintro x ⟨j,rfl,hj⟩
 have hst:=att_step (k:=M.w.length) (s:=s) (a:=ab'+1) (j:=j) (by omega) h0 (by omega) (by omega) hj
 by_cases hlt:(j:Int)=(s-(ab'+1)) % M.w.length
 ·rw [← hlt]
  have hst2:=hst.2 hlt
  have kH:=fun x=>Za7 T E G M s (Za4 s dn x) L hG.sub hW hM h0 h1 hs
  have hRI:=fun x=>hM.hear (f:=Za4 s dn x) h0 h1 (by show s<_;omega)
  have hRl:=fun x=>Zfm M s (Za4 s dn x)
  have hRw : ∀ x,(Xe M s (Za4 s dn x)).1.w=M.w:=fun x=>rfl
  have hRL : ∀ x,(Xe M s (Za4 s dn x)).1.l=M.l:=fun x=>rfl
  have hRn : ∀ x,(Xe M s (Za4 s dn x)).1.n.length=M.n.length:=fun x=>by
   exact (hRI x).1.wn.trans ((congrArg List.length (hRw x)).trans hwn.symm)
  subst hH
  clear hst kse hB hnb
  have ha1:1≤ab'+1+j:=by omega
  have ha2:ab'+1+j≤1048590:=by omega
  have ha3:0≤ab'+1+(j:Int):=by omega
  clear hj
  generalize ab'+1+(j:Int)=a at *
  specialize kH a
  specialize hRI a
  specialize hRl a
  specialize hRw a
  specialize hRL a
  specialize hRn a
  generalize Xe M s (Za4 s dn a)=R at *
  obtain ⟨M2,told,ok⟩:=R
  simp only at kH hRI hRl hRw hRL hRn ⊢
  obtain ⟨hM2,hfo⟩:=hRI
  repeat' (first|refine uN ?_|refine Z8 S ?_|refine Yq S ?_|refine uC (hab) ?_|refine Yy (fun _=>hab) ?_|refine Yz (fun _=>hab) ?_|refine Y0 (fun _=>hab) ?_|refine Y1 (fun _=>hab) ?_|(refine uB ?_;intro b)|(refine uP ?_ ?_<;>(intro h;((try simp only [zs,zq,reduceCtorEq] at h);try exact zx)))|refine da 101 ?_|fail)
  ·rw [if_pos h]
   exact Xb (LS.refl _) ⟨rfl,hself⟩
  all_goals rw [if_neg h]
  all_goals refine gc kH ?_
  all_goals rintro v L' ⟨c,⟨fv,hfv,rfl⟩,G2,e1,e2,hW2,rfl⟩
  all_goals obtain ⟨af,capf,rfl,-,hRf⟩:=hfv.rd Zl
  all_goals cases ok with
  | false =>
   simp only [if_true]
   repeat' (first|refine uN ?_|refine Z8 S ?_|refine Yq S ?_|refine uC (hab) ?_|refine Yy (fun _=>hab) ?_|refine Yz (fun _=>hab) ?_|refine Y0 (fun _=>hab) ?_|refine Y1 (fun _=>hab) ?_|(refine uB ?_;intro b)|(refine uP ?_ ?_<;>(intro h;((try simp only [zs,zq,reduceCtorEq] at h);try exact zx)))|refine da 101 ?_|fail)
   refine Xb (L':=Z9 G2 M2++L) ?_ ⟨rfl,G2,e1,e2,hW2,rfl⟩
   simp only [List.flatten_append,List.flatten_cons]
   exact LS.boths _ (LS.skips _ (LS.refl _))
  | true =>
   simp only [Bool.true_eq_false,if_false]
   have h1':s<M2.n.length:=by rw [hRn];exact h1
   have hl2:=hW2.ndl
   have hnp2:=Zlr e2 h0 (by rw [hW.ndl];exact h1)
   have hok2:=X6 hW2 h0 h1'
   have hni2:=Uz hM2 h0 h1'
   have hw22:=hW2.w
   rw [hRw] at hw22
   obtain ⟨aw2,capw2,hwv2,-,hwr2⟩:=hw22.rd Yh
   obtain ⟨al2,capl2,hlv2,-,-⟩:=hW2.l.rd Zl
   have hvl:=hW2.l
   rw [hlv2] at hvl
   have hm2:(Zf M2 s).leads[dn]? = some ((Zf M2 s).leads.getD dn none):=getD_some (by rw [hni2.leads];exact hd6)
   obtain ⟨q2,hq2⟩ : ∃ q2,(Zg G2 s).ld[dn]? = some q2:=⟨_,List.getElem?_eq_getElem (by rw [hok2.ld];exact hd6)⟩
   have hv2:=Qr hm2 hq2
   obtain ⟨A,B,eA,eB⟩:=Zdn hm2 hq2
   have htE:tryE s dn M.w a=none:=by
    unfold tryE
    rw [Zdo hM h0 h1 hd (by omega)]
    simp only
    rw [if_neg (by omega)]
   have kt:=fun L hG hR=>Znv T E s dn aw2 capw2 M.w a L hG hR (by omega)
   rw [htE] at kt
   have hNI:LdI M.w s.toNat dn (Zh s dn M.w a 4):=by
    have:=Zg0 (w:=M.w) (s:=s.toNat) (d:=dn) (a:=a) (k:=4) (by omega) (by omega)
    rw [show ((s.toNat:Nat):Int)=s by omega] at this
    exact this
   have hsl:=Zej (Zh s dn M.w a 4)
   have hslw:(Zh s dn M.w a 4).w=M.w:=rfl
   rw [hslw] at hsl
   have hsh:=fun G' M1 g' m' a b c d e f=>Zi7 (G:=G2) (G':=G') (M:=M2) (M1:=M1) (s:=s) (g':=g') (m':=m') L hl2 h0 h1' a b c d e f
   have hlvs:(Yd (Zg G2 s) (Zf M2 s)).length=6:=by simp [Yd,hni2.leads,hok2.ld]
   refine Zdg (L':=Y8 G2 s (Zg G2 s) (Zf M2 s) (Xs G2.nd M2.n 0 s.toNat) (c::L)) ?_ (Zc0 hl2 h0 h1' _)
   simp only [← hnp2]
   have hGP : ∀ L L',Zao G2 { Yp M2 s { Zf M2 s with leads:=(Zf M2 s).leads.set dn (some (Z0 (Zh s dn M.w a 4) told).1) } with l:=M2.l++Xd (Zh s dn M.w a 4)++(Z0 (Zh s dn M.w a 4) told).2 } L L' →
     Zao G { Yp M2 s { Zf M2 s with leads:=(Zf M2 s).leads.set dn (some (Z0 (Zh s dn M.w a 4) told).1) } with l:=M2.l++Xd (Zh s dn M.w a 4)++(Z0 (Zh s dn M.w a 4) told).2 } L L':=fun L L' h=>by
    obtain ⟨G3,f1,f2,f3,f4⟩:=h
    exact ⟨G3,f1.trans e1,f2.trans e2,f3,f4⟩
   generalize Xs G2.nd M2.n 0 s.toNat=X at *
   generalize hmm:Zf M2 s=m at *
   generalize hgg:Zg G2 s=g at *
   simp only [Y8,U0,Uw,V1,e1]
   rw [hwv2,hlv2]
   repeat' (first|refine uN ?_|refine Z8 S ?_|refine Yq S ?_|refine uC (hab) ?_|refine Yy (fun _=>hab) ?_|refine Yz (fun _=>hab) ?_|refine Y0 (fun _=>hab) ?_|refine Y1 (fun _=>hab) ?_|(refine uB ?_;intro b)|(refine uP ?_ ?_<;>(intro h;((try simp only [zs,zq,reduceCtorEq] at h);try exact zx)))|refine da 101 ?_|fail)
   refine gc (kt _ (by repeat (first|exact hG|exact hG.sub|apply Errs.cons)) ?_) ?_
   ·repeat (first|exact hwr2 _|apply Rd.cons)
   rintro v L' ⟨lp,wv',wc',rfl,hLd,rfl⟩
   have gP:=Zij (sv:=Zcc g m.site) (bp:=g.bp) (lv:=Yd g m) (dn:=m.done) (d:=dn) (pt lp 0) (by omega)
   have kst:=fun L=>Zcd lp wv' wc' (Zh s dn M.w a 4) L hLd
   repeat' (first|refine uN ?_|refine Z8 S ?_|refine Yq S ?_|refine uC (hab) ?_|refine Yy (fun _=>hab) ?_|refine Yz (fun _=>hab) ?_|refine Y0 (fun _=>hab) ?_|refine Y1 (fun _=>hab) ?_|(refine uB ?_;intro b)|(refine uP ?_ ?_<;>(intro h;((try simp only [zs,zq,reduceCtorEq] at h);try exact zx)))|refine da 101 ?_|fail)
   refine gc (kst _) ?_
   rintro v L' ⟨c2,hv2,rfl⟩
   obtain ⟨a7,cap7,rfl,-,hR7⟩:=hv2.rd Zl
   repeat' (first|refine uN ?_|refine Z8 S ?_|refine Yq S ?_|refine uC (hab) ?_|refine Yy (fun _=>hab) ?_|refine Yz (fun _=>hab) ?_|refine Y0 (fun _=>hab) ?_|refine Y1 (fun _=>hab) ?_|(refine uB ?_;intro b)|(refine uP ?_ ?_<;>(intro h;((try simp only [zs,zq,reduceCtorEq] at h);try exact zx)))|refine da 101 ?_|fail)
   refine fo 10 ?_
   refine wpA S hvl (Rd.cons (hR7 _) _) Zl Vj ?_ (hby:=by rw [hRL];omega) (hmax:=by rw [hRL];omega)
   intro v'' c'' hv''
   obtain ⟨a8,cap8,rfl,-,-⟩:=hv''.rd Zl
   repeat' (first|refine uN ?_|refine Z8 S ?_|refine Yq S ?_|refine uC (hab) ?_|refine Yy (fun _=>hab) ?_|refine Yz (fun _=>hab) ?_|refine Y0 (fun _=>hab) ?_|refine Y1 (fun _=>hab) ?_|(refine uB ?_;intro b)|(refine uP ?_ ?_<;>(intro h;((try simp only [zs,zq,reduceCtorEq] at h);try exact zx)))|refine da 101 ?_|fail)
   have hho:=fun i=>Zbf (w:=M.w) (s:=s.toNat) (d:=dn) (by omega) hwl hd6 (told.take i) (Zh s dn M.w a 4) [] hNI (fun f hf=>hfo f (List.mem_of_mem_take hf)) (fun f hf=>by cases hf)
   change ∀ i,LdI M.w s.toNat dn (Z0 (Zh s dn M.w a 4) (told.take i)).1 ∧ ∀ f∈(Z0 (Zh s dn M.w a 4) (told.take i)).2,Zd1 M.w.length f at hho
   refine Z2 (σ:=Nat × Value × List Zo) (fun r=>[(0,pt G.wp 0),(16,pt lp 0),(96,.slice af told.length capf),(97,iv told.length),(98,iv r.1)])
    (fun r=>r.2.2::W6 lp wv' wc' (Z0 (Zh s dn M.w a 4) (told.take r.1)).1::[(G.wp,.cells ⟨[.slice aw2 M.w.length capw2,G2.nv,.map (some G2.mb),r.2.1,G2.ev]⟩ 110)]::G2.ec::[(g.np,.cells ⟨Xt (Zcc g m.site) g.bp ((Yd g m).set dn (pt lp 0)) m.done⟩ 122)]::Zf2 g s m.site::Zf1 g m.site::Yf g.bp g.ba m.pl::Zf0 g m.site::Un g m::G2.wc::G2.nc::[(G2.mb,.map ⟨G2.es⟩ G2.ck)]::X::c::L)
    (fun r=>r.1≤told.length∧(Z0 (Zh s dn M.w a 4) (told.take r.1)).2.length≤7*r.1∧Y9 r.2.1 (M2.l++Xd (Zh s dn M.w a 4)++(Z0 (Zh s dn M.w a 4) (told.take r.1)).2) r.2.2) (fun r=>told.length-r.1) (0,.slice a8 (M2.l++Xd (Zh s dn M.w a 4)).length cap8,c'') uS (by refine List.Sublist.cons_cons _ (List.Sublist.cons _ (List.Sublist.refl _))) ⟨by simp,by simp [Z0],by simpa [Z0] using hv''⟩ ?_
   rintro ⟨i,lv3,lc3⟩ ⟨hi,hlen,hv3⟩
   simp only at hi hlen hv3 ⊢
   obtain ⟨hI3,hF3⟩:=hho i
   have hlast:i=told.length→Z0 (Zh s dn M.w a 4) (told.take i)=Z0 (Zh s dn M.w a 4) told:=fun e=>by rw [e,List.take_length]
   have hsucc:=fun h=>Zh4 (Zh s dn M.w a 4) told i h
   have hLO3:LdOk wv' wc' (Z0 (Zh s dn M.w a 4) (told.take i)).1:=hLd.of hI3.ww (by rw [hI3.told];rfl)
   have hhd3:(Z0 (Zh s dn M.w a 4) (told.take i)).1.heard<2 ^ (Z0 (Zh s dn M.w a 4) (told.take i)).1.w.length:=by rw [hI3.ww];exact hI3.heard
   obtain ⟨al3,capl3,hlv3,-,-⟩:=hv3.rd Zl
   subst hlv3
   by_cases hit:i<told.length
   ·specialize hsucc hit
    have hq:=hho (i+1)
    have hl3:=Zat (Z0 (Zh s dn M.w a 4) (told.take i)).1 told[i]
    rw [hI3.ww] at hl3
    rw [hsucc] at hq
    have kh:=fun L hG=>Zdd T E lp wv' wc' (Z0 (Zh s dn M.w a 4) (told.take i)).1 told[i] L hG hLO3 hhd3
    obtain ⟨b5,i5,l5,F5,fr5,e6,hb5,hg5⟩:=(hRf L).at (j:=(i:Int)) (by omega) (by omega)
    subst e6
    have hgi:told[(i:Int).toNat]'(by omega)=told[i]:=rfl
    rw [hgi] at hg5
    clear hlast hI3 hF3 hho
    generalize Z0 (Zh s dn M.w a 4) (told.take i)=Q at *
    obtain ⟨x3,fs3⟩:=Q
    simp only at hlen hv3 hLO3 hhd3 hl3 kh hsucc ⊢
    generalize told[i]=f at *
    obtain ⟨ffr,fto,fdl,fkd,fatt,fys,fs⟩:=f
    repeat' (first|refine uN ?_|refine Z8 S ?_|refine Yq S ?_|refine uC (hab) ?_|refine Yy (fun _=>hab) ?_|refine Yz (fun _=>hab) ?_|refine Y0 (fun _=>hab) ?_|refine Y1 (fun _=>hab) ?_|(refine uB ?_;intro b)|(refine uP ?_ ?_<;>(intro h;((try simp only [zs,zq,reduceCtorEq] at h);try exact zx)))|refine da 101 ?_|fail)
    refine fo 2 ?_
    refine gc (kh _ (by repeat (first|exact hG|exact hG.sub|apply Errs.cons))) ?_
    rintro v L' ⟨c4,hv4,rfl⟩
    obtain ⟨a9,cap9,rfl,-,hR9⟩:=hv4.rd Zl
    repeat' (first|refine uN ?_|refine Z8 S ?_|refine Yq S ?_|refine uC (hab) ?_|refine Yy (fun _=>hab) ?_|refine Yz (fun _=>hab) ?_|refine Y0 (fun _=>hab) ?_|refine Y1 (fun _=>hab) ?_|(refine uB ?_;intro b)|(refine uP ?_ ?_<;>(intro h;((try simp only [zs,zq,reduceCtorEq] at h);try exact zx)))|refine da 101 ?_|fail)
    refine fo 3 ?_
    refine wpA S hv3 (Rd.cons (hR9 _) _) Zl Vj ?_ (hby:=by simp only [List.length_append,hRL];omega) (hmax:=by simp only [List.length_append,hRL];omega)
    intro v5 c5 hv5
    obtain ⟨a10,cap10,rfl,-,-⟩:=hv5.rd Zl
    repeat' (first|refine uN ?_|refine Z8 S ?_|refine Yq S ?_|refine uC (hab) ?_|refine Yy (fun _=>hab) ?_|refine Yz (fun _=>hab) ?_|refine Y0 (fun _=>hab) ?_|refine Y1 (fun _=>hab) ?_|(refine uB ?_;intro b)|(refine uP ?_ ?_<;>(intro h;((try simp only [zs,zq,reduceCtorEq] at h);try exact zx)))|refine da 101 ?_|fail)
    refine Y3 (i+1,.slice a10 (M2.l++Xd (Zh s dn M.w a 4)++fs3++(Z7 x3 ⟨ffr,fto,fdl,fkd,fatt,fys,fs⟩).2).length cap10,c5) uS ?_ ⟨by simp only;omega,?_,?_⟩ (by simp only;omega)
    ·simp only [hsucc,W6]
     exact uL
    ·simp only [hsucc,List.length_append]
     omega
    ·simp only [hsucc]
     rw [← List.append_assoc]
     exact hv5
   ·obtain rfl:i=told.length:=by omega
    rw [hlast rfl] at hv3 hI3 ⊢
    have hLO4:=hlast rfl▸hLO3
    repeat' (first|refine uN ?_|refine Z8 S ?_|refine Yq S ?_|refine uC (hab) ?_|refine Yy (fun _=>hab) ?_|refine Yz (fun _=>hab) ?_|refine Y0 (fun _=>hab) ?_|refine Y1 (fun _=>hab) ?_|(refine uB ?_;intro b)|(refine uP ?_ ?_<;>(intro h;((try simp only [zs,zq,reduceCtorEq] at h);try exact zx)))|refine da 101 ?_|fail)
    obtain ⟨L2,hw2,hls2⟩:=hsh { G2 with lv := .slice al3 (M2.l++Xd (Zh s dn M.w a 4)++(Z0 (Zh s dn M.w a 4) told).2).length capl3,lc:=lc3 } { M2 with l:=M2.l++Xd (Zh s dn M.w a 4)++(Z0 (Zh s dn M.w a 4) told).2 } { g with ld:=g.ld.set dn (lp,wv',wc') } { m with leads:=m.leads.set dn (some (Z0 (Zh s dn M.w a 4) told).1) }
     (hW2.setL hv3) rfl rfl rfl (hok2.lead (q:=(lp,wv',wc')) hLO4) rfl
    refine Xb (LS.trans hls2 ?_) ⟨rfl,hGP _ _ hw2⟩
    have eB2:=eB (some (Z0 (Zh s dn M.w a 4) told).1) (lp,wv',wc') { m with leads:=m.leads.set dn (some (Z0 (Zh s dn M.w a 4) told).1) } { g with ld:=g.ld.set dn (lp,wv',wc') } rfl rfl
    have eV2:=Zdm (g:=g) (g':={ g with ld:=g.ld.set dn (lp,wv',wc') }) (m:=m) (m':={ m with leads:=m.leads.set dn (some (Z0 (Zh s dn M.w a 4) told).1) }) (o':=some (Z0 (Zh s dn M.w a 4) told).1) (q':=(lp,wv',wc')) rfl rfl
    simp only [Y8,U0,Uw,V1,eV2]
    rw [eB2,eA,hwv2,e1]
    simp only [ldB,W6,Zlk]
    refine LS.trans ls7 (LS.cutAt 9 ?_)
    exact uL
 ·have hst2 : ¬ (ab'+1+j) % M.w.length=s:=fun h=>hlt (hst.1 h)
  repeat' (first|refine uN ?_|refine Z8 S ?_|refine Yq S ?_|refine uC (hab) ?_|refine Yy (fun _=>hab) ?_|refine Yz (fun _=>hab) ?_|refine Y0 (fun _=>hab) ?_|refine Y1 (fun _=>hab) ?_|(refine uB ?_;intro b)|(refine uP ?_ ?_<;>(intro h;((try simp only [zs,zq,reduceCtorEq] at h);try exact zx)))|refine da 101 ?_|fail)
  refine Y3 (ab'+1+(j:Int)+1) uS (LS.refl _) ⟨j+1,by push_cast;omega,by push_cast;omega⟩ (by omega)
end Go.HL
end

/-! StE -/
section
namespace Go.HL
open Go Go.Proofs
theorem si_new {n:Nat} (h:216≤n) (h2:n≤1000000):SI ⟨Zx n,false,-1⟩ ⟨Zt (Zx n),false⟩:=by
 refine ⟨⟨by simpa [Zx] using h,by simpa [Zx] using h2,by simp,by simp,rfl,rfl⟩,fun d hd=>?_⟩
 have:Y2 ⟨Zt (Zx n),false⟩ d=Wu:=by
  unfold Y2
  rw [Zd4 h]
  show ((List.replicate 6 Zk).getD d Zk).s=Wu
  rw [List.getD,List.getElem?_replicate]
  split<;>rfl
 rw [this]
 exact ⟨by decide,by decide,by decide,by decide,by decide⟩
set_option maxHeartbeats 2000000 attribute [local irreducible] HW HO HQ HD HC QOp Has Upd Zq Gets Yj Ya Zv Wf Yg Zp Wq Z5
attribute [local irreducible] Zw Yf Zx Zt Wa Yi Zy
end Go.HL
end

/-! WoJ -/
section
namespace Go.HL
open Go Go.Proofs
theorem WI.at {M:Wm} (h:WI M) {s:Int} (h0:0≤s) (h1:s<M.n.length):NdI M.w s.toNat (Zf M s):=h.nd s.toNat _ (getD_some (by omega))
theorem Zdv {M:Wm} {s:Int} {m:Nd} (h0:0≤s) (h1:s<M.n.length):Zf (Yp M s m) s=m:=by
 unfold Zf Yp
 simp only
 rw [List.getD,List.getElem?_set_self (by omega)]
 rfl
structure Same (M M':Wm):Prop where
 w:M'.w=M.w
 n:M'.n.length=M.n.length
theorem Same.refl (M:Wm):Same M M:=⟨rfl,rfl⟩
theorem Same.trans {A B C:Wm} (h:Same A B) (h':Same B C):Same A C:=⟨h'.w.trans h.w,h'.n.trans h.n⟩
theorem Zeg (M:Wm) (s:Int) (m:Nd):Same M (Yp M s m):=⟨rfl,by simp [Yp]⟩
theorem Zfy (M:Wm) (s:Int) (f:Fr):Same M (Xe M s f).1:=⟨rfl,by simp [Xe,Yp]⟩
theorem hearW_l (M:Wm) (s:Int) (f:Fr):(Xe M s f).1.l=M.l:=rfl
theorem Zjw {M:Wm} {s:Int} {f:Fr} (h0:0≤s) (h1:s<M.n.length) (h:(Xe M s f).2.2=true):(Zf (Xe M s f).1 s).site≠none:=by
 have e:Zf (Xe M s f).1 s=(W5 s (Zf M s) M.ev f).1:=by
  unfold Xe
  exact Zdv h0 h1
 rw [e]
 unfold Xe at h
 simp only at h
 unfold W5 at h ⊢
 split at h
 ·cases h
 ·split at h
  ·cases h
  ·rename_i hoff
   simp only [if_neg hoff]
   simp
theorem Zfn (M:Wm) (s:Int) (f:Fr):(Xe M s f).2.1.length≤1:=by
 unfold Xe W5
 split
 ·simp
 ·rename_i j ref _
  split
  ·simp
  ·simp only
   unfold Zy
   split
   ·simp
   split
   ·simp
   split
   ·simp
   ·simp only
    split<;>simp
theorem Zdf {w:List Int} {s d:Nat} (hs:s<w.length) (hw:w.length≤7) (hd:d<6) : ∀ (l:List Fr) (x:Ld) (acc:List Fr),LdI w s d x→(∀ f∈l,Zd1 w.length f)→(l.foldl (fun q f=>((Z7 q.1 f).1,q.2++(Z7 q.1 f).2)) (x,acc)).2.length≤acc.length+7*l.length
 | [],x,acc,hx,_=>by simp
 | f::l,x,acc,hx,hl=>by
  rw [List.foldl_cons]
  have k1:=(hx.hear hs hw hd (hl f (by simp)).1).1
  have k2:=Zat x f
  rw [hx.ww] at k2
  have:=Zdf hs hw hd l _ (acc++(Z7 x f).2) k1 (fun g hg=>hl g (by simp [hg]))
  simp only [List.length_append,List.length_cons] at this ⊢
  omega
theorem Zf6 (m:Ld):(Xd m).length≤m.w.length:=by
 unfold Xd
 split<;>exact W1 _ (Zcr m _ _) _
structure TryOk (M M':Wm) (s:Int) (b:Bool):Prop where
 wi:WI M'
 same:Same M M'
 len:M'.l.length≤M.l.length+14
 up:b=true→(Zf M' s).site≠none
theorem Zi3 {w:List Int} {s:Nat} {m:Nd} (hm:NdI w s m) {d p:Int} (hd:0≤d∧d<6) (hp:0≤p∧p≤1048576):0≤Xh m d p∧Xh m d p≤1048576:=by
 unfold Xh
 split
 ·exact hp
 ·rename_i x hx
  have:=hm.ldi d.toNat x (by
   have h6:=hm.leads
   rw [getD_some (x:=none) (l:=m.leads) (i:=d.toNat) (by omega),hx])
  have h1:=this.seen0
  have h2:=this.seen1
  omega
theorem try_ok {M:Wm} (h:WI M) {s d p:Int} (h0:0≤s) (h1:s<M.n.length) (hs:(Zf M s).site≠none) (hd:0≤d∧d<6) (hp:0≤p∧p≤1048576):TryOk M (Zcq M s d p).1 s (Zcq M s d p).2:=by
 have hn:=h.wn
 have hw:=h.wl
 have hw1:=h.w1
 have hab:=Zi3 (h.at h0 h1) hd hp
 unfold Zcq
 simp only
 generalize ha:Zhf M.w.length s (Xh (Zf M s) d p+1)=a
 have ha1:1≤a:=by
  unfold Zhf at ha
  have:=Int.emod_nonneg (s-(Xh (Zf M s) d p+1)) (by omega:(M.w.length:Int)≠0)
  omega
 split
 ·exact ⟨h,.refl _,by simp,fun _=>hs⟩
 rename_i hle
 obtain ⟨hI,hF⟩:=h.hear (f:=Za4 s d a) h0 h1 (by show s<_;omega)
 have hS:=Zfy M s (Za4 s d a)
 have hone:=Zfn M s (Za4 s d a)
 have hl:=hearW_l M s (Za4 s d a)
 have hst:=Zjw (f:=Za4 s d a) h0 h1
 generalize Xe M s (Za4 s d a)=R at *
 split
 ·rename_i hr
  exact ⟨hI,hS,by rw [hl];omega,fun e=>by cases e⟩
 rename_i hr
 have hr':R.2.2=true:=by simpa using hr
 have h1':s<R.1.n.length:=by rw [hS.n];exact h1
 have hx:=hI.at h0 h1'
 have hNI:LdI M.w s.toNat d.toNat (Zh s d M.w a 4):=by
  have:=Zg0 (w:=M.w) (s:=s.toNat) (d:=d.toNat) (a:=a) (k:=4) (by omega) (by omega)
  rw [show ((s.toNat:Nat):Int)=s by omega,show ((d.toNat:Nat):Int)=d by omega] at this
  exact this
 have hho:=Zbf (w:=M.w) (s:=s.toNat) (d:=d.toNat) (by omega) hw (by omega) R.2.1 (Zh s d M.w a 4) [] hNI hF (fun f hf=>by cases hf)
 have hhl:=Zdf (w:=M.w) (s:=s.toNat) (d:=d.toNat) (by omega) hw (by omega) R.2.1 (Zh s d M.w a 4) [] hNI hF
 change LdI M.w s.toNat d.toNat (Z0 (Zh s d M.w a 4) R.2.1).1 ∧ ∀ f∈(Z0 (Zh s d M.w a 4) R.2.1).2,Zd1 M.w.length f at hho
 change (Z0 (Zh s d M.w a 4) R.2.1).2.length≤_ at hhl
 have hso:=Zf7 hNI (by omega) hw (by omega)
 have hsl:=Zf6 (Zh s d M.w a 4)
 rw [show (Zh s d M.w a 4).w=M.w from rfl] at hsl
 have hset:=hI.set (m:={ Zf R.1 s with leads:=(Zf R.1 s).leads.set d.toNat (some (Z0 (Zh s d M.w a 4) R.2.1).1) }) h0 (hx.lead (by rw [hS.w];exact hho.1))
 refine ⟨hset.setL fun f hf=>?_,hS.trans ⟨rfl,by simp [Yp]⟩,?_,fun _=>?_⟩
 ·show Zd1 R.1.w.length f
  rw [hS.w]
  rw [hl] at hf
  rcases List.mem_append.1 hf with hf|hf
  ·rcases List.mem_append.1 hf with hf|hf
   ·exact h.fr f hf
   ·exact hso f hf
  ·exact hho.2 f hf
 ·simp only [List.length_append,hl]
  simp only [List.length_nil] at hhl
  omega
 ·have e:(Zf (Yp R.1 s { Zf R.1 s with leads:=(Zf R.1 s).leads.set d.toNat (some (Z0 (Zh s d M.w a 4) R.2.1).1) }) s).site≠none:=by
   rw [Zdv h0 h1']
   exact hst hr'
  exact e
theorem Zjp {M:Wm} (h:WI M) {s:Int} {d:Nat} (h0:0≤s) (h1:s<M.n.length) (hd:d<6) {st:St} (hst:Zkr st) : ∀ f∈Vt M s d st,Zd1 M.w.length f:=by
 intro f hf
 have hn:=h.wn
 have hw:=h.wl
 unfold Vt at hf
 obtain ⟨i,hi,rfl⟩:=List.mem_map.1 hf
 have:=List.mem_range.1 hi
 obtain ⟨g1,g2,g3,g4,g5⟩:=hst
 unfold Zd1 Wg
 simp only
 omega
theorem Zbz (M:Wm) (s d:Int) (st:St):(Vt M s d st).length=M.w.length:=by simp [Vt]
structure TickOk (M:Wm) (q:Wm × Bool) (s:Int) (k:Nat):Prop where
 wi:WI q.1
 same:Same M q.1
 len:q.1.l.length≤M.l.length+14*k
 up:q.2=true→(Zf q.1 s).site≠none
theorem tickD_ok {M:Wm} {q:Wm × Bool} {s:Int} {k d:Nat} (h:TickOk M q s k) (h0:0≤s) (h1:s<M.n.length) (hd:d<6):TickOk M (Zce s q d) s (k+1):=by
 obtain ⟨M1,b⟩:=q
 have hl:=h.len
 have hwl:=h.wi.wl
 have hn:=h.same.n
 simp only at hl hn hwl
 unfold Zce
 split
 ·exact ⟨h.wi,h.same,by simp only;omega,h.up⟩
 split
 ·exact ⟨h.wi,h.same,by simp only;omega,fun e=>by cases e⟩
 rename_i hb _ j ref hs
 have hs':(Zf M1 s).site=some (j,ref):=hs
 have hni:=h.wi.at (s:=s) h0 (by simp only;omega)
 have hS:=(hni.jn hs').st d hd
 split
 ·exact ⟨h.wi,h.same,by simp only;omega,h.up⟩
 split
 ·refine ⟨h.wi.setL fun f hf=>?_,⟨h.same.w,h.same.n⟩,?_,fun _=>h.up (by simpa using hb)⟩
  ·rcases List.mem_append.1 hf with hf|hf
   ·exact h.wi.fr f hf
   ·exact Zjp h.wi h0 (by simp only;omega) hd hS f hf
  ·simp only [List.length_append,Zbz]
   omega
 ·obtain ⟨g1,g2,g3,g4,g5⟩:=hS
  have ht:=try_ok h.wi (s:=s) (d:=d) (p:=(Y2 j d).pr) h0 (by simp only;omega) (h.up (by simpa using hb)) (by omega) (by omega)
  have h4:(Zcq M1 s d (Y2 j d).pr).1.l.length≤M1.l.length+14:=ht.len
  have h5:(Zcq M1 s d (Y2 j d).pr).1.l.length≤M.l.length+14*(k+1):=by omega
  exact ⟨ht.wi,h.same.trans ht.same,h5,ht.up⟩
theorem Zem {M:Wm} (h:WI M) {s:Int} (h0:0≤s) (h1:s<M.n.length) (hs:(Zf M s).site≠none) : ∀ k,k≤6→TickOk M ((List.range k).foldl (Zce s) (M,true)) s k
 | 0,_=>⟨h,.refl _,by simp,fun _=>hs⟩
 | k+1,hk=>by
  rw [List.range_succ,List.foldl_append]
  exact tickD_ok (Zem h h0 h1 hs k (by omega)) h0 h1 (by omega)
structure StepOk (M M':Wm) (k:Nat):Prop where
 wi:WI M'
 same:Same M M'
 len:M'.l.length≤M.l.length+k
theorem StepOk.refl {M:Wm} (h:WI M) (k:Nat):StepOk M M k:=⟨h,.refl _,by omega⟩
theorem StepOk.mono {M M':Wm} {k k':Nat} (h:StepOk M M' k) (hk:k≤k'):StepOk M M' k':=⟨h.wi,h.same,by have:=h.len;omega⟩
theorem Zcy {M:Wm} {s:Int} (h:Zcf M s=none):0≤s∧s<M.n.length∧(Zf M s).site≠none:=by
 unfold Zcf at h
 split at h
 ·cases h
 ·rename_i hn
  obtain ⟨h0,h1⟩:=Zai hn
  split at h
  ·cases h
  ·rename_i hs
   exact ⟨h0,h1,fun e=>hs (by rw [e];rfl)⟩
theorem tick_ok {M:Wm} (h:WI M) (s:Int):StepOk M (Za3 M s).1 84:=by
 unfold Za3
 split
 ·exact .refl h _
 ·rename_i hu
  obtain ⟨h0,h1,hs⟩:=Zcy hu
  have:=Zem h h0 h1 hs 6 (by omega)
  exact ⟨this.wi,this.same,this.len⟩
theorem Zhp {M:Wm} (h:WI M) (s d:Int):StepOk M (Xp M s d).1 7:=by
 have hn:=h.wn
 have hw:=h.wl
 unfold Xp
 split
 ·exact .refl h _
 rename_i hb
 split
 ·exact .refl h _
 split
 ·exact .refl h _
 have hNI:LdI M.w s.toNat d.toNat (Zh s d M.w 0 2):=by
  have:=Zg0 (w:=M.w) (s:=s.toNat) (d:=d.toNat) (a:=0) (k:=2) (by omega) (by omega)
  rw [show ((s.toNat:Nat):Int)=s by omega,show ((d.toNat:Nat):Int)=d by omega] at this
  exact this
 have hso:=Zf7 hNI (by omega) hw (by omega)
 have hsl:=Zf6 (Zh s d M.w 0 2)
 rw [show (Zh s d M.w 0 2).w=M.w from rfl] at hsl
 have hset:=h.set (m:={ Zf M s with leads:=(Zf M s).leads.set d.toNat (some (Zh s d M.w 0 2)) }) (s:=s) (by omega) ((h.at (by omega) (by omega)).lead hNI)
 refine ⟨hset.setL fun f hf=>?_,⟨rfl,by simp [Yp]⟩,by simp;omega⟩
 rcases List.mem_append.1 hf with hf|hf
 ·exact h.fr f hf
 ·exact hso f hf
theorem Zno {M:Wm} (h:WI M) (s d:Int):StepOk M (V0 M s d).1 0:=by
 unfold V0
 split
 ·exact .refl h _
 split
 ·exact .refl h _
 rename_i hu
 obtain ⟨h0,h1,hs⟩:=Zcy hu
 have hx:=h.at h0 h1
 refine ⟨h.set h0 ?_,Zeg _ _ _,by simp [Yp]⟩
 unfold Zaz
 split
 ·exact hx
 ·rename_i j ref hj
  exact ⟨hx.leads,hx.done,hx.b512,hx.si,fun j2 r2 e=>by cases e;exact hx.up j ref hj,fun e=>(by cases e),hx.ldi⟩
theorem Zh1 {M:Wm} (h:WI M) {k:Int} (hk:Znx M k=none):Zd1 M.w.length (M.l.getD k.toNat Wp)∧0≤k∧k<M.l.length:=by
 unfold Znx at hk
 split at hk
 ·cases hk
 ·have hlt:k.toNat<M.l.length:=by omega
  have e:M.l.getD k.toNat Wp=M.l[k.toNat]:=by rw [List.getD,List.getElem?_eq_getElem hlt];rfl
  rw [e]
  exact ⟨h.fr _ (List.getElem_mem _),by omega,by omega⟩
theorem Zjq {M:Wm} (h:WI M) (k:Int):StepOk M (Wh M k).1 6:=by
 have hn:=h.wn
 have hw:=h.wl
 unfold Wh
 split
 ·exact .refl h _
 rename_i hk
 obtain ⟨⟨hbad,hto,hfr⟩,hk0,hk1⟩:=Zh1 h hk
 generalize M.l.getD k.toNat Wp=f at *
 have hE:=h.erase k.toNat
 have hel:(M.l.eraseIdx k.toNat).length=M.l.length-1:=by rw [List.length_eraseIdx,if_pos (by omega)]
 have hS1:Same M { M with l:=M.l.eraseIdx k.toNat }:=⟨rfl,rfl⟩
 have hb2:=hbad
 unfold Wg at hb2
 simp only
 split
 ·exact ⟨hE,hS1,by simp only [hel];omega⟩
 split
 ·split
  ·exact ⟨hE,hS1,by simp only [hel];omega⟩
  ·rename_i x hx
   have hni:=hE.at (s:=f.to) (by omega) (by simp only;omega)
   have h6:=hni.leads
   have hLI:=hni.ldi f.dl.toNat x (by rw [getD_some (x:=none) (by omega),hx])
   obtain ⟨k1,k2⟩:=hLI.hear (by simp only;omega) hw (by omega) hbad
   have k3:=Zat x f
   rw [hLI.ww] at k3
   have hset:=hE.set (m:={ Zf { M with l:=M.l.eraseIdx k.toNat } f.to with leads:=(Zf { M with l:=M.l.eraseIdx k.toNat } f.to).leads.set f.dl.toNat (some (Z7 x f).1) }) (s:=f.to) (by omega) (hni.lead k1)
   refine ⟨hset.setL fun g hg=>?_,⟨rfl,by simp [Yp]⟩,?_⟩
   ·rcases List.mem_append.1 hg with hg|hg
    ·exact hE.fr g hg
    ·exact k2 g hg
   ·simp only [List.length_append,hel]
    simp only at k3
    omega
 ·obtain ⟨k1,k2⟩:=hE.hear (s:=f.to) (f:=f) (by omega) (by simp only;omega) hfr
  have k3:=Zfn { M with l:=M.l.eraseIdx k.toNat } f.to f
  have k4:=Zfy { M with l:=M.l.eraseIdx k.toNat } f.to f
  refine ⟨k1.setL fun g hg=>?_,⟨k4.w,k4.n⟩,?_⟩
  ·show Zd1 (Xe { M with l:=M.l.eraseIdx k.toNat } f.to f).1.w.length g
   rw [k4.w]
   rcases List.mem_append.1 hg with hg|hg
   ·exact hE.fr g hg
   ·exact k2 g hg
  ·simp only [List.length_append,hel]
   omega
theorem drop_ok {M:Wm} (h:WI M) (k:Int):StepOk M (Zb1 M k).1 0:=by
 unfold Zb1
 split
 ·exact .refl h _
 ·exact ⟨h.erase _,⟨rfl,rfl⟩,by simp only [List.length_eraseIdx];split<;>omega⟩
theorem twice_ok {M:Wm} (h:WI M) (k:Int):StepOk M (Qk M k).1 1:=by
 unfold Qk
 split
 ·exact .refl h _
 rename_i hk
 obtain ⟨hf,hk0,hk1⟩:=Zh1 h hk
 refine ⟨h.setL fun g hg=>?_,⟨rfl,rfl⟩,?_⟩
 ·rcases List.mem_append.1 hg with hg|hg
  ·exact h.fr g (List.mem_of_mem_take hg)
  ·rcases List.mem_cons.1 hg with hg|hg
   ·rw [hg];exact hf
   ·exact h.fr g (List.mem_of_mem_drop hg)
 ·simp only [List.length_append,List.length_take,List.length_cons,List.length_drop]
  omega
theorem link_ok {M:Wm} (h:WI M) (a b:Int) (c:Bool):StepOk M (Zb8 M a b c).1 0:=by
 unfold Zb8
 split
 ·exact .refl h _
 ·exact ⟨h.setB _,⟨rfl,rfl⟩,by simp⟩
theorem cut_ok {M:Wm} (h:WI M) (s n:Int) (hn:n≤9223372036854775807):StepOk M (Zhv M s n).1 0:=by
 unfold Zhv
 split
 ·exact .refl h _
 split
 ·exact .refl h _
 rename_i hn0 _ hu
 obtain ⟨h0,h1,hs⟩:=Zcy hu
 have hx:=h.at h0 h1
 refine ⟨h.set h0 ⟨hx.leads,hx.done,hx.b512,hx.si.cut (by omega) hn,hx.up,hx.dn,hx.ldi⟩,Zeg _ _ _,by simp [Yp]⟩
theorem SI.down {m:Pl} {b:Bool} (h:SI m ⟨Zt m.b,b⟩):SI { m with off:=true } ⟨Zt m.b,true⟩:=⟨⟨h.ji.lo,h.ji.hi,h.ji.c0,h.ji.c1,rfl,rfl⟩,h.st⟩
theorem down_ok {M:Wm} (h:WI M) (s:Int):StepOk M (Zb0 M s).1 0:=by
 unfold Zb0
 split
 ·exact .refl h _
 rename_i hu
 obtain ⟨h0,h1,hs⟩:=Zcy hu
 have hx:=h.at h0 h1
 exact ⟨h.set h0 (hx.fall hx.b512 hx.si.down rfl),Zeg _ _ _,by simp [Yp]⟩
theorem NdI.boot {w:List Int} {s:Nat} {m:Nd} (h:NdI w s m) (dn:List Bool) (hd:dn.length=6):NdI w s { U4 m with done:=dn }:=
 ⟨h.leads,hd,h.b512,h.si.boot,fun j ref e=>by cases e;exact ⟨rfl,rfl⟩,fun e=>(by cases e),h.ldi⟩
theorem up_ok {M:Wm} (h:WI M) (s:Int):StepOk M (upW M s).1 0:=by
 unfold upW
 split
 ·exact .refl h _
 split
 ·exact .refl h _
 rename_i hu _
 obtain ⟨h0,h1⟩:=Zai hu
 have hx:=h.at h0 h1
 exact ⟨(h.set h0 (hx.boot _ (by rw [Zft];exact hx.done))).setE (Zin _ _ _ h.evl),⟨rfl,by simp [Yp]⟩,by simp [Yp]⟩
theorem newNd_I (w:List Int) (s:Nat):NdI w s newNd:=by
 have hS:=si_new (n:=512) (by omega) (by omega)
 refine ⟨rfl,rfl,(by show (Zx 512).length=512;unfold Zx;exact List.length_replicate),hS,fun j ref e=>by cases e;exact ⟨rfl,rfl⟩,fun e=>(by cases e),fun d x hx=>?_⟩
 simp only [newNd,noLeads,List.getElem?_replicate] at hx
 split at hx<;>cases hx
theorem new_ok {w:List Int} (h:Yo w=none):WI (Ys w):=by
 obtain ⟨c1,c2,-⟩:=Wv h
 refine ⟨h,c2,c1,by simp [Ys],fun f hf=>(by cases hf),by simp [Ys],fun s m hm=>?_⟩
 simp only [Ys,List.getElem?_replicate] at hm
 split at hm
 ·cases hm
  exact newNd_I _ _
 ·cases hm
end Go.HL
end

/-! WoV -/
section
namespace Go.HL
open Go Go.Proofs
def W3 (s:Int) (M:Wm) (k:Nat):Wm × Bool:=(List.range k).foldl (Zce s) (M,true)
theorem Zel (s:Int) (M:Wm) (k:Nat):W3 s M (k+1)=Zce s (W3 s M k) k:=by
 unfold W3
 rw [List.range_succ,List.foldl_append]
 rfl
theorem Zek {s:Int} {M:Wm} {k:Nat} (h:(W3 s M k).2=false) : ∀ j,W3 s M (k+j)=W3 s M k
 | 0=>rfl
 | j+1=>by
  rw [← Nat.add_assoc,Zel,Zek h j]
  unfold Zce
  rw [if_pos h]
theorem Zgk (M:Wm) (s d:Int) (st:St) (i:Nat):((List.range (i+1)).map fun (i:Nat)=>(⟨s,(i:Int),d,7,st.pr,false,⟨st.ph,0,0⟩⟩:Fr))=((List.range i).map fun (i:Nat)=>(⟨s,(i:Int),d,7,st.pr,false,⟨st.ph,0,0⟩⟩:Fr))++[⟨s,(i:Int),d,7,st.pr,false,⟨st.ph,0,0⟩⟩]:=by
 rw [List.range_succ,List.map_append]
 rfl
theorem ls_out {A L:Zb} {c:List Zo}:LS (A++L).flatten (c::(A++L)).flatten:=by
 rw [List.flatten_cons]
 exact LS.skips c (LS.refl _)
theorem ls_in {A L:Zb} {c:List Zo}:LS (A++(c::L)).flatten (c::(A++L)).flatten:=by
 simp only [List.flatten_cons,List.flatten_append]
 refine LS.of_perm ?_
 rw [← List.append_assoc,← List.append_assoc]
 exact List.perm_append_comm.append_right _
set_option maxHeartbeats 2000000 attribute [local irreducible] HW HO HQ HD HC QOp Has Upd Zq Gets Yj Ya Zv Wf Yg Zp Wq Z5
attribute [local irreducible] Xt Zw Yf Zy Yt Zt Zcq
theorem Zje (T:Nat) (E:Nat→Addr) (G:WdG) (M:Wm) (s:Int) (L:Zb) (hG:Er T E [2,3,4,5,6] L) (hW:WdOk G M) (hM:WI M) (hl:M.l.length≤99999000) :
  HC Tryz.prog 83 [pt G.wp 0,iv s] (Z9 G M++L) (fun v L'=>v=eV T E (Za3 M s).2∧Zao G (Za3 M s).1 L L'):=by
 unfold Za3
 have hself:=Xo hW L
 rcases Zeo (M:=M) (s:=s) with ⟨e,he⟩|⟨he,hn,h0,h1,j,ref,hs⟩
 ·have ku:=Zdl s hG.sub hW
  have hG':=Xj hG G M
  generalize Z9 G M++L=H at *
  simp only [he] at ku ⊢
  refine Za (fun _ _=>Tryz.call83 _ _) Tryz.func83 rfl Tryz.ntmps83 (Nat.le_of_ble_eq_true rfl) ?_;simp only [Zd,Nat.reduceAdd]
  repeat' (first|refine uN ?_|refine Z8 S ?_|refine Yq S ?_|refine uC (ku) ?_|refine Yy (fun _=>ku) ?_|refine Yz (fun _=>ku) ?_|refine Y0 (fun _=>ku) ?_|refine Y1 (fun _=>ku) ?_|(refine uB ?_;intro b)|(refine uP ?_ ?_<;>(intro h;((try simp only [zs,zq,reduceCtorEq] at h);try exact zx)))|refine da 101 ?_|fail)
  exact U3 rfl ⟨rfl,hself⟩
 ·have ku:=Zdl s hG.sub hW
  simp only [he,Zkt hn] at ku ⊢
  have hticks:=fun k hk=>Zem hM h0 h1 (by rw [hs];simp) k hk
  change ∀ k,k≤6→TickOk M (W3 s M k) s k at hticks
  change HC _ _ _ _ (fun v L'=>v=eV T E none∧Zao G (W3 s M 6).1 L L')
  refine Za (fun _ _=>Tryz.call83 _ _) Tryz.func83 rfl Tryz.ntmps83 (Nat.le_of_ble_eq_true rfl) ?_;simp only [Zd,Nat.reduceAdd]
  repeat' (first|refine uN ?_|refine Z8 S ?_|refine Yq S ?_|refine uC (ku) ?_|refine Yy (fun _=>ku) ?_|refine Yz (fun _=>ku) ?_|refine Y0 (fun _=>ku) ?_|refine Y1 (fun _=>ku) ?_|(refine uB ?_;intro b)|(refine uP ?_ ?_<;>(intro h;((try simp only [zs,zq,reduceCtorEq] at h);try exact zx)))|refine da 101 ?_|fail)
  refine Z2 (σ:=Nat × WdG) (fun r=>[(0,pt G.wp 0),(1,iv s),(5,pt (Zg G s).np 0),(20,iv r.1)]) (fun r=>Z9 r.2 (W3 s M r.1).1++L)
   (fun r=>r.1≤6∧(W3 s M r.1).2=true∧WdOk r.2 (W3 s M r.1).1∧r.2.wp=G.wp∧r.2.nd.map (·.np)=G.nd.map (·.np)) (fun r=>6-r.1) (0,G) uS (List.Sublist.refl _) ⟨by simp,rfl,hW,rfl,rfl⟩ ?_
  rintro ⟨d,G1⟩ ⟨hd,hon,hW1,e1,e2⟩
  simp only at hd hon hW1 e1 e2 ⊢
  obtain ⟨hM1,hsame,hlen,hsite⟩:=hticks d hd
  have hsite1:=hsite hon
  have hnx:=Zel s M d
  by_cases hd6:d<6
  ·have hnx2:=hticks (d+1) (by omega)
   have hstop:=fun h=>Zek (s:=s) (M:=M) (k:=d+1) h (5-d)
   rw [show d+1+(5-d)=6 by omega] at hstop
   generalize W3 s M d=q at *
   obtain ⟨M1,b⟩:=q
   simp only at hon hW1 hM1 hsame hlen hsite1 ⊢
   subst hon
   have h1':s<M1.n.length:=by rw [hsame.n];exact h1
   have hnp2:=Zlr e2 h0 (by rw [hW.ndl];exact h1)
   have hok:=X6 hW1 h0 h1'
   have hni:=Uz hM1 h0 h1'
   obtain ⟨⟨j1,ref1⟩,hs1⟩:=Option.ne_none_iff_exists'.1 hsite1
   have hj:=hni.jn hs1
   have hst:=hj.st d hd6
   have hB : ∀ {b:Nat} {o:Obj},(b,o)∈Ze0 (Zg G1 s) s (Zf M1 s)→Has (Z9 G1 M1++L) b o:=fun {b o} hb=>by
    have:=Zes hW1.ndl h0 h1' hb L
    unfold Has Z9 at *
    rw [List.append_assoc,List.flatten_append]
    exact List.mem_append_right _ this
   have hN:Has (Z9 G1 M1++L) (Zg G1 s).np (Uw (Zg G1 s) (Zf M1 s)):=Za6 hW1.ndl h0 h1' L
   have hA1:Has (Z9 G1 M1++L) (Zg G1 s).sp (.cells ⟨[pt (Zg G1 s).bj 0,iv s,.map (some (Zg G1 s).mb)]⟩ 187):=hB (by simp [Ze0,hs1,siB,Zcp])
   have hA2:Has (Z9 G1 M1++L) (Zg G1 s).bj (.cells ⟨Zw (Zg G1 s).bp j1⟩ 261):=hB (by simp [Ze0,hs1,siB,jC])
   have kst:=Zaa (Zg G1 s).sp (Zg G1 s).bj (Zg G1 s).mb (Zg G1 s).bp s j1 d _ hA1 hA2 hj.ji.jn.len hd6
   have htd:W3 s M (d+1)=if Y2 j1 d=Wu then (M1,true) else if (Y2 j1 d).ph=2∨(Y2 j1 d).ph=3 then ({ M1 with l:=M1.l++Vt M1 s d (Y2 j1 d) },true) else Zcq M1 s d (Y2 j1 d).pr:=by
    rw [hnx]
    unfold Zce
    simp only [hs1,Bool.true_eq_false,if_false]
   have g0:(Xt (pt (Zg G1 s).sp 0) (Zg G1 s).bp (Yd (Zg G1 s) (Zf M1 s)) (Zf M1 s).done)[0+0]? = some (pt (Zg G1 s).sp 0):=Xg rfl
   unfold Uw at hN
   rw [hs1] at hN
   simp only [Zcc,hnp2] at hN
   change HC _ _ _ _ (fun v L'=>v = .tuple ⟨[.agg ⟨sc (Y2 j1 d)⟩,.nilIface]⟩∧_) at kst
   have hdl:=Zbz M1 s d (Y2 j1 d)
   have hdF:Vt M1 s d (Y2 j1 d)=(List.range M1.w.length).map fun (i:Nat)=>(⟨s,(i:Int),d,7,(Y2 j1 d).pr,false,⟨(Y2 j1 d).ph,0,0⟩⟩:Fr):=rfl
   have hsuccF:=fun i=>Zgk M1 s d (Y2 j1 d) i
   generalize Y2 j1 d=st at *
   obtain ⟨ph,pr,att⟩:=st
   obtain ⟨q1,q2,q3,q4,q5⟩:=hst
   simp only at q1 q2 q3 q4 q5 hdF hsuccF
   have hwn:=hM1.wn
   have hwl:=hM1.wl
   by_cases hz:ph=0∧pr=0∧att=0
   ·obtain ⟨rfl,rfl,rfl⟩:=hz
    rw [if_pos (show (⟨0,0,0⟩:St)=Wu from rfl)] at htd
    clear hA1 hA2 hB
    generalize hH:Z9 G1 M1++L=H at *
    repeat' (first|refine uN ?_|refine Z8 S ?_|refine Yq S ?_|refine uC (kst) ?_|refine Yy (fun _=>kst) ?_|refine Yz (fun _=>kst) ?_|refine Y0 (fun _=>kst) ?_|refine Y1 (fun _=>kst) ?_|(refine uB ?_;intro b)|(refine uP ?_ ?_<;>(intro h;((try simp only [zs,zq,reduceCtorEq] at h);try exact zx)))|refine da 101 ?_|fail)
    all_goals subst hH
    all_goals refine Y3 (d+1,G1) uS ?_ ⟨by simp only;omega,by simp only [htd],by simp only [htd];exact hW1,e1,e2⟩ (by simp only;omega)
    all_goals simp only [htd]
    all_goals exact ls_out
   have hz2 : ¬ ((⟨ph,pr,att⟩:St)=Wu):=fun e=>by cases e;exact hz ⟨rfl,rfl,rfl⟩
   rw [if_neg hz2] at htd
   by_cases hf:ph=2∨ph=3
   ·rw [if_pos hf] at htd
    obtain ⟨aw2,capw2,hwv2,-,-⟩:=hW1.w.rd Yh
    obtain ⟨al2,capl2,hlv2,-,-⟩:=hW1.l.rd Zl
    have hvl:=hW1.l
    rw [hlv2] at hvl
    have hwp:=(Uy hW1 L).wp
    unfold V1 at hwp
    rw [hwv2,hlv2] at hwp
    rw [e1] at hwp
    clear hA1 hA2 hB
    generalize hH:Z9 G1 M1++L=H at *
    repeat' (first|refine uN ?_|refine Z8 S ?_|refine Yq S ?_|refine uC (kst) ?_|refine Yy (fun _=>kst) ?_|refine Yz (fun _=>kst) ?_|refine Y0 (fun _=>kst) ?_|refine Y1 (fun _=>kst) ?_|(refine uB ?_;intro b)|(refine uP ?_ ?_<;>(intro h;((try simp only [zs,zq,reduceCtorEq] at h);try exact zx)))|refine da 101 ?_|fail)
    all_goals subst hH
    all_goals refine Zdh (L':=[(b,.cells ⟨sc ⟨ph,pr,att⟩⟩ 43)]::G1.lc::[(G.wp,.cells ⟨[.slice aw2 M1.w.length capw2,G1.nv,.map (some G1.mb),.slice al2 M1.l.length capl2,G1.ev]⟩ 110)]::G1.wc::G1.nc::[(G1.mb,.map ⟨G1.es⟩ G1.ck)]::G1.ec::Wx G1.nd M1.n 0::L) ?_ (by simp only [Z9,Zan,V1,List.cons_append,List.nil_append,hwv2,hlv2,e1];exact uL)
    all_goals refine Z2 (σ:=Nat × Value × List Zo) (fun r=>[(0,pt G.wp 0),(1,iv s),(5,pt (Zg G s).np 0),(7,iv d),(8,pt b 0),(20,iv d),(49,iv M1.w.length),(50,iv r.1)]) (fun r=>[(b,.cells ⟨sc ⟨ph,pr,att⟩⟩ 43)]::r.2.2::[(G.wp,.cells ⟨[.slice aw2 M1.w.length capw2,G1.nv,.map (some G1.mb),r.2.1,G1.ev]⟩ 110)]::G1.wc::G1.nc::[(G1.mb,.map ⟨G1.es⟩ G1.ck)]::G1.ec::Wx G1.nd M1.n 0::L) (fun r=>r.1≤M1.w.length∧Y9 r.2.1 (M1.l++(List.range r.1).map fun (i:Nat)=>(⟨s,(i:Int),d,7,pr,false,⟨ph,0,0⟩⟩:Fr)) r.2.2) (fun r=>M1.w.length-r.1) (0,.slice al2 M1.l.length capl2,G1.lc) uS (List.Sublist.refl _) ⟨by simp,by simpa using hvl⟩ ?_
    all_goals rintro ⟨i,lv3,lc3⟩ ⟨hi,hv3⟩
    all_goals simp only at hi hv3 ⊢
    all_goals obtain ⟨al3,capl3,hlv3,-,-⟩:=hv3.rd Zl
    all_goals subst hlv3
    all_goals
     by_cases hit:i<M1.w.length
     ·repeat' (first|refine uN ?_|refine Z8 S ?_|refine Yq S ?_|(refine uB ?_;intro b)|(refine uP ?_ ?_<;>(intro h;((try simp only [zs,zq,reduceCtorEq] at h);try exact zx)))|refine da 101 ?_|fail)
      refine fo 2 ?_
      refine wp1 S (⟨s,(i:Int),d,7,pr,false,⟨ph,0,0⟩⟩:Fr) hv3 Zl Vj ?_ (hby:=by simp only [List.length_append,List.length_map,List.length_range];omega) (hmax:=by simp only [List.length_append,List.length_map,List.length_range];omega)
      intro v' c' hv'
      obtain ⟨a6,cap6,he6,-,-⟩:=hv'.rd Zl
      subst he6
      rw [List.append_assoc,← hsuccF i] at hv'
      repeat' (first|refine uN ?_|refine Z8 S ?_|refine Yq S ?_|(refine uB ?_;intro b)|(refine uP ?_ ?_<;>(intro h;((try simp only [zs,zq,reduceCtorEq] at h);try exact zx)))|refine da 101 ?_|fail)
      refine Y3 (i+1,_,c') uS ?_ ⟨by simp only;omega,hv'⟩ (by simp only;omega)
      rw [List.append_assoc,← hsuccF i]
      exact uL
     ·obtain rfl:i=M1.w.length:=by omega
      rw [← hdF] at hv3
      repeat' (first|refine uN ?_|refine Z8 S ?_|refine Yq S ?_|(refine uB ?_;intro b)|(refine uP ?_ ?_<;>(intro h;((try simp only [zs,zq,reduceCtorEq] at h);try exact zx)))|refine da 101 ?_|fail)
      refine Y3 (d+1,{ G1 with lv := .slice al3 (M1.l++Vt M1 s d ⟨ph,pr,att⟩).length capl3,lc:=lc3 }) uS ?_ ⟨by simp only;omega,by simp only [htd],by simp only [htd];exact hW1.setL hv3,e1,e2⟩ (by simp only;omega)
      simp only [htd,Z9,Zan,V1,List.cons_append,List.nil_append,hwv2,e1,hdF]
      exact uL
   ·rw [if_neg hf] at htd
    have hk:=fun L hG=>Zk0 T E G1 M1 s d pr L hG hW1 hM1 (by omega) h0 h1' hsite1 (by omega) (by omega)
    rw [← htd] at hk
    simp only [e1] at hk
    have ho:(W3 s M (d+1)).2=true∨(W3 s M (d+1)).2=false:=by cases (W3 s M (d+1)).2<;>simp
    clear hA1 hA2 hB
    generalize hH:Z9 G1 M1++L=H at *
    rcases ho with ho|ho
    ·rw [ho] at hk
     repeat' (first|refine uN ?_|refine Z8 S ?_|refine Yq S ?_|refine uC (kst) ?_|refine Yy (fun _=>kst) ?_|refine Yz (fun _=>kst) ?_|refine Y0 (fun _=>kst) ?_|refine Y1 (fun _=>kst) ?_|(refine uB ?_;intro b)|(refine uP ?_ ?_<;>(intro h;((try simp only [zs,zq,reduceCtorEq] at h);try exact zx)))|refine da 101 ?_|fail)
     all_goals subst hH
     all_goals refine Zdg (L':=Z9 G1 M1++([(b,.cells ⟨sc ⟨ph,pr,att⟩⟩ 43)]::L)) ?_ ls_in
     all_goals refine gc (hk _ (hG.cons _)) ?_
     all_goals rintro v L' ⟨rfl,G3,f1,f2,f3,rfl⟩
     all_goals repeat' (first|refine uN ?_|refine Z8 S ?_|refine Yq S ?_|refine uC (kst) ?_|refine Yy (fun _=>kst) ?_|refine Yz (fun _=>kst) ?_|refine Y0 (fun _=>kst) ?_|refine Y1 (fun _=>kst) ?_|(refine uB ?_;intro b)|(refine uP ?_ ?_<;>(intro h;((try simp only [zs,zq,reduceCtorEq] at h);try exact zx)))|refine da 101 ?_|fail)
     all_goals refine Y3 (d+1,G3) uS ?_ ⟨by simp only;omega,ho,f3,f1.trans e1,f2.trans e2⟩ (by simp only;omega)
     all_goals simp only [List.flatten_append,List.flatten_cons]
     all_goals exact LS.boths _ (LS.skips _ (LS.refl _))
    ·rw [ho] at hk
     rw [hstop ho]
     repeat' (first|refine uN ?_|refine Z8 S ?_|refine Yq S ?_|refine uC (kst) ?_|refine Yy (fun _=>kst) ?_|refine Yz (fun _=>kst) ?_|refine Y0 (fun _=>kst) ?_|refine Y1 (fun _=>kst) ?_|(refine uB ?_;intro b)|(refine uP ?_ ?_<;>(intro h;((try simp only [zs,zq,reduceCtorEq] at h);try exact zx)))|refine da 101 ?_|fail)
     all_goals subst hH
     all_goals refine Zdg (L':=Z9 G1 M1++([(b,.cells ⟨sc ⟨ph,pr,att⟩⟩ 43)]::L)) ?_ ls_in
     all_goals refine gc (hk _ (hG.cons _)) ?_
     all_goals rintro v L' ⟨rfl,G3,f1,f2,f3,rfl⟩
     all_goals repeat' (first|refine uN ?_|refine Z8 S ?_|refine Yq S ?_|refine uC (kst) ?_|refine Yy (fun _=>kst) ?_|refine Yz (fun _=>kst) ?_|refine Y0 (fun _=>kst) ?_|refine Y1 (fun _=>kst) ?_|(refine uB ?_;intro b)|(refine uP ?_ ?_<;>(intro h;((try simp only [zs,zq,reduceCtorEq] at h);try exact zx)))|refine da 101 ?_|fail)
     all_goals refine Xb (L':=Z9 G3 (W3 s M (d+1)).1++L) ?_ ⟨rfl,G3,f1.trans e1,f2.trans e2,f3,rfl⟩
     all_goals simp only [List.flatten_append,List.flatten_cons]
     all_goals exact LS.boths _ (LS.skips _ (LS.refl _))
  ·obtain rfl:d=6:=by omega
   repeat' (first|refine uN ?_|refine Z8 S ?_|refine Yq S ?_|(refine uB ?_;intro b)|(refine uP ?_ ?_<;>(intro h;((try simp only [zs,zq,reduceCtorEq] at h);try exact zx)))|refine da 101 ?_|fail)
   exact U3 rfl ⟨rfl,G1,e1,e2,hW1,rfl⟩
end Go.HL
end

/-! WoW -/
section
namespace Go.HL
open Go Go.Proofs
def Zgz (np bp ba sp bj mb:Nat):NdG:=⟨np,bp,ba,sp,bj,mb,[],0,List.replicate 6 (0,.pointer none,[])⟩
theorem Zil : ∀ {gs:List NdG} {ms:List Nd} {i:Nat} {g:NdG} {m:Nd},gs.length=ms.length→Wx (gs++[g]) (ms++[m]) i=Wx gs ms i++Ze0 g ((i+gs.length:Nat):Int) m
 | [],[],i,g,m,_=>by simp [Wx]
 | [],_::_,_,_,_,h=>by simp at h
 | _::_,[],_,_,_,h=>by simp at h
 | g0::gs,m0::ms,i,g,m,h=>by
  have ih:=Zil (gs:=gs) (ms:=ms) (i:=i+1) (g:=g) (m:=m) (by simpa using h)
  simp only [List.cons_append,Wx,ih,List.append_assoc,List.length_cons]
  rw [show i+1+gs.length=i+(gs.length+1) by omega]
theorem newNd_ok (np bp ba sp bj mb:Nat):NdOk (Zgz np bp ba sp bj mb) newNd:=by
 refine ⟨rfl,fun d x hx=>?_,fun j ref e=>by cases e;exact Zdu⟩
 simp only [newNd,noLeads,List.getElem?_replicate] at hx
 split at hx<;>cases hx
theorem Zna (np bp ba sp bj mb:Nat):Un (Zgz np bp ba sp bj mb) newNd=[]:=rfl
theorem Znb (np bp ba sp bj mb:Nat):Xt (Zcc (Zgz np bp ba sp bj mb) newNd.site) bp (Yd (Zgz np bp ba sp bj mb) newNd) newNd.done=[pt sp 0,pt bp 0,.pointer none,.pointer none,.pointer none,.pointer none,.pointer none,.pointer none,.bool false,.bool false,.bool false,.bool false,.bool false,.bool false]:=rfl
theorem nds_new {gs:List NdG} {i:Nat} (np bp ba sp bj mb:Nat) (h:gs.length=i):Wx (gs++[Zgz np bp ba sp bj mb]) (List.replicate (i+1) newNd) 0=Wx gs (List.replicate i newNd) 0++(U0 (Zgz np bp ba sp bj mb) newNd++(Yf bp ba ⟨Zx 512,false,-1⟩++(Zcp sp bj mb i++(Zcv mb [] 0++jC bj bp ⟨Zt (Zx 512),false⟩)))):=by
 rw [List.replicate_succ',Zil (show gs.length=(List.replicate i newNd).length by rw [List.length_replicate,h]),h]
 unfold Ze0
 rw [Zna,List.append_nil,Nat.zero_add]
 have:siB (Zgz np bp ba sp bj mb) i newNd.site=Zcp sp bj mb i++Zcv mb [] 0++jC bj bp ⟨Zt (Zx 512),false⟩:=rfl
 rw [this]
 simp only [List.append_assoc]
 rfl
set_option maxHeartbeats 2000000 attribute [local irreducible] HW HO HQ HD HC QOp Has Upd Zq Gets Yj Ya Zv Wf Yg Zp Wq Z5
attribute [local irreducible] Yf Zt Zx
theorem Zeu (T:Nat) (E:Nat→Addr) (v:Value) (w:List Int) (c:List Zo) (L:Zb) (hG:Er T E [2,3,4,6] L) (hv:Vec 3 1 ic v w c) (hl:w.length≤1000000) :
  HC Tryz.prog 17 [v] (c::L) (fun u L'=>match Yo w with
   | some e=>u = .tuple ⟨[.pointer none,eV T E (some e)]⟩∧L'=c::L
   | none => ∃ G,u = .tuple ⟨[pt G.wp 0,.nilIface]⟩∧WdOk G (Ys w)∧L'=Z9 G (Ys w)++(c::L)):=by
 obtain ⟨aw,capw,rfl,-,hR⟩:=hv.rd Yh
 have kc:=U5 T E aw capw w (c::L) (hG.sub.cons c) (hR L) hl
 have kcl:=fun L=>Zjm _ w c L hv (by omega)
 cases hc:Yo w with
 | some e =>
  rw [hc] at kc
  refine Za (fun _ _=>Tryz.call17 _ _) Tryz.func17 rfl Tryz.ntmps17 (Nat.le_of_ble_eq_true rfl) ?_;simp only [Zd,Nat.reduceAdd]
  repeat' (first|refine uN ?_|refine uC (kc) ?_|(refine uB ?_;intro b)|(refine uP ?_ ?_<;>(intro h;((try simp only [zs,zq,reduceCtorEq] at h);try exact zx)))|fail)
  exact Zjh rfl ⟨rfl,rfl⟩
 | none =>
  rw [hc] at kc
  obtain ⟨c1,c2,-⟩:=Wv hc
  have kp:=fun L hG=>Zfs T E 512 L hG
  rw [show Zim 512=some ⟨Zx 512,false,-1⟩ from rfl] at kp
  have hz:=Zn1 512
  have ks:=fun (i:Nat) (hi:i<7) bp ba L hG=>Zeh T E (i:Int) bp ba ⟨Zx 512,false,-1⟩ L hG (by simp only;omega)
  have hse : ∀ i:Nat,i<7→Zf3 (i:Int) ⟨Zx 512,false,-1⟩=none:=fun i hi=>by
   unfold Zf3
   rw [if_neg (by omega)]
   simp only
   rw [if_neg (by omega)]
   simp
  refine Za (fun _ _=>Tryz.call17 _ _) Tryz.func17 rfl Tryz.ntmps17 (Nat.le_of_ble_eq_true rfl) ?_;simp only [Zd,Nat.reduceAdd]
  repeat' (first|refine uN ?_|refine uC (kc) ?_|(refine uB ?_;intro b)|(refine uP ?_ ?_<;>(intro h;((try simp only [zs,zq,reduceCtorEq] at h);try exact zx)))|fail)
  refine gc (kcl _) ?_
  rintro u L' ⟨cw,hvw,rfl⟩
  obtain ⟨aw2,capw2,rfl,-,-⟩:=hvw.rd Yh
  repeat' (first|refine uN ?_|refine uC (kc) ?_|(refine uB ?_;intro b)|(refine uP ?_ ?_<;>(intro h;((try simp only [zs,zq,reduceCtorEq] at h);try exact zx)))|fail)
  rename_i mb
  obtain ⟨wp,rfl⟩ : ∃ wp,wp=b:=⟨b,rfl⟩
  refine Zdh (L':=[(wp,.cells ⟨[.slice aw2 w.length capw2,Vr,.map (some mb),Vr,Vr]⟩ 110)]::[]::[(mb,.map ⟨[]⟩ 0)]::cw::[]::c::L) ?_ uL
  refine Z2 (σ:=Nat × Value × List Zo × List NdG) (fun r=>[(5,pt wp 0),(20,.slice aw w.length capw),(21,iv w.length),(22,iv r.1)])
   (fun r=>[(wp,.cells ⟨[.slice aw2 w.length capw2,r.2.1,.map (some mb),Vr,Vr]⟩ 110)]::r.2.2.1::[(mb,.map ⟨[]⟩ 0)]::cw::Wx r.2.2.2 (List.replicate r.1 newNd) 0::c::L)
   (fun r=>r.1≤w.length∧r.2.2.2.length=r.1∧Vec 117 1 pc r.2.1 (r.2.2.2.map (·.np)) r.2.2.1 ∧ ∀ (k:Nat) (g:NdG),r.2.2.2[k]? = some g→NdOk g newNd) (fun r=>w.length-r.1) (0,Vr,[],[]) uS (List.Sublist.refl _) ⟨by simp,rfl,Yk,fun k g h=>by simp at h⟩ ?_
  rintro ⟨i,nv,nc,gs⟩ ⟨hi,hgl,hnv,hgk⟩
  simp only at hi hgl hnv hgk ⊢
  obtain ⟨an,capn,he,-,-⟩:=hnv.rd Zd5
  subst he
  have hml:(gs.map (·.np)).length=i:=by simp [hgl]
  by_cases hit:i<w.length
  ·have ks2:=ks i (by omega)
   rw [hse i (by omega)] at ks2
   repeat' (first|refine uN ?_|refine uC (kc) ?_|(refine uB ?_;intro b)|(refine uP ?_ ?_<;>(intro h;((try simp only [zs,zq,reduceCtorEq] at h);try exact zx)))|fail)
   refine gc (kp _ (by repeat (first|exact hG|exact hG.sub|apply Errs.cons))) ?_
   rintro v L' ⟨bp,ba,rfl,rfl⟩
   repeat' (first|refine uN ?_|refine uC (kc) ?_|(refine uB ?_;intro b)|(refine uP ?_ ?_<;>(intro h;((try simp only [zs,zq,reduceCtorEq] at h);try exact zx)))|fail)
   refine gc (ks2 bp ba _ (by repeat (first|exact hG|exact hG.sub|apply Errs.cons))) ?_
   rintro v L' ⟨sp,bj,mb2,rfl,rfl⟩
   repeat' (first|refine uN ?_|refine uC (kc) ?_|(refine uB ?_;intro b)|(refine uP ?_ ?_<;>(intro h;((try simp only [zs,zq,reduceCtorEq] at h);try exact zx)))|fail)
   rename_i np
   refine fo 7 ?_
   refine wp1 S np hnv Zd5 pc_one ?_ (hby:=by rw [hml];omega) (hmax:=by rw [hml];omega)
   intro v' c' hv'
   obtain ⟨an2,capn2,he2,-,-⟩:=hv'.rd Zd5
   subst he2
   have hnew:=newNd_ok np bp ba sp bj mb2
   repeat' (first|refine uN ?_|refine uC (kc) ?_|(refine uB ?_;intro b)|(refine uP ?_ ?_<;>(intro h;((try simp only [zs,zq,reduceCtorEq] at h);try exact zx)))|fail)
   refine Y3 (i+1,.slice an2 (gs.map (·.np)++[np]).length capn2,c',gs++[Zgz np bp ba sp bj mb2]) uS ?_ ⟨by simp only;omega,by simp [hgl],by rw [List.map_append];exact hv',fun k g hk=>?_⟩ (by simp only;omega)
   ·simp only [nds_new np bp ba sp bj mb2 hgl]
    refine LS.trans (b:=([(wp,.cells ⟨[.slice aw2 w.length capw2,.slice an2 (gs.map (·.np)++[np]).length capn2,.map (some mb),Vr,Vr]⟩ 110)]::c'::[(mb,.map ⟨[]⟩ 0)]::cw::Wx gs (List.replicate i newNd) 0::U0 (Zgz np bp ba sp bj mb2) newNd::Yf bp ba ⟨Zx 512,false,-1⟩::Zcp sp bj mb2 i::Zcv mb2 [] 0::jC bj bp ⟨Zt (Zx 512),false⟩::c::L).flatten) (LS.of_eq ?_) ?_
    ·simp only [List.flatten_cons,List.append_assoc]
    ·simp only [U0,Uw,Znb]
     exact uL
   ·rw [List.getElem?_append] at hk
    split at hk
    ·exact hgk k g hk
    ·rename_i hk2
     have:k-gs.length=0:=by
      by_cases e:k-gs.length=0
      ·exact e
      ·simp [e] at hk
     rw [this] at hk
     cases hk
     exact hnew
  ·obtain rfl:i=w.length:=by omega
   repeat' (first|refine uN ?_|refine uC (kc) ?_|(refine uB ?_;intro b)|(refine uP ?_ ?_<;>(intro h;((try simp only [zs,zq,reduceCtorEq] at h);try exact zx)))|fail)
   refine Q9 (L':=Z9 ⟨wp,.slice aw2 w.length capw2,cw,.slice an (gs.map (·.np)).length capn,nc,mb,[],0,Vr,[],Vr,[],gs⟩ (Ys w)++(c::L)) ?_ ⟨⟨wp,.slice aw2 w.length capw2,cw,.slice an (gs.map (·.np)).length capn,nc,mb,[],0,Vr,[],Vr,[],gs⟩,rfl,⟨hvw,hnv,by simp [Ys,hgl],Zdu,Yk,Yk,fun s g m h1 h2=>?_⟩,rfl⟩
   ·simp only [Z9,Zan,V1,List.cons_append,List.nil_append,Ys]
    exact uL
   ·simp only [Ys,List.getElem?_replicate] at h2
    split at h2
    ·cases h2
     exact hgk s g h1
    ·cases h2
end Go.HL
end

/-! PwA -/
section
namespace Go.HL
open Go Go.Proofs
def Zbk (M:Wm) (v:Int):Wm × Option Nat:=
 if v % 16<9∧M.l.length=0 then (M,some 4) else
 if v % 16=7 then Zb1 M (v / 16 % M.l.length) else
 if v % 16=8 then Qk M (v / 16 % M.l.length) else
 if v % 16=9 then Xp M (v / 16 % 7) (v / 16 / 7 % 6) else
 if v % 16=10 then Za3 M (v / 16 % 7) else
 if v % 16=11 then V0 M (v / 16 % 7) (v / 16 / 7 % 6) else
 if v % 16=12 then Zb8 M (v / 16 % 7) (v / 16 / 7 % 6) (decide (v / 16 % 2=0)) else
 if v % 16=13 then Zhv M (v / 16 % 7) (v / 16 % 40) else
 if v % 16=14 then Zb0 M (v / 16 % 7) else
 if v % 16=15 then upW M (v / 16 % 7) else
 Wh M (v / 16 % M.l.length)
theorem one_ok {M:Wm} (h:WI M) (v:Int):StepOk M (Zbk M v).1 84:=by
 unfold Zbk
 split
 ·exact .refl h _
 split
 ·exact (drop_ok h _).mono (by omega)
 split
 ·exact (twice_ok h _).mono (by omega)
 split
 ·exact (Zhp h _ _).mono (by omega)
 split
 ·exact (tick_ok h _).mono (by omega)
 split
 ·exact (Zno h _ _).mono (by omega)
 split
 ·exact (link_ok h _ _ _).mono (by omega)
 split
 ·exact (cut_ok h _ _ (by omega)).mono (by omega)
 split
 ·exact (down_ok h _).mono (by omega)
 split
 ·exact (up_ok h _).mono (by omega)
 ·exact (Zjq h _).mono (by omega)
def okW (e:Option Nat):Prop:=e=none∨e=some 2∨e=some 4∨e=some 6∨e=some 8
theorem Zlq (M:Wm) (s:Int):okW (Xu M s):=by unfold Xu okW;split<;>simp
theorem Zi5 (M:Wm) (s:Int):okW (Zcf M s):=by
 unfold Zcf
 have:=Zlq M s
 split
 ·rename_i e he
  rw [he] at this
  exact this
 ·unfold okW;split<;>simp
theorem wat_w (M:Wm) (k:Int):okW (Znx M k):=by unfold Znx okW;split<;>simp
theorem begin_w (M:Wm) (s d:Int):okW (Xp M s d).2:=by
 unfold Xp
 split
 ·unfold okW;simp
 have:=Zi5 M s
 split
 ·rename_i e he
  rw [he] at this
  exact this
 split<;>(unfold okW;simp)
theorem refuse_w (M:Wm) (s d:Int):okW (V0 M s d).2:=by
 unfold V0
 split
 ·unfold okW;simp
 have:=Zi5 M s
 split
 ·rename_i e he
  rw [he] at this
  exact this
 ·unfold okW;simp
theorem tick_w (M:Wm) (s:Int):okW (Za3 M s).2:=by
 unfold Za3
 have:=Zi5 M s
 split
 ·rename_i e he
  rw [he] at this
  exact this
 ·unfold okW;simp
theorem Zmp (M:Wm) (k:Int):okW (Wh M k).2:=by
 unfold Wh
 have:=wat_w M k
 split
 ·rename_i e he
  rw [he] at this
  exact this
 ·simp only
  split
  ·unfold okW;simp
  split
  ·split<;>(unfold okW;simp)
  ·unfold okW;simp
theorem drop_w (M:Wm) (k:Int):okW (Zb1 M k).2:=by
 unfold Zb1
 have:=wat_w M k
 split
 ·rename_i e he
  rw [he] at this
  exact this
 ·unfold okW;simp
theorem twice_w (M:Wm) (k:Int):okW (Qk M k).2:=by
 unfold Qk
 have:=wat_w M k
 split
 ·rename_i e he
  rw [he] at this
  exact this
 ·unfold okW;simp
theorem link_w (M:Wm) (a b:Int) (c:Bool):okW (Zb8 M a b c).2:=by unfold Zb8;split<;>(unfold okW;simp)
theorem cut_w (M:Wm) (s n:Int):okW (Zhv M s n).2:=by
 unfold Zhv
 split
 ·unfold okW;simp
 have:=Zi5 M s
 split
 ·rename_i e he
  rw [he] at this
  exact this
 ·unfold okW;simp
theorem down_w (M:Wm) (s:Int):okW (Zb0 M s).2:=by
 unfold Zb0
 have:=Zi5 M s
 split
 ·rename_i e he
  rw [he] at this
  exact this
 ·unfold okW;simp
theorem up_w (M:Wm) (s:Int):okW (upW M s).2:=by
 unfold upW
 have:=Zlq M s
 split
 ·rename_i e he
  rw [he] at this
  exact this
 ·split<;>(unfold okW;simp)
theorem one_w (M:Wm) (v:Int):okW (Zbk M v).2:=by
 unfold Zbk
 split
 ·unfold okW;simp
 split
 ·exact drop_w _ _
 split
 ·exact twice_w _ _
 split
 ·exact begin_w _ _ _
 split
 ·exact tick_w _ _
 split
 ·exact refuse_w _ _ _
 split
 ·exact link_w _ _ _ _
 split
 ·exact cut_w _ _ _
 split
 ·exact down_w _ _
 split
 ·exact up_w _ _
 ·exact Zmp _ _
theorem okW.ok {e:Option Nat} (h:okW e):okE e:=by
 rcases h with h|h|h|h|h<;>(rw [h];first|exact .inl rfl|(refine .inr ⟨_,rfl,?_⟩;decide)|trivial|decide)
set_option maxHeartbeats 2000000 attribute [local irreducible] HW HO HQ HD HC QOp Has Upd Zq Gets Yj Ya Zv Wf Yg Zp Wq Z5
attribute [local irreducible] Xt Zw Yf Zy Yt Zt Zcq Za3 Xp Wh upW
theorem Znf (T:Nat) (E:Nat→Addr) (G:WdG) (M:Wm) (v:Int) (L:Zb) (hG:Er T E [2,3,4,5,6,8] L) (hW:WdOk G M) (hM:WI M) (hl:M.l.length≤99999000) (hv:0≤v) (hv2:v≤9223372036854775807) :
  HC Tryz.prog 104 [pt G.wp 0,iv v] (Z9 G M++L) (fun u L'=>u=eV T E (Zbk M v).2∧Zao G (Zbk M v).1 L L'):=by
 have hself:=Xo hW L
 have hI:=Uy hW L
 have hG':=Xj hG G M
 have kf:=Zkx G M _ hI
 have k7:=fun k=>Zi9 T E G M k L hG.sub hW (by omega)
 have k8:=fun k=>Zhn T E G M k L hG.sub hW (by omega)
 have k9:=fun s d=>Uu T E G M s d L hG.sub hW hM (by omega)
 have k10:=fun s=>Zje T E G M s L hG.sub hW hM (by omega)
 have k11:=fun s d=>Zfd T E G M s d L hG.sub hW hM
 have k12:=fun a b w=>Zjc T E G M a b w L hG.sub hW
 have k13:=fun s n=>Zkw T E G M s n L hG.sub hW hM
 have k14:=fun s=>Zi8 T E G M s L hG.sub hW hM
 have k15:=fun s=>Zk1 T E G M s L hG.sub hW hM
 have k0:=fun k=>Zet T E G M k L hG.sub hW hM (by omega)
 generalize Z9 G M++L=H at *
 unfold Zbk
 have hq0:0≤v / 16:=by omega
 have hr0:0≤v % 16∧v % 16<16:=by omega
 refine Za (fun _ _=>Tryz.call104 _ _) Tryz.func104 rfl Tryz.ntmps104 (Nat.le_of_ble_eq_true rfl) ?_;simp only [Zd,Nat.reduceAdd]
 repeat' (first|refine uN ?_|refine uC (kf) ?_|(refine uP ?_ ?_<;>(intro h;((try simp only [zs,zq,reduceCtorEq] at h);try exact zx)))|fail)
 all_goals first|(rw [if_pos (show v % 16<9∧M.l.length=0 by omega)];exact U3 rfl ⟨rfl,hself⟩)|(refine gc (k7 _) ?_;rintro u L' ⟨rfl,hP⟩;(repeat' (first|refine uN ?_|refine uC (kf) ?_|(refine uP ?_ ?_<;>(intro h;((try simp only [zs,zq,reduceCtorEq] at h);try exact zx)))|fail));rw [if_neg (show ¬ (v % 16<9∧M.l.length=0) by omega),if_pos (show v % 16=7 by omega)];exact U3 rfl ⟨rfl,hP⟩)|(refine gc (k8 _) ?_;rintro u L' ⟨rfl,hP⟩;(repeat' (first|refine uN ?_|refine uC (kf) ?_|(refine uP ?_ ?_<;>(intro h;((try simp only [zs,zq,reduceCtorEq] at h);try exact zx)))|fail));rw [if_neg (show ¬ (v % 16<9∧M.l.length=0) by omega),if_neg (show ¬ v % 16=7 by omega),if_pos (show v % 16=8 by omega)];exact U3 rfl ⟨rfl,hP⟩)|(refine gc (k9 _ _) ?_;rintro u L' ⟨rfl,hP⟩;(repeat' (first|refine uN ?_|refine uC (kf) ?_|(refine uP ?_ ?_<;>(intro h;((try simp only [zs,zq,reduceCtorEq] at h);try exact zx)))|fail));rw [if_neg (show ¬ (v % 16<9∧M.l.length=0) by omega),if_neg (show ¬ v % 16=7 by omega),if_neg (show ¬ v % 16=8 by omega),if_pos (show v % 16=9 by omega)];exact U3 rfl ⟨rfl,hP⟩)|(refine gc (k10 _) ?_;rintro u L' ⟨rfl,hP⟩;(repeat' (first|refine uN ?_|refine uC (kf) ?_|(refine uP ?_ ?_<;>(intro h;((try simp only [zs,zq,reduceCtorEq] at h);try exact zx)))|fail));rw [if_neg (show ¬ (v % 16<9∧M.l.length=0) by omega),if_neg (show ¬ v % 16=7 by omega),if_neg (show ¬ v % 16=8 by omega),if_neg (show ¬ v % 16=9 by omega),if_pos (show v % 16=10 by omega)];exact U3 rfl ⟨rfl,hP⟩)|(refine gc (k11 _ _) ?_;rintro u L' ⟨rfl,hP⟩;(repeat' (first|refine uN ?_|refine uC (kf) ?_|(refine uP ?_ ?_<;>(intro h;((try simp only [zs,zq,reduceCtorEq] at h);try exact zx)))|fail));rw [if_neg (show ¬ (v % 16<9∧M.l.length=0) by omega),if_neg (show ¬ v % 16=7 by omega),if_neg (show ¬ v % 16=8 by omega),if_neg (show ¬ v % 16=9 by omega),if_neg (show ¬ v % 16=10 by omega),if_pos (show v % 16=11 by omega)];exact U3 rfl ⟨rfl,hP⟩)|(refine gc (k12 _ _ _) ?_;rintro u L' ⟨rfl,hP⟩;(repeat' (first|refine uN ?_|refine uC (kf) ?_|(refine uP ?_ ?_<;>(intro h;((try simp only [zs,zq,reduceCtorEq] at h);try exact zx)))|fail));rw [if_neg (show ¬ (v % 16<9∧M.l.length=0) by omega),if_neg (show ¬ v % 16=7 by omega),if_neg (show ¬ v % 16=8 by omega),if_neg (show ¬ v % 16=9 by omega),if_neg (show ¬ v % 16=10 by omega),if_neg (show ¬ v % 16=11 by omega),if_pos (show v % 16=12 by omega)];exact U3 rfl ⟨rfl,hP⟩)|(refine gc (k13 _ _) ?_;rintro u L' ⟨rfl,hP⟩;(repeat' (first|refine uN ?_|refine uC (kf) ?_|(refine uP ?_ ?_<;>(intro h;((try simp only [zs,zq,reduceCtorEq] at h);try exact zx)))|fail));rw [if_neg (show ¬ (v % 16<9∧M.l.length=0) by omega),if_neg (show ¬ v % 16=7 by omega),if_neg (show ¬ v % 16=8 by omega),if_neg (show ¬ v % 16=9 by omega),if_neg (show ¬ v % 16=10 by omega),if_neg (show ¬ v % 16=11 by omega),if_neg (show ¬ v % 16=12 by omega),if_pos (show v % 16=13 by omega)];exact U3 rfl ⟨rfl,hP⟩)|(refine gc (k14 _) ?_;rintro u L' ⟨rfl,hP⟩;(repeat' (first|refine uN ?_|refine uC (kf) ?_|(refine uP ?_ ?_<;>(intro h;((try simp only [zs,zq,reduceCtorEq] at h);try exact zx)))|fail));rw [if_neg (show ¬ (v % 16<9∧M.l.length=0) by omega),if_neg (show ¬ v % 16=7 by omega),if_neg (show ¬ v % 16=8 by omega),if_neg (show ¬ v % 16=9 by omega),if_neg (show ¬ v % 16=10 by omega),if_neg (show ¬ v % 16=11 by omega),if_neg (show ¬ v % 16=12 by omega),if_neg (show ¬ v % 16=13 by omega),if_pos (show v % 16=14 by omega)];exact U3 rfl ⟨rfl,hP⟩)|(refine gc (k15 _) ?_;rintro u L' ⟨rfl,hP⟩;(repeat' (first|refine uN ?_|refine uC (kf) ?_|(refine uP ?_ ?_<;>(intro h;((try simp only [zs,zq,reduceCtorEq] at h);try exact zx)))|fail));rw [if_neg (show ¬ (v % 16<9∧M.l.length=0) by omega),if_neg (show ¬ v % 16=7 by omega),if_neg (show ¬ v % 16=8 by omega),if_neg (show ¬ v % 16=9 by omega),if_neg (show ¬ v % 16=10 by omega),if_neg (show ¬ v % 16=11 by omega),if_neg (show ¬ v % 16=12 by omega),if_neg (show ¬ v % 16=13 by omega),if_neg (show ¬ v % 16=14 by omega),if_pos (show v % 16=15 by omega)];exact U3 rfl ⟨rfl,hP⟩)|(refine gc (k0 _) ?_;rintro u L' ⟨rfl,hP⟩;(repeat' (first|refine uN ?_|refine uC (kf) ?_|(refine uP ?_ ?_<;>(intro h;((try simp only [zs,zq,reduceCtorEq] at h);try exact zx)))|fail));rw [if_neg (show ¬ (v % 16<9∧M.l.length=0) by omega),if_neg (show ¬ v % 16=7 by omega),if_neg (show ¬ v % 16=8 by omega),if_neg (show ¬ v % 16=9 by omega),if_neg (show ¬ v % 16=10 by omega),if_neg (show ¬ v % 16=11 by omega),if_neg (show ¬ v % 16=12 by omega),if_neg (show ¬ v % 16=13 by omega),if_neg (show ¬ v % 16=14 by omega),if_neg (show ¬ v % 16=15 by omega)];exact U3 rfl ⟨rfl,hP⟩)
end Go.HL
end

/-! PwB -/
section
namespace Go.HL
open Go Go.Proofs
def Vs (q:Wm × List Int) (v:Int):Wm × List Int:=if 0≤v then ((Zbk q.1 v).1,q.2++[cdN (Zbk q.1 v).2]) else (q.1,q.2++[-1])
def Ve (M:Wm) (l:List Int):Wm × List Int:=(l.take 3000).foldl Vs (M,[])
theorem runV_ok {M:Wm} {q:Wm × List Int} {k:Nat} (h:StepOk M q.1 k) (v:Int):StepOk M (Vs q v).1 (k+84)∧(Vs q v).2.length=q.2.length+1:=by
 unfold Vs
 split
 ·have h2:=one_ok h.wi v
  have h3:=h.len
  have h4:=h2.len
  exact ⟨⟨h2.wi,h.same.trans h2.same,by simp only;omega⟩,by simp⟩
 ·exact ⟨h.mono (by omega),by simp⟩
theorem Zg9 : ∀ (l:List Int) {M:Wm} {q:Wm × List Int} {k:Nat},StepOk M q.1 k→StepOk M (l.foldl Vs q).1 (k+84*l.length)∧(l.foldl Vs q).2.length=q.2.length+l.length
 | [],M,q,k,h=>⟨h,by simp⟩
 | v::l,M,q,k,h=>by
  obtain ⟨h1,h2⟩:=runV_ok h v
  obtain ⟨h3,h4⟩:=Zg9 l h1
  rw [List.foldl_cons]
  refine ⟨h3.mono (by simp only [List.length_cons];omega),by rw [h4,h2,List.length_cons];omega⟩
theorem Zkn {M:Wm} (h:WI M) (l:List Int):StepOk M (Ve M l).1 (84*l.length)∧(Ve M l).2.length≤l.length:=by
 obtain ⟨h1,h2⟩:=Zg9 (l.take 3000) (M:=M) (q:=(M,[])) (k:=0) (.refl h 0)
 have:(l.take 3000).length≤l.length:=by simp;omega
 exact ⟨h1.mono (by omega),by unfold Ve;rw [h2];simp;omega⟩
theorem Zfb (M:Wm) (l:List Int) (i:Nat) (h:i<l.length):(l.take (i+1)).foldl Vs (M,[])=Vs ((l.take i).foldl Vs (M,[])) l[i]:=by
 rw [List.take_add_one,List.getElem?_eq_getElem h,Option.toList_some,List.foldl_append]
 rfl
theorem Zgo {A L:Zb} {b:Nat} {o:Obj} (h:Has L b o):Has (A++L) b o:=by
 unfold Has at *
 rw [List.flatten_append]
 exact List.mem_append_right _ h
theorem ls_in' {A L:Zb} {c:List Zo}:LS (c::(A++L)).flatten (A++(c::L)).flatten:=by
 simp only [List.flatten_cons,List.flatten_append]
 refine LS.of_perm ?_
 rw [← List.append_assoc,← List.append_assoc]
 exact List.perm_append_comm.append_right _
set_option maxHeartbeats 2000000 attribute [local irreducible] HW HO HQ HD HC QOp Has Upd Zq Gets Yj Ya Zv Wf Yg Zp Wq Z5
attribute [local irreducible] Zbk
theorem Zbn (T:Nat) (E:Nat→Addr) (G:WdG) (M:Wm) (a:Option Addr) (cap:Nat) (l:List Int) (L:Zb) (hE:Ez T E L) (hW:WdOk G M) (hM:WI M) (hl:M.l.length+84*l.length≤99999000) (hR:Rd ic 1 L a l) (hcap:l.length≤cap) (hd : ∀ v∈l,v≤9223372036854775807) :
  HC Tryz.prog 42 [pt G.wp 0,.slice a l.length cap] (Z9 G M++L) (fun v L' => ∃ c,Vec 3 1 ic v (Ve M l).2 c∧Zao G (Ve M l).1 (c::L) L'):=by
 have hlen:(l.take 3000).length=min 3000 l.length:=List.length_take
 refine Za (fun _ _=>Tryz.call42 _ _) Tryz.func42 rfl Tryz.ntmps42 (Nat.le_of_ble_eq_true rfl) ?_;simp only [Zd,Nat.reduceAdd]
 repeat' (first|refine uN ?_|(refine uB ?_;intro b)|(refine uP ?_ ?_<;>(intro h;((try simp only [zs,zq,reduceCtorEq] at h);try exact zx)))|fail)
 generalize hN:(min (l.length:Int) 3000).toNat=N
 have hN1:N≤l.length:=by omega
 have hN2:N=min 3000 l.length:=by omega
 have hfin:(l.take N).foldl Vs (M,[])=Ve M l:=by
  unfold Ve
  congr 1
  rw [hN2]
  by_cases h:l.length≤3000
  ·rw [Nat.min_eq_right h,List.take_of_length_le (Nat.le_refl _),List.take_of_length_le h]
  ·rw [Nat.min_eq_left (by omega)]
 have hok:=fun i=>Zg9 (l.take i) (M:=M) (q:=(M,[])) (k:=0) (.refl hM 0)
 have hsucc:=Zfb M l
 refine Zdh (L':=[]::(Z9 G M++L)) ?_ (LS.refl _)
 refine Z2 (σ:=Nat × Value × List Zo × WdG) (fun r=>[(0,pt G.wp 0),(5,r.2.1),(13,.slice a N cap),(14,iv N),(15,iv r.1)])
  (fun r=>r.2.2.1::(Z9 r.2.2.2 ((l.take r.1).foldl Vs (M,[])).1++L))
  (fun r=>r.1≤N∧Vec 3 1 ic r.2.1 ((l.take r.1).foldl Vs (M,[])).2 r.2.2.1∧WdOk r.2.2.2 ((l.take r.1).foldl Vs (M,[])).1∧r.2.2.2.wp=G.wp∧r.2.2.2.nd.map (·.np)=G.nd.map (·.np)) (fun r=>N-r.1) (0,Vr,[],G) uS (List.Sublist.refl _) ⟨by simp,Yk,hW,rfl,rfl⟩ ?_
 rintro ⟨i,v1,c,G1⟩ ⟨hi,hv,hW1,e1,e2⟩
 simp only at hi hv hW1 e1 e2 ⊢
 obtain ⟨a5,cap5,he5,-,-⟩:=hv.rd Yh
 subst he5
 obtain ⟨⟨hM1,hsame,hlen⟩,hl2⟩:=hok i
 have hti:(l.take i).length=i:=by rw [List.length_take];omega
 rw [hti] at hlen hl2
 by_cases hit:i<N
 ·have hs:=hsucc i (by omega)
  obtain ⟨b,bi,q,F,fr,rfl,hb,hg⟩:=hR.at1 (j:=(i:Int)) (by omega) (by omega)
  have eg:l[(i:Int).toNat]'(by omega)=l[i]:=rfl
  rw [eg] at hg
  have hdi:=hd l[i] (List.getElem_mem _)
  clear hok hfin hsucc eg
  obtain ⟨M1,cs,hQ⟩ : ∃ M1 cs,(l.take i).foldl Vs (M,[])=(M1,cs):=⟨_,_,rfl⟩
  simp only [hQ,List.length_nil,Nat.zero_add] at hs hv hW1 hM1 hsame hlen hl2 ⊢
  generalize l[i]=x at *
  have hb':Has (Z9 G1 M1++L) b (.cells ⟨q⟩ F fr):=Zgo hb
  by_cases hx:0≤x
  ·have k1:=fun L hG=>Znf T E G1 M1 x L hG hW1 hM1 (by omega) hx hdi
   have kw:=one_w M1 x
   have hrv:Vs (M1,cs) x=((Zbk M1 x).1,cs++[cdN (Zbk M1 x).2]):=if_pos hx
   rw [hrv] at hs
   clear hrv
   generalize Zbk M1 x=R at *
   obtain ⟨M2,e⟩:=R
   simp only [e1] at k1 kw hs
   generalize hH:Z9 G1 M1++L=H at *
   repeat' (first|refine uN ?_|(refine uB ?_;intro b)|(refine uP ?_ ?_<;>(intro h;((try simp only [zs,zq,reduceCtorEq] at h);try exact zx)))|fail)
   subst hH
   refine Zdg (L':=Z9 G1 M1++(c::L)) ?_ ls_in
   refine gc (k1 _ ((hE.er [2,3,4,5,6,8]).cons _)) ?_
   rintro v L' ⟨rfl,G2,f1,f2,f3,rfl⟩
   have kc:=Zhu T E e (Z9 G2 M2++(c::L)) (hE.mono fun b o h=>Zgo (Ze h)) kw.ok
   generalize hH2:Z9 G2 M2++(c::L)=H2 at *
   repeat' (first|refine uN ?_|refine uC (kc) ?_|(refine uB ?_;intro b)|(refine uP ?_ ?_<;>(intro h;((try simp only [zs,zq,reduceCtorEq] at h);try exact zx)))|fail)
   subst hH2
   refine Zdg (L':=c::[(b,.cells ⟨[iv (cdN e)]⟩ 3)]::(Z9 G2 M2++L)) ?_ (LS.trans (LS.p1 (LS.refl _)) (LS.k ls_in'))
   refine wp1 S (cdN e) hv Yh Zdi ?_
   intro v' c' hv'
   repeat' (first|refine uN ?_|(refine uB ?_;intro b)|(refine uP ?_ ?_<;>(intro h;((try simp only [zs,zq,reduceCtorEq] at h);try exact zx)))|fail)
   refine Y3 (i+1,v',c',G2) uS ?_ ⟨by simp only;omega,by simp only [hs];exact hv',by simp only [hs];exact f3,f1.trans e1,f2.trans e2⟩ (by simp only;omega)
   simp only [hs]
   exact uL
  ·have hrv:Vs (M1,cs) x=(M1,cs++[-1]):=if_neg hx
   rw [hrv] at hs
   generalize hH:Z9 G1 M1++L=H at *
   repeat' (first|refine uN ?_|(refine uB ?_;intro b)|(refine uP ?_ ?_<;>(intro h;((try simp only [zs,zq,reduceCtorEq] at h);try exact zx)))|fail)
   subst hH
   refine fo 1 ?_
   refine wp1 S (-1:Int) hv Yh Zdi ?_
   intro v' c' hv'
   repeat' (first|refine uN ?_|(refine uB ?_;intro b)|(refine uP ?_ ?_<;>(intro h;((try simp only [zs,zq,reduceCtorEq] at h);try exact zx)))|fail)
   refine Y3 (i+1,v',c',G1) uS ?_ ⟨by simp only;omega,by simp only [hs];exact hv',by simp only [hs];exact hW1,e1,e2⟩ (by simp only;omega)
   simp only [hs]
   exact uL
 ·obtain rfl:i=N:=by omega
  rw [hfin] at hv hW1 ⊢
  repeat' (first|refine uN ?_|(refine uB ?_;intro b)|(refine uP ?_ ?_<;>(intro h;((try simp only [zs,zq,reduceCtorEq] at h);try exact zx)))|fail)
  exact Xb (L':=Z9 G1 (Ve M l).1++(c::L)) ls_in ⟨c,hv,G1,e1,e2,hW1,rfl⟩
end Go.HL
end

/-! ErD3 -/
section
namespace Go.HL
open Go Go.Proofs
set_option maxHeartbeats 2000000 attribute [local irreducible] HW HO HQ HD HC QOp Has Upd Zq Gets Yj Ya Zv Wf Yg Zp Wq Z5
theorem Zgh (T:Nat) (E:Nat→Addr) (e:Option Nat) (k:Int) (L:Zb) (hE:Ez T E L) (he:okE e):HC Tryz.prog 28 [eV T E e,iv k] L (fun v L'=>v = .bool (decide (cdN e=k))∧L'=L):=by
 have hc:=Zhu T E e L hE he
 refine Za (fun _ _=>Tryz.call28 _ _) Tryz.func28 rfl Tryz.ntmps28 (Nat.le_of_ble_eq_true rfl) ?_;simp only [Zd,Nat.reduceAdd]
 repeat' (first|refine uN ?_|refine uC (hc) ?_|(refine uP ?_ ?_<;>(intro h;((try simp only [zs,zq,reduceCtorEq] at h);try exact zx)))|fail)
 all_goals (refine Xb uZ ⟨?_,rfl⟩;simp [*])
end Go.HL
end

/-! PwC -/
section
namespace Go.HL
open Go Go.Proofs
theorem plSt_new (d:Int):Zke newNd.pl d=Wu:=by
 unfold Zke newNd
 simp only
 rw [Zd4 (by omega)]
 rw [List.getD,List.getElem?_replicate]
 split<;>rfl
def Xx:List Int:=[1,1,1]
theorem Zht:Yo Xx=none:=by decide +kernel
def b111:Wm:=(Xp (Ys Xx) 1 0).1
theorem busy_new (w:List Int) (d:Int):(Ys w).n.any (X7 d)=false:=by
 rw [List.any_eq_false]
 intro x hx
 rw [(List.mem_replicate.1 hx).2]
 unfold X7
 rw [plSt_new]
 simp only [ne_eq,not_true_eq_false,decide_false,Bool.false_or]
 unfold newNd noLeads
 simp only [List.getD,List.getElem?_replicate]
 split<;>simp
theorem Zih {w:List Int} {s:Int} (h0:0≤s) (h1:s<w.length):Zf (Ys w) s=newNd:=by
 unfold Zf Ys
 simp only [List.getD,List.getElem?_replicate]
 rw [if_pos (by omega)]
 rfl
theorem upE_new {w:List Int} {s:Int} (h0:0≤s) (h1:s<w.length):Zcf (Ys w) s=none:=by
 unfold Zcf
 rw [Zdy h0 (by simpa [Ys] using h1)]
 simp only
 rw [Zih h0 h1]
 rfl
theorem Qp {w:List Int} {s d:Int} (h0:0≤s) (h1:s<w.length) (hd:0≤d∧d<6):Xp (Ys w) s d=({ Yp (Ys w) s { newNd with leads:=noLeads.set d.toNat (some (Zh s d w 0 2)) } with l:=Xd (Zh s d w 0 2) },none):=by
 have hl:(Ys w).n.length=w.length:=by simp [Ys]
 unfold Xp
 rw [if_neg (by rw [hl];omega),upE_new h0 h1,busy_new,Zih h0 h1]
 rfl
theorem b111_e:(Xp (Ys Xx) 1 0).2=none:=by rw [Qp (by omega) (by simp [Xx]) (by omega)]
theorem b111_l:b111.l.length=3:=by
 unfold b111
 rw [Qp (by omega) (by simp [Xx]) (by omega)]
 rfl
theorem Zmd:Zid b111 1 0=(Zhb,none):=by
 unfold b111
 rw [Qp (by omega) (by simp [Xx]) (by omega)]
 unfold Zid
 rw [if_neg (by simp [Yp,Ys,Xx])]
 show (match (Zf (Yp (Ys Xx) 1 { newNd with leads:=noLeads.set 0 (some (Zh 1 0 Xx 0 2)) }) 1).leads.getD 0 none with
  | none=>([110,111,110,101],none)
  | some x=>(x.state,none))=(Zhb,none)
 rw [Zdv (by omega) (by simp [Ys,Xx])]
 rfl
theorem Zmc:(Xp b111 0 0).2=some 8:=by
 unfold b111
 rw [Qp (by omega) (by simp [Xx]) (by omega)]
 unfold Xp
 have hl:(Yp (Ys Xx) 1 { newNd with leads:=noLeads.set 0 (some (Zh 1 0 Xx 0 2)) }).n.length=3:=by simp [Yp,Ys,Xx]
 rw [if_neg (by show ¬ ((0:Int)<0∨(6:Int)≤0∨(0:Int)<0∨((Yp (Ys Xx) 1 { newNd with leads:=noLeads.set 0 (some (Zh 1 0 Xx 0 2)) }).n.length:Int)≤0);rw [hl];omega)]
 have hu:Zcf { Yp (Ys Xx) 1 { newNd with leads:=noLeads.set (Int.toNat 0) (some (Zh 1 0 Xx 0 2)) } with l:=Xd (Zh 1 0 Xx 0 2) } 0=none:=by
  unfold Zcf
  rw [Zdy (by omega) (by show (0:Int)<((Yp (Ys Xx) 1 { newNd with leads:=noLeads.set 0 (some (Zh 1 0 Xx 0 2)) }).n.length:Int);rw [hl];omega)]
  simp only
  have:Zf { Yp (Ys Xx) 1 { newNd with leads:=noLeads.set (Int.toNat 0) (some (Zh 1 0 Xx 0 2)) } with l:=Xd (Zh 1 0 Xx 0 2) } 0=newNd:=rfl
  rw [this]
  rfl
 rw [hu]
 simp only
 have hb:(Yp (Ys Xx) 1 { newNd with leads:=noLeads.set (Int.toNat 0) (some (Zh 1 0 Xx 0 2)) }).n.any (X7 0)=true:=by
  rw [List.any_eq_true]
  refine ⟨{ newNd with leads:=noLeads.set 0 (some (Zh 1 0 Xx 0 2)) },by simp [Yp,Ys,Xx],?_⟩
  unfold X7
  simp only [noLeads]
  simp
 rw [if_pos hb]
set_option maxHeartbeats 2000000 attribute [local irreducible] HW HO HQ HD HC QOp Has Upd Zq Gets Yj Ya Zv Wf Yg Zp Wq Z5
attribute [local irreducible] Xp Ys
theorem Zjl (T:Nat) (E:Nat→Addr) (L:Zb) (hE:Ez T E L):HC Tryz.prog 14 [] L (fun v L'=>v = .bool true∧L'=L):=by
 have kn:=fun v c L hG hv=>Zeu T E v Xx c L hG hv (by simp [Xx])
 rw [Zht] at kn
 have hM:=new_ok Zht
 have hl0:(Ys Xx).l.length≤99999999:=by unfold Ys;simp
 have kb:=fun G L hG hW=>Uu T E G (Ys Xx) 1 0 L hG hW hM hl0
 have hM1:=(Zhp hM 1 0).wi
 have e1:=b111_e
 have e2:=b111_l
 have e3:=Zmd
 have e4:=Zmc
 rw [e1] at kb
 change WI b111 at hM1
 have kb : ∀ G L,Er T E [2,3,4,6,8] L→WdOk G (Ys Xx)→HC Tryz.prog 21 [pt G.wp 0,iv 1,iv 0] (Z9 G (Ys Xx)++L) (fun v L'=>v=eV T E none∧Zao G b111 L L'):=kb
 have kl:=fun G L hG hW=>Zjb T E G b111 1 0 L hG hW hM1
 rw [e3] at kl
 have kf:=fun G L hW=>Zac G b111 L hW (by omega)
 have kb2:=fun G L hG hW=>Uu T E G b111 0 0 L hG hW hM1 (by omega)
 rw [e4] at kb2
 have kc:=fun L h=>Zgh T E (some 8) 8 L h rfl
 refine Za (fun _ _=>Tryz.call14 _ _) Tryz.func14 rfl Tryz.ntmps14 (Nat.le_of_ble_eq_true rfl) ?_;simp only [Zd,Nat.reduceAdd]
 repeat' (first|refine uN ?_|(refine uB ?_;intro b)|(refine uP ?_ ?_<;>(intro h;((try simp only [zs,zq,reduceCtorEq] at h);try exact zx)))|fail)
 refine gc (kn _ _ _ ((hE.er [2,3,4,6])) (.inr ⟨b,3,[],rfl,rfl,rfl,by simp [Xx],rfl⟩)) ?_
 rintro v L' ⟨G,rfl,hW,rfl⟩
 repeat' (first|refine uN ?_|(refine uB ?_;intro b)|(refine uP ?_ ?_<;>(intro h;((try simp only [zs,zq,reduceCtorEq] at h);try exact zx)))|fail)
 refine gc (kb G _ ((hE.er [2,3,4,6,8]).cons _) hW) ?_
 rintro v L' ⟨rfl,G1,f1,f2,hW1,rfl⟩
 rw [← f1]
 repeat' (first|refine uN ?_|(refine uB ?_;intro b)|(refine uP ?_ ?_<;>(intro h;((try simp only [zs,zq,reduceCtorEq] at h);try exact zx)))|fail)
 refine gc (kl G1 _ ((hE.er [2]).cons _) hW1) ?_
 rintro v L' ⟨rfl,rfl⟩
 repeat' (first|refine uN ?_|(refine uB ?_;intro b)|(refine uP ?_ ?_<;>(intro h;((try simp only [zs,zq,reduceCtorEq] at h);try exact zx)))|fail)
 refine gc (kf G1 _ hW1) ?_
 rintro v L' ⟨c2,hv2,rfl⟩
 obtain ⟨a7,cap7,rfl,-,-⟩:=hv2.rd Zl
 rw [e2]
 repeat' (first|refine uN ?_|(refine uB ?_;intro b)|(refine uP ?_ ?_<;>(intro h;((try simp only [zs,zq,reduceCtorEq] at h);try exact zx)))|fail)
 refine Zdg (L':=Z9 G1 b111++(c2::[(b,.cells ⟨[iv 1,iv 1,iv 1]⟩ 3)]::L)) ?_ ls_in
 refine gc (kb2 G1 _ (((hE.er [2,3,4,6,8]).cons _).cons _) hW1) ?_
 rintro v L' ⟨rfl,G2,g1,g2,hW2,rfl⟩
 have kc2:=kc (Z9 G2 (Xp b111 0 0).1++(c2::[(b,.cells ⟨[iv 1,iv 1,iv 1]⟩ 3)]::L)) (hE.mono fun b o h=>Zgo (Ze (Ze h)))
 generalize hH:Z9 G2 (Xp b111 0 0).1++(c2::[(b,.cells ⟨[iv 1,iv 1,iv 1]⟩ 3)]::L)=H at *
 repeat' (first|refine uN ?_|refine uC (kc2) ?_|(refine uB ?_;intro b)|(refine uP ?_ ?_<;>(intro h;((try simp only [zs,zq,reduceCtorEq] at h);try exact zx)))|fail)
 subst hH
 refine Xb (L':=L) ?_ ⟨rfl,rfl⟩
 simp only [List.flatten_append,List.flatten_cons]
 exact LS.skips _ (LS.skips _ (LS.skips _ (LS.refl _)))
abbrev REvt (v:Value) (xs:List Evt) (c:List Zo):Prop:=Vec 162 3 ec v xs c
theorem V5 (a:Option Addr) (cap:Nat) (xs:List Evt) (L:Zb) (hR:Rd ec 3 L a xs) (hl:xs.length≤100000000) :
  HC Tryz.prog 46 [.slice a xs.length cap] L (fun v L' => ∃ c,REvt v xs c∧L'=c::L):=by
 refine Za (fun _ _=>Tryz.call46 _ _) Tryz.func46 rfl Tryz.ntmps46 (Nat.le_of_ble_eq_true rfl) ?_;simp only [Zd,Nat.reduceAdd]
 repeat' (first|refine uN ?_|refine Z8 S ?_|refine Yq S ?_|(refine uB ?_;intro b)|(refine uP ?_ ?_<;>(intro h;((try simp only [zs,zq,reduceCtorEq] at h);try exact zx)))|refine da 101 ?_|fail)
 refine Zdh (L':=[]::L) ?_ (LS.refl _)
 refine Z2 (σ:=Nat × Value × List Zo) (fun r=>[(0,.slice a xs.length cap),(3,r.2.1),(4,iv r.1)]) (fun r=>r.2.2::L) (fun r=>r.1≤xs.length∧REvt r.2.1 (xs.take r.1) r.2.2) (fun r=>xs.length-r.1) (0,Vr,[]) uS (List.Sublist.refl _) ⟨by simp,Yk⟩ ?_
 rintro ⟨i,v,c⟩ ⟨hi,hv⟩
 simp only at hi hv ⊢
 by_cases hlt:i<xs.length
 ·obtain ⟨b,ia,l,E,fr,rfl,hb,hg⟩:=hR.at (j:=(i:Int)) (by omega) (by omega)
  have ex:xs[(i:Int).toNat]'(by omega)=xs[i]:=rfl
  rw [ex] at hg
  have hst:xs.take (i+1)=xs.take i++[xs[i]]:=List.take_succ_eq_append_getElem hlt
  have hti:(xs.take i).length=i:=by rw [List.length_take];omega
  obtain ⟨a5,cap5,he5,-,-⟩:=hv.rd Wi
  subst he5
  generalize xs[i]=x at *
  obtain ⟨xs1,xd,xp⟩:=x
  simp only [ec] at hg
  repeat' (first|refine uN ?_|refine Z8 S ?_|refine Yq S ?_|(refine uB ?_;intro b)|(refine uP ?_ ?_<;>(intro h;((try simp only [zs,zq,reduceCtorEq] at h);try exact zx)))|refine da 101 ?_|fail)
  refine fo 1 ?_
  refine wp1 S (⟨xs1,xd,xp⟩:Evt) hv Wi Zjr ?_ (hby:=by rw [hti];omega) (hmax:=by rw [hti];omega)
  intro v' c' hv'
  obtain ⟨a6,cap6,he6,-,-⟩:=hv'.rd Wi
  subst he6
  repeat' (first|refine uN ?_|refine Z8 S ?_|refine Yq S ?_|(refine uB ?_;intro b)|(refine uP ?_ ?_<;>(intro h;((try simp only [zs,zq,reduceCtorEq] at h);try exact zx)))|refine da 101 ?_|fail)
  refine Y3 (i+1,_,c') uS ?_ ⟨by simp only;omega,by simp only [hst];exact hv'⟩ (by simp only;omega)
  exact uL
 ·obtain rfl:i=xs.length:=by omega
  rw [List.take_length] at hv
  repeat' (first|refine uN ?_|refine Z8 S ?_|refine Yq S ?_|(refine uB ?_;intro b)|(refine uP ?_ ?_<;>(intro h;((try simp only [zs,zq,reduceCtorEq] at h);try exact zx)))|refine da 101 ?_|fail)
  exact Xb (LS.refl _) ⟨c,hv,rfl⟩
theorem Zbo (a a2:Option Addr) (cap cap2:Nat) (xs ys:List Evt) (L:Zb) (hR:Rd ec 3 L a xs) (hR2:Rd ec 3 L a2 ys) (hl:xs.length≤100000000) :
  HC Tryz.prog 45 [.slice a xs.length cap,.slice a2 ys.length cap2] L (fun v L'=>v = .bool (decide (xs=ys))∧L'=L):=by
 have kb:=fun L hR=>V5 a cap xs L hR hl
 refine Za (fun _ _=>Tryz.call45 _ _) Tryz.func45 rfl Tryz.ntmps45 (Nat.le_of_ble_eq_true rfl) ?_;simp only [Zd,Nat.reduceAdd]
 repeat' (first|refine uN ?_|refine Z8 S ?_|(refine uP ?_ ?_<;>(intro h;((try simp only [zs,zq,reduceCtorEq] at h);try exact zx)))|fail)
 refine gc (kb _ hR) ?_
 rintro v L' ⟨c,hv,rfl⟩
 obtain ⟨a5,cap5,rfl,-,hR5⟩:=hv.rd Wi
 repeat' (first|refine uN ?_|refine Z8 S ?_|(refine uP ?_ ?_<;>(intro h;((try simp only [zs,zq,reduceCtorEq] at h);try exact zx)))|fail)
 ·exact Xb (LS.skips _ (LS.refl _)) ⟨by rw [decide_eq_false];intro e;subst e;exact absurd rfl ‹_›,rfl⟩
 refine Z2 (σ:=Nat) (fun i=>[(5,.slice a5 xs.length cap5),(1,.slice a2 ys.length cap2),(6,iv i)]) (fun _=>c::L) (fun i=>i≤xs.length∧xs.take i=ys.take i) (fun i=>xs.length-i) 0 uS (List.Sublist.refl _) ⟨by omega,by simp⟩ ?_
 rintro i ⟨h1,h2⟩
 by_cases hlt:i<xs.length
 ·obtain ⟨b,ia,l,E,fr,rfl,hb,hg⟩:=(hR5 L).at (j:=(i:Int)) (by omega) (by omega)
  obtain ⟨b2,ia2,l2,E2,fr2,rfl,hb2,hg2⟩:=hR2.at (j:=(i:Int)) (by omega) (by omega)
  have ex:xs[(i:Int).toNat]'(by omega)=xs[i]:=rfl
  have ey:ys[(i:Int).toNat]'(by omega)=ys[i]'(by omega):=rfl
  rw [ex] at hg
  rw [ey] at hg2
  have hst:=Us (xs:=xs) (ys:=ys) hlt (by omega)
  have hne:xs[i]≠ys[i]'(by omega)→xs≠ys:=fun h e=>h (by subst e;rfl)
  generalize xs[i]=x at *
  generalize ys[i]'(by omega)=y at *
  repeat' (first|refine uN ?_|refine Z8 S ?_|(refine uP ?_ ?_<;>(intro h;((try simp only [zs,zq,reduceCtorEq] at h);try exact zx)))|fail)
  ·refine Xb (LS.skips _ (LS.refl _)) ⟨?_,rfl⟩
   rw [decide_eq_false (hne (fun e=>by subst e;simp at h))]
  ·have e:x=y:=by
    obtain ⟨x1,x2,x3⟩:=x
    obtain ⟨y1,y2,y3⟩:=y
    simp at h
    obtain ⟨rfl,rfl,rfl⟩:=h
    rfl
   exact Zi (i+1) uS (List.Sublist.refl _) ⟨by omega,hst.2 ⟨h2,e⟩⟩ (by omega)
 ·repeat' (first|refine uN ?_|refine Z8 S ?_|(refine uP ?_ ?_<;>(intro h;((try simp only [zs,zq,reduceCtorEq] at h);try exact zx)))|fail)
  refine Xb (LS.skips _ (LS.refl _)) ⟨?_,rfl⟩
  rw [decide_eq_true]
  have e1:xs.take i=xs:=List.take_of_length_le (by omega)
  have e2:ys.take i=ys:=List.take_of_length_le (by omega)
  rw [← e1,h2,e2]
end Go.HL
end

/-! PwD -/
section
namespace Go.HL
open Go Go.Proofs
def wdC (G:WdG) (M:Wm):List Zo:=(Z9 G M).flatten
theorem Zeq (G:WdG) (M:Wm) (L:Zb):(wdC G M::L).flatten=(Z9 G M++L).flatten:=by
 unfold wdC
 rw [List.flatten_cons,List.flatten_append]
def WdQ (G:WdG) (M':Wm) (L L':Zb):Prop := ∃ G',G'.wp=G.wp∧WdOk G' M'∧L'=wdC G' M'::L
theorem HC.shutC {F:Nat} {args:List Value} {G:WdG} {M M':Wm} {L:Zb} {V:Value→List Zo→Prop} (h:HC Tryz.prog F args (Z9 G M++L) (fun v L' => ∃ c,V v c∧Zao G M' (c::L) L')):HC Tryz.prog F args (wdC G M::L) (fun v L' => ∃ c,V v c∧WdQ G M' (c::L) L'):=by
 refine HC.post (HC.fl h (Zeq G M L).symm) ?_
 rintro v L' ⟨c,hv,G',e1,e2,e3,rfl⟩
 exact ⟨wdC G' M'::(c::L),LS.of_eq (Zeq G' M' _),c,hv,G',e1,e3,rfl⟩
theorem HC.shutR {F:Nat} {args:List Value} {G:WdG} {M:Wm} {L:Zb} {V:Value→List Zo→Prop} (h:HC Tryz.prog F args (Z9 G M++L) (fun v L' => ∃ c,V v c∧L'=c::(Z9 G M++L))):HC Tryz.prog F args (wdC G M::L) (fun v L' => ∃ c,V v c∧L'=c::wdC G M::L):=by
 refine HC.post (HC.fl h (Zeq G M L).symm) ?_
 rintro v L' ⟨c,hv,rfl⟩
 refine ⟨c::wdC G M::L,?_,c,hv,rfl⟩
 rw [List.flatten_cons,Zeq,List.flatten_cons]
 exact LS.refl _
theorem HC.shutN {F:Nat} {args:List Value} {M:Wm} {L:Zb} {V:Value→WdG→Prop} {K:Zb} (h:HC Tryz.prog F args K (fun v L' => ∃ G,V v G∧WdOk G M∧L'=Z9 G M++L)):HC Tryz.prog F args K (fun v L' => ∃ G,V v G∧WdOk G M∧L'=wdC G M::L):=by
 refine HC.post h ?_
 rintro v L' ⟨G,hv,hW,rfl⟩
 exact ⟨wdC G M::L,LS.of_eq (Zeq G M L),G,hv,hW,rfl⟩
theorem Zha : ∀ (l:List Int) (M:Wm) (a b:List Int),(l.foldl Vs (M,a++b))=((l.foldl Vs (M,b)).1,a++(l.foldl Vs (M,b)).2)
 | [],M,a,b=>rfl
 | v::l,M,a,b=>by
  rw [List.foldl_cons,List.foldl_cons]
  unfold Vs
  split
  ·rename_i hv
   simp only [if_pos hv]
   rw [List.append_assoc]
   exact Zha l _ a _
  ·rename_i hv
   simp only [if_neg hv]
   rw [List.append_assoc]
   exact Zha l _ a _
theorem run_cut {M:Wm} {l:List Int} (h:l.length≤3000) (n:Nat):Ve M l=((Ve (Ve M (l.take n)).1 (l.drop n)).1,(Ve M (l.take n)).2++(Ve (Ve M (l.take n)).1 (l.drop n)).2):=by
 have e1:(l.take n).take 3000=l.take n:=List.take_of_length_le (by rw [List.length_take];omega)
 have e2:(l.drop n).take 3000=l.drop n:=List.take_of_length_le (by rw [List.length_drop];omega)
 have e3:l.take 3000=l.take n++l.drop n:=by rw [List.take_of_length_le h,List.take_append_drop]
 unfold Ve
 rw [e1,e2,e3,List.foldl_append]
 have:=Zha (l.drop n) ((l.take n).foldl Vs (M,[])).1 ((l.take n).foldl Vs (M,[])).2 []
 rw [List.append_nil] at this
 exact this
theorem Zml {w:List Int} {e:Nat} (h:Yo w=some e):1≤e:=by
 unfold Yo at h
 split at h
 ·cases h;omega
 split at h
 ·cases h;omega
 split at h
 ·cases h;omega
 ·cases h
set_option maxHeartbeats 2000000 attribute [local irreducible] HW HO HQ HD HC QOp Has Upd Zq Gets Yj Ya Zv Wf Yg Zp Wq Z5
attribute [local irreducible] Ve Ys
theorem Zco (T:Nat) (E:Nat→Addr) (a a2:Option Addr) (cap cap2:Nat) (w l:List Int) (cut_:Int) (L:Zb) (hE:Ez T E L) (hR:Rd ic 1 L a w) (hR2:Rd ic 1 L a2 l) (hcap2:l.length≤cap2) (hd : ∀ v∈l,v≤9223372036854775807) :
  HC Tryz.prog 7 [.slice a w.length cap,.slice a2 l.length cap2,iv cut_] L (fun v L'=>v = .bool true∧L'=L):=by
 have kb:=Zjl T E L hE
 have kw:=Zam a cap w L hR
 by_cases hc:Yo w=none
 ·rw [hc] at kw
  simp only [cdN'] at kw
  by_cases hlc:l.length≤200∧0≤cut_∧cut_≤l.length
  ·obtain ⟨hl1,hc0,hc1⟩:=hlc
   obtain ⟨c1,c2,-⟩:=Wv hc
   have hM:=new_ok hc
   have hnl:(Ys w).l.length=0:=by unfold Ys;rfl
   have kn:=fun v c L hG hv=>Zeu T E v w c L hG hv (by omega)
   simp only [hc] at kn
   have kn:=fun v c L hG hv=>HC.shutN (V:=fun u G=>u = .tuple ⟨[pt G.wp 0,.nilIface]⟩) (kn v c L hG hv)
   have ko:=fun L hR=>Wz a cap w L hR (by omega)
   have ko2:=fun L hR=>Wz a2 cap2 l L hR (by omega)
   have hlt:(l.take cut_.toNat).length=cut_.toNat:=by rw [List.length_take];omega
   have hld:(l.drop cut_.toNat).length=l.length-cut_.toNat:=List.length_drop
   have ko3 : ∀ L,Rd ic 1 L a2 l→HC Tryz.prog 18 [.slice a2 cut_.toNat cap2] L (fun v L' => ∃ c,Vec 3 1 ic v (l.take cut_.toNat) c∧L'=c::L):=fun L hR=>by
    have:=Wz a2 cap2 (l.take cut_.toNat) L hR.take (by omega)
    rw [hlt] at this
    simpa only [Vec,hlt] using this
   have ko4 : ∀ L,Rd ic 1 L a2 l→HC Tryz.prog 18 [.slice (cut a2 cap2 cut_.toNat 1) (l.length-cut_.toNat) (cap2-cut_.toNat)] L (fun v L' => ∃ c,Vec 3 1 ic v (l.drop cut_.toNat) c∧L'=c::L):=fun L hR=>by
    have:=Wz (cut a2 cap2 cut_.toNat 1) (cap2-cut_.toNat) (l.drop cut_.toNat) L (hR.drop hcap2) (by omega)
    rw [hld] at this
    simpa only [Vec,hld] using this
   have kr1:=fun G a cap L hE hW hR hcap=>HC.shutC (V:=fun v c=>Vec 3 1 ic v (Ve (Ys w) l).2 c) (Zbn T E G (Ys w) a cap l L hE hW hM (by omega) hR hcap hd)
   have kr2:=fun G a cap L hE hW hR hcap=>HC.shutC (V:=fun v c=>Vec 3 1 ic v (Ve (Ys w) (l.take cut_.toNat)).2 c) (Zbn T E G (Ys w) a cap (l.take cut_.toNat) L hE hW hM (by omega) hR hcap (fun v hv=>hd v (List.mem_of_mem_take hv)))
   obtain ⟨hr1,hr1l⟩:=Zkn hM l
   obtain ⟨hr2,hr2l⟩:=Zkn hM (l.take cut_.toNat)
   have hr2L:=hr2.len
   obtain ⟨hr3,hr3l⟩:=Zkn hr2.wi (l.drop cut_.toNat)
   have kr3:=fun G a cap L hE hW hR hcap=>HC.shutC (V:=fun v c=>Vec 3 1 ic v (Ve (Ve (Ys w) (l.take cut_.toNat)).1 (l.drop cut_.toNat)).2 c) (Zbn T E G (Ve (Ys w) (l.take cut_.toNat)).1 a cap (l.drop cut_.toNat) L hE hW hr2.wi (by omega) hR hcap (fun v hv=>hd v (List.mem_of_mem_drop hv)))
   have hcut:=run_cut (M:=Ys w) (l:=l) (by omega) cut_.toNat
   have hr1L:=hr1.len
   have hr1E:=hr1.wi.evl
   generalize Ve (Ys w) l=R1 at *
   generalize Ve (Ys w) (l.take cut_.toNat)=R2 at *
   generalize Ve R2.1 (l.drop cut_.toNat)=R3 at *
   obtain ⟨M1,s1⟩:=R1
   obtain ⟨M2,s2⟩:=R2
   obtain ⟨M3,s3⟩:=R3
   obtain ⟨rfl,rfl⟩:=Prod.mk.inj hcut
   simp only at kr1 kr2 kr3 hr1l hr2l hr3l hr1L hr1E hr2L
   refine Za (fun _ _=>Tryz.call7 _ _) Tryz.func7 rfl Tryz.ntmps7 (Nat.le_of_ble_eq_true rfl) ?_;simp only [Zd,Nat.reduceAdd]
   repeat' (first|refine uN ?_|refine uC (kb) ?_|refine uC (kw) ?_|(refine uP ?_ ?_<;>(intro h;((try simp only [zs,zq,reduceCtorEq] at h);try exact zx)))|fail)
   refine gc (ko _ hR) ?_
   rintro v L' ⟨o1,ho1,rfl⟩
   repeat' (first|refine uN ?_|refine uC (kb) ?_|refine uC (kw) ?_|(refine uP ?_ ?_<;>(intro h;((try simp only [zs,zq,reduceCtorEq] at h);try exact zx)))|fail)
   refine gc (kn _ _ _ (hE.er [2,3,4,6]) ho1) ?_
   rintro v L' ⟨Ga,rfl,hWa,rfl⟩
   repeat' (first|refine uN ?_|refine uC (kb) ?_|refine uC (kw) ?_|(refine uP ?_ ?_<;>(intro h;((try simp only [zs,zq,reduceCtorEq] at h);try exact zx)))|fail)
   refine gc (ko _ ((hR.cons _).cons _)) ?_
   rintro v L' ⟨o2,ho2,rfl⟩
   repeat' (first|refine uN ?_|refine uC (kb) ?_|refine uC (kw) ?_|(refine uP ?_ ?_<;>(intro h;((try simp only [zs,zq,reduceCtorEq] at h);try exact zx)))|fail)
   refine gc (kn _ _ _ (((hE.er [2,3,4,6]).cons _).cons _) ho2) ?_
   rintro v L' ⟨Gb,rfl,hWb,rfl⟩
   repeat' (first|refine uN ?_|refine uC (kb) ?_|refine uC (kw) ?_|(refine uP ?_ ?_<;>(intro h;((try simp only [zs,zq,reduceCtorEq] at h);try exact zx)))|fail)
   refine gc (ko2 _ ((((hR2.cons _).cons _).cons _).cons _)) ?_
   rintro v L' ⟨o3,ho3,rfl⟩
   obtain ⟨a3,cap3,rfl,hcap3,hR3⟩:=Vec.rd ho3 Yh
   refine fo 3 ?_
   refine gc (kr1 Ga a3 cap3 _ ((((hE.cons _).cons _).cons _).cons _) hWa (hR3 _) hcap3) ?_
   rintro v L' ⟨f1,hf1,Ga1,e1,hWa1,rfl⟩
   obtain ⟨a4,cap4,rfl,-,hR4⟩:=hf1.rd Yh
   rw [← e1]
   repeat' (first|refine uN ?_|refine uC (kb) ?_|refine uC (kw) ?_|(refine uP ?_ ?_<;>(intro h;((try simp only [zs,zq,reduceCtorEq] at h);try exact zx)))|fail)
   refine gc (ko3 _ uR) ?_
   rintro v L' ⟨o5,ho5,rfl⟩
   obtain ⟨a5,cap5,rfl,hcap5,hR5⟩:=ho5.rd Yh
   refine fo 4 ?_
   refine gc (kr2 Gb a5 cap5 _ (by repeat (first|exact hE|apply Ez.cons)) hWb (hR5 _) hcap5) ?_
   rintro v L' ⟨f2,hf2,Gb1,e2,hWb1,rfl⟩
   obtain ⟨a6,cap6,rfl,-,hR6⟩:=hf2.rd Yh
   rw [← e2]
   repeat' (first|refine uN ?_|refine uC (kb) ?_|refine uC (kw) ?_|(refine uP ?_ ?_<;>(intro h;((try simp only [zs,zq,reduceCtorEq] at h);try exact zx)))|fail)
   refine gc (ko4 _ uR) ?_
   rintro v L' ⟨o6,ho6,rfl⟩
   obtain ⟨a7,cap7,rfl,hcap7,hR7⟩:=ho6.rd Yh
   refine fo 1 ?_
   refine gc (kr3 Gb1 a7 cap7 _ (by repeat (first|exact hE|apply Ez.cons)) hWb1 (hR7 _) hcap7) ?_
   rintro v L' ⟨f3,hf3,Gb2,e3,hWb2,rfl⟩
   obtain ⟨a8,cap8,rfl,-,hR8⟩:=hf3.rd Yh
   rw [← e3]
   repeat' (first|refine uN ?_|refine uC (kb) ?_|refine uC (kw) ?_|(refine uP ?_ ?_<;>(intro h;((try simp only [zs,zq,reduceCtorEq] at h);try exact zx)))|fail)
   refine fo 3 ?_
   refine wpA S hf2 (by repeat (first|exact hR8 _|apply Rd.cons)) Yh Zdi ?_
   intro v'' c'' hv''
   obtain ⟨a9,cap9,rfl,-,hR9⟩:=hv''.rd Yh
   have ks : ∀ L,Rd ic 1 L a4 (s2++s3)→Rd ic 1 L a9 (s2++s3)→HC Tryz.prog 43 [.slice a4 (s2++s3).length cap4,.slice a9 (s2++s3).length cap9] L (fun v L'=>v = .bool true∧L'=L):=fun L h1 h2=>by
    have:=Zef a4 a9 cap4 cap9 (s2++s3) (s2++s3) L h1 h2 (by omega)
    rw [decide_eq_true rfl] at this
    exact this
   have kfl:=fun G L hW=>HC.shutR (V:=fun v c=>Y9 v M1.l c) (Zac G M1 L hW (by omega))
   have kev:=fun G L hW=>HC.shutR (V:=fun v c=>Vec 81 3 ec v M1.ev c) (Zfc G M1 L hW (by omega))
   repeat' (first|refine uN ?_|refine uC (kb) ?_|refine uC (kw) ?_|(refine uP ?_ ?_<;>(intro h;((try simp only [zs,zq,reduceCtorEq] at h);try exact zx)))|fail)
   refine Vc (qC (ks _ (by repeat (first|exact hR4 _|apply Rd.cons)) (by repeat (first|exact hR9 _|apply Rd.cons)))) ?_
   repeat' (first|refine uN ?_|refine uC (kb) ?_|refine uC (kw) ?_|(refine uP ?_ ?_<;>(intro h;((try simp only [zs,zq,reduceCtorEq] at h);try exact zx)))|fail)
   refine fo 5 ?_
   refine gc (kfl Ga1 _ hWa1) ?_
   rintro v L' ⟨c10,hv10,rfl⟩
   obtain ⟨a10,cap10,rfl,-,hR10⟩:=hv10.rd Zl
   repeat' (first|refine uN ?_|refine uC (kb) ?_|refine uC (kw) ?_|(refine uP ?_ ?_<;>(intro h;((try simp only [zs,zq,reduceCtorEq] at h);try exact zx)))|fail)
   refine fo 3 ?_
   refine gc (kfl Gb2 _ hWb2) ?_
   rintro v L' ⟨c11,hv11,rfl⟩
   obtain ⟨a11,cap11,rfl,-,hR11⟩:=hv11.rd Zl
   have ksf : ∀ L,Rd fc 9 L a10 M1.l→Rd fc 9 L a11 M1.l→HC Tryz.prog 44 [.slice a10 M1.l.length cap10,.slice a11 M1.l.length cap11] L (fun v L'=>v = .bool true∧L'=L):=fun L h1 h2=>by
    have:=Zbp a10 a11 cap10 cap11 M1.l M1.l L h1 h2 (by omega)
    rw [decide_eq_true rfl] at this
    exact this
   repeat' (first|refine uN ?_|refine uC (kb) ?_|refine uC (kw) ?_|(refine uP ?_ ?_<;>(intro h;((try simp only [zs,zq,reduceCtorEq] at h);try exact zx)))|fail)
   refine Vc (qC (ksf _ (by repeat (first|exact hR10 _|apply Rd.cons)) (by repeat (first|exact hR11 _|apply Rd.cons)))) ?_
   repeat' (first|refine uN ?_|refine uC (kb) ?_|refine uC (kw) ?_|(refine uP ?_ ?_<;>(intro h;((try simp only [zs,zq,reduceCtorEq] at h);try exact zx)))|fail)
   refine fo 3 ?_
   refine gc (kev Ga1 _ hWa1) ?_
   rintro v L' ⟨c12,hv12,rfl⟩
   obtain ⟨a12,cap12,rfl,-,hR12⟩:=hv12.rd Wi
   repeat' (first|refine uN ?_|refine uC (kb) ?_|refine uC (kw) ?_|(refine uP ?_ ?_<;>(intro h;((try simp only [zs,zq,reduceCtorEq] at h);try exact zx)))|fail)
   refine fo 3 ?_
   refine gc (kev Gb2 _ hWb2) ?_
   rintro v L' ⟨c13,hv13,rfl⟩
   obtain ⟨a13,cap13,rfl,-,hR13⟩:=hv13.rd Wi
   repeat' (first|refine uN ?_|refine uC (kb) ?_|refine uC (kw) ?_|(refine uP ?_ ?_<;>(intro h;((try simp only [zs,zq,reduceCtorEq] at h);try exact zx)))|fail)
   refine gc (V5 a13 cap13 M1.ev _ (hR13 _) (by omega)) ?_
   rintro v L' ⟨c14,hv14,rfl⟩
   obtain ⟨a14,cap14,rfl,-,hR14⟩:=hv14.rd Wi
   have kse : ∀ L,Rd ec 3 L a12 M1.ev→Rd ec 3 L a14 M1.ev→HC Tryz.prog 45 [.slice a12 M1.ev.length cap12,.slice a14 M1.ev.length cap14] L (fun v L'=>v = .bool true∧L'=L):=fun L h1 h2=>by
    have:=Zbo a12 a14 cap12 cap14 M1.ev M1.ev L h1 h2 (by omega)
    rw [decide_eq_true rfl] at this
    exact this
   repeat' (first|refine uN ?_|refine uC (kb) ?_|refine uC (kw) ?_|(refine uP ?_ ?_<;>(intro h;((try simp only [zs,zq,reduceCtorEq] at h);try exact zx)))|fail)
   refine Vc (qC (kse _ (by repeat (first|exact hR12 _|apply Rd.cons)) (by repeat (first|exact hR14 _|apply Rd.cons)))) ?_
   repeat' (first|refine uN ?_|refine uC (kb) ?_|refine uC (kw) ?_|(refine uP ?_ ?_<;>(intro h;((try simp only [zs,zq,reduceCtorEq] at h);try exact zx)))|fail)
   refine Xb (L':=L) ?_ ⟨rfl,rfl⟩
   repeat (first|exact LS.refl _|refine LS.c ?_)
  ·refine Za (fun _ _=>Tryz.call7 _ _) Tryz.func7 rfl Tryz.ntmps7 (Nat.le_of_ble_eq_true rfl) ?_;simp only [Zd,Nat.reduceAdd]
   repeat' (first|refine uN ?_|refine uC (kb) ?_|refine uC (kw) ?_|(refine uP ?_ ?_<;>(intro h;((try simp only [zs,zq,reduceCtorEq] at h);try exact zx)))|fail)
   all_goals exact Xb (LS.refl _) ⟨rfl,rfl⟩
 ·obtain ⟨e,he⟩:=Option.ne_none_iff_exists'.1 hc
  rw [he] at kw
  have hpos : ¬ cdN' (some e)≤0:=by
   obtain ⟨k,hk⟩ : ∃ k,e=k+1:=⟨e-1,by have:=Zml he;omega⟩
   subst hk
   simp only [cdN']
   omega
  generalize cdN' (some e)=z at *
  refine Za (fun _ _=>Tryz.call7 _ _) Tryz.func7 rfl Tryz.ntmps7 (Nat.le_of_ble_eq_true rfl) ?_;simp only [Zd,Nat.reduceAdd]
  repeat' (first|refine uN ?_|refine uC (kb) ?_|refine uC (kw) ?_|(refine uP ?_ ?_<;>(intro h;((try simp only [zs,zq,reduceCtorEq] at h);try exact zx)))|fail)
  all_goals exact Xb (LS.refl _) ⟨rfl,rfl⟩
end Go.HL
end

