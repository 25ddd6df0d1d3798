/- Texts laid into one, without what the claim does not use. Conditions: none. -/
import Derived.Test.YtkookaogdkdegacGreatDoorMSaE
import Derived.Below
import Derived.Shelf.Strings.OnBuilder
import Derived.Shelf.Strings.Repeat
import Derived.Shelf.Strings.Split
import Derived.Shelf.Strconv.Itoa3
import Derived.Shelf.Strconv.AtoiAll
import Derived.Shelf.LaysM
import Derived.Shelf.LaysC
import Derived.Test.YtkookaogdkdegacGreatDoorProg
import Derived.Lib.ItoaLen
set_option linter.unusedVariables false
set_option linter.unusedSimpArgs false
/-! WoS -/
section
namespace Go.HL
open Go Go.Proofs
theorem Zmv {α β:Type} (f:α→β→List Zm) : ∀ {l:List α} {k:List β} {d:Nat} {a:α} {b:β},l[d]? = some a→k[d]? = some b → ∃ A B,(List.zipWith f l k).flatten=A++(f a b++B) ∧ ∀ a' b',(List.zipWith f (l.set d a') (k.set d b')).flatten=A++(f a' b'++B)
 | [],_,_,_,_,h,_=>by simp at h
 | _::_,[],_,_,_,_,h=>by simp at h
 | x::l,y::k,0,a,b,h1,h2=>by
  simp at h1 h2
  subst h1;subst h2
  exact ⟨[],(List.zipWith f l k).flatten,by simp,fun a' b'=>by simp⟩
 | x::l,y::k,d+1,a,b,h1,h2=>by
  obtain ⟨A,B,e1,e2⟩:=Zmv f (l:=l) (k:=k) (d:=d) (a:=a) (b:=b) (by simpa using h1) (by simpa using h2)
  exact ⟨f x y++A,B,by simp [e1],fun a' b'=>by simp [e2]⟩
theorem Zfm {g:NdG} {m:Nd} {d:Nat} {o:Option Ld} {q:Nat × Value × List Zm} (h1:m.leads[d]? = some o) (h2:g.ld[d]? = some q) :
  ∃ A B,Qm g m=A++(ldB o q++B) ∧ ∀ o' q' (m':Nd) (g':NdG),m'.leads=m.leads.set d o'→g'.ld=g.ld.set d q'→Qm g' m'=A++(ldB o' q'++B):=by
 obtain ⟨A,B,e1,e2⟩:=Zmv ldB h1 h2
 refine ⟨A,B,e1,fun o' q' m' g' h3 h4=>?_⟩
 unfold Qm
 rw [h3,h4]
 exact e2 o' q'
theorem Zaj {α:Type} {l:List α} {d:Nat} {x:α} (h:l[d]? = some x):l.set d x=l:=by
 refine List.ext_getElem? fun i=>?_
 rw [List.getElem?_set]
 split
 ·rename_i e
  subst e
  rw [h,if_pos (List.getElem?_eq_some_iff.1 h).1]
 ·rfl
theorem Zfl {g g':NdG} {m m':Nd} {d:Nat} {o':Option Ld} {q':Nat × Value × List Zm} (h3:m'.leads=m.leads.set d o') (h4:g'.ld=g.ld.set d q'):Yj g' m'=(Yj g m).set d (Zpm o' q'):=by
 unfold Yj
 rw [h3,h4]
 refine List.ext_getElem? fun i=>?_
 simp only [List.getElem?_zipWith,List.getElem?_set,List.length_zipWith]
 by_cases hd:d=i
 ·subst hd
  simp only [if_true]
  by_cases ha:d<m.leads.length
  ·by_cases hb:d<g.ld.length
   ·have:d<min m.leads.length g.ld.length:=by omega
    simp [ha,hb,this]
   ·have : ¬ d<min m.leads.length g.ld.length:=by omega
    simp [ha,hb];omega
  ·have : ¬ d<min m.leads.length g.ld.length:=by omega
   simp [ha];omega
 ·simp only [if_neg hd]
theorem NdOk.lead {g:NdG} {m:Nd} (h:NdOk g m) {d:Nat} {x:Ld} {q:Nat × Value × List Zm} (hx:LdOk q.2.1 q.2.2 x):NdOk { g with ld:=g.ld.set d q } { m with leads:=m.leads.set d (some x) }:=by
 refine ⟨by simp [h.ld],fun e y hy p hp=>?_,h.map⟩
 simp only [List.getElem?_set] at hy hp
 by_cases hde:d=e
 ·rw [if_pos hde] at hy hp
  split at hy
  ·split at hp
   ·cases hy;cases hp;exact hx
   ·cases hp
  ·cases hy
 ·rw [if_neg hde] at hy hp
  exact h.lok e y hy p hp
theorem NdOk.hear {g:NdG} {m:Nd} (h:NdOk g m) {d:Nat} {x:Ld} {q:Nat × Value × List Zm} (h2:g.ld[d]? = some q) (hx:LdOk q.2.1 q.2.2 x):NdOk g { m with leads:=m.leads.set d (some x) }:=by
 have:=h.lead (d:=d) hx
 rw [Zaj h2] at this
 exact this
theorem Zsd (id:Int) (ref:Int→Bool) (m:Pl) (j:Jn) (f:Fr):(Z3 id ref m j f).2.2.1.length≤1:=by
 unfold Z3
 split
 ·simp
 split
 ·simp
 split
 ·simp
 ·simp only
  split<;>simp
theorem Zho (M:Wm) (s:Int) (f:Fr):(Y3 M s f).2.1.length≤1:=by
 unfold Y3 Xv
 split
 ·simp
 ·rename_i j ref _
  split
  ·simp
  ·exact Zsd s ref _ j f
theorem errs_ls {tab:List (Nat × Nat)} {T:Nat} {E:Nat→Addr} {cs:List Nat} {L L':Zb} (h:Errs tab T E cs L) (hl:LS L.flatten L'.flatten):Errs tab T E cs L':=h.mono fun _ _ hb=>hl.mem hb
theorem ls_mid {c A B:List Zm} {D:Zb}:LS (c::A::B::D).flatten ((A++(c++B))::D).flatten:=by
 simp only [List.flatten_cons,List.append_assoc]
 refine LS.of_perm ?_
 rw [← List.append_assoc,← List.append_assoc A c]
 exact List.perm_append_comm.append_right _
theorem ls_mid' {c A B:List Zm} {D:Zb}:LS ((A++(c++B))::D).flatten (c::A::B::D).flatten:=by
 simp only [List.flatten_cons,List.append_assoc]
 refine LS.of_perm ?_
 rw [← List.append_assoc,← List.append_assoc c A]
 exact List.perm_append_comm.append_right _
theorem ls7 {x0 x1 x2 x3 x4 x5 x6 c A B:List Zm} {D:Zb}:LS (x0::x1::x2::x3::x4::x5::x6::(A++(c++B))::D).flatten (x0::x1::x2::x3::x4::x5::x6::c::A::B::D).flatten:=LS.k (LS.k (LS.k (LS.k (LS.k (LS.k (LS.k ls_mid'))))))
theorem Rd.ls {α:Type} {enc:α→List Value} {sz:Nat} {L L':Zb} {a:Option Addr} {xs:List α} (h:Rd enc sz L a xs) (hl:LS L.flatten L'.flatten):Rd enc sz L' a xs:=h.mono fun _ _ hb=>hl.mem hb
theorem WdIn.sp {L L':Zb} {G:WdG} {M:Wm} (h:WdIn L G M) (hl:LS L.flatten L'.flatten):WdIn L' G M:=by
 obtain ⟨h1,⟨a2,c2,e2,r2⟩,⟨a3,c3,e3,r3⟩,⟨a4,c4,e4,r4⟩,h5⟩:=h
 exact ⟨hl.mem h1,⟨a2,c2,e2,r2.ls hl⟩,⟨a3,c3,e3,r3.ls hl⟩,⟨a4,c4,e4,r4.ls hl⟩,h5⟩
set_option maxHeartbeats 2000000 attribute [local irreducible] HW HO HQ HD HC QOp Has Upd Zo Gets Ye Z6 Zq X0 Z5 Zj X7 Zw
attribute [local irreducible] X6 Z2 Yo Z3 Y5 Zv
theorem Xj {ρ:Zr} {L:Zb} {ty:TypeId} {pos:String} {af:Array Edge} {d:Option Tmp} {g:Option (Nat × Bool)} {r:Nat} {x y:Operand} {es:List MapEntry} {ck:Nat} {f:Int × Int→Bool} {a b:Int} {v:Bool} (h00:Y6 ρ=true:=by exact rfl) (hx:ev ρ x=some (.map (some r)):=by exact rfl) (hy:ev ρ y=some (.agg ⟨[iv a,iv b]⟩):=by exact rfl)
  (hb:Has L r (.map ⟨es⟩ ck):=by (repeat (first|assumption|exact Zh|exact Yi (by assumption)|apply Xq|apply Zc))) (hF:Zw pk es f:=by assumption) (hv:f (a,b)=v:=by assumption) :
  QOp Tryz.prog ⟨d,.lookup 107 x y false,ty,pos,af,g⟩ ρ L (.bool v):=hv▸qmP h00 hx hy (hb:=hb) (hF:=hF)
set_option maxHeartbeats 1000000 in
theorem Zaq (T:Nat) (E:Nat→Addr) (G:WdG) (M:Wm) (k:Int) (L:Zb) (hG:Er T E [2,3,4,5,6] L) (hW:WdOk G M) (hM:WI M) (hl:M.l.length≤99999999) :
  HC Tryz.prog 23 [pt G.wp 0,iv k] (Yl G M++L) (fun v L'=>v=eV T E (Yc M k).2∧Zdp G (Yc M k).1 L L'):=by
 unfold Yc
 have hself:=We hW L
 have hI:=Ui hW L
 have ka:=Za3 T E G M k _ (Xp hG.sub G M) hI
 cases he:Zsj M k with
 | some e =>
  simp only [he] at ka ⊢
  generalize Yl G M++L=H at *
  refine Za (fun _ _=>Tryz.call23 _ _) Tryz.func23 rfl Tryz.ntmps23 (Nat.le_of_ble_eq_true rfl) ?_;simp only [Ze,Nat.reduceAdd]
  repeat' (first|refine uN ?_|refine Yd S ?_|refine Yu S ?_|refine uC (ka) ?_|refine Yy (fun _=>ka) ?_|refine Yz (fun _=>ka) ?_|refine Y0 (fun _=>ka) ?_|refine Y1 (fun _=>ka) ?_|refine Vb Xj ?_|refine Zc9 Xj ?_|refine Zgw 100 (by exact rfl) (fun _=>Xj) ?_|(refine uB ?_;intro b)|(refine uP ?_ ?_<;>(intro h;((try simp only [zs,zq,reduceCtorEq] at h);try exact zx)))|refine da 101 ?_|fail)
  exact Uu rfl ⟨rfl,hself⟩
 | none =>
  simp only [he] at ka ⊢
  clear hself
  have hk:0≤k∧k<M.l.length:=by
   unfold Zsj at he
   split at he
   ·cases he
   ·omega
  obtain ⟨hk0,hk1⟩:=hk
  have hgk:M.l[k.toNat]'(by omega)=M.l.getD k.toNat W1:=by
   rw [List.getD,List.getElem?_eq_getElem (by omega)];rfl
  obtain ⟨hbad,hto,hfr⟩:=hM.fr (M.l.getD k.toNat W1) (by rw [← hgk];exact List.getElem_mem _)
  have hM1:=hM.erase k.toNat
  have hW1 : ∀ lv lc,Xs lv (M.l.eraseIdx k.toNat) lc→WdOk { G with lv:=lv,lc:=lc } { M with l:=M.l.eraseIdx k.toNat }:=fun lv lc hv=>hW.setL hv
  have kd:=fun L=>Zca G.lv M.l G.lc k (k+1) L hW.l (by omega) (by omega) (by omega) rfl
  obtain ⟨a5,cap5,he5,-,hR5⟩:=hW.l.rd Zs
  have hR6:=(hR5 []).mono (L':=G.lc::[]) fun b o hb=>by
   simp only [Has,List.flatten_cons,List.flatten_nil,List.append_nil] at hb ⊢
   simp [hb]
  obtain ⟨b5,i5,l5,F5,fr5,e6,hb5,hg5⟩:=hR6.at (j:=k) (by omega) (by omega)
  have hb5' : ∀ H,Has (G.lc::H) b5 (.cells ⟨l5⟩ F5 fr5):=fun H=>by
   simp only [Has,List.flatten_cons,List.flatten_nil,List.append_nil] at hb5
   exact Yi hb5
  rw [hgk] at hg5
  rw [e6] at he5
  clear hR5 hR6 e6 hb5
  have hn0:0≤(M.l.getD k.toNat W1).to:=by unfold Wq at hbad;omega
  have hn1:(M.l.getD k.toNat W1).to<M.n.length:=by rw [hM.wn];exact hto
  have hd0:0≤(M.l.getD k.toNat W1).dl∧(M.l.getD k.toNat W1).dl<6:=by unfold Wq at hbad;omega
  have hnp:=Zcm hW hn0 hn1 (H:=G.nc::[]) (fun b o hb=>Yi hb)
  have hN:=Zqd hW.ndl hn0 hn1 L
  have hF:=hW.br
  obtain ⟨⟨nb,ni,nl,nF,nfr,ncap,e7,hnb,hng⟩,-,-⟩:=hnp
  have hnb' : ∀ H,Has (G.nc::H) nb (.cells ⟨nl⟩ nF nfr):=fun H=>by
   simp only [Has,List.flatten_cons,List.flatten_nil,List.append_nil] at hnb
   exact Yi hnb
  clear hnb
  have e8 : ∀ l,(Zf { M with l:=l } (M.l.getD k.toNat W1).to)=Zf M (M.l.getD k.toNat W1).to:=fun l=>rfl
  rw [e8]
  have hni:=Qa hM hn0 hn1
  have hok:=Wp hW hn0 hn1
  generalize hf:M.l.getD k.toNat W1=f at *
  have hcl : ∀ lv lc,Xs lv (M.l.eraseIdx k.toNat) lc→Zdp G { M with l:=M.l.eraseIdx k.toNat } L (Yl { G with lv:=lv,lc:=lc } { M with l:=M.l.eraseIdx k.toNat }++L):=fun lv lc hv=>Zev (hW1 lv lc hv) rfl rfl
  have hsc:(Zf M f.to).site=none ∨ ∃ q,(Zf M f.to).site=some q:=by
   cases (Zf M f.to).site with
   | none=>exact .inl rfl
   | some q=>exact .inr ⟨q,rfl⟩
  rcases hsc with hs|⟨q,hs⟩
  ·rw [if_pos (.inl (by rw [hs];rfl))]
   obtain ⟨ffr,fto,fdl,fkd,fatt,fys,fs⟩:=f
   simp only at hbad hto hfr hg5 hng hn0 hn1 hN hs ⊢
   unfold Qb at hN
   rw [hs] at hN
   have g0:(X6 (.pointer none) (Zg G fto).bp (Yj (Zg G fto) (Zf M fto)) (Zf M fto).done)[0+0]? = some (.pointer none):=Xe rfl
   simp only [Yl,Zc0,Ur,List.cons_append,List.nil_append] at hcl ka ⊢
   rw [e7,he5] at ka ⊢
   rw [e7] at hcl
   rw [he5] at kd
   have hb5a:=hb5' (G.ec::Vi G.nd M.n 0::L)
   have hnba:=hnb' ([(G.mb,.map ⟨G.es⟩ G.ck)]::G.ec::Vi G.nd M.n 0::L)
   refine Za (fun _ _=>Tryz.call23 _ _) Tryz.func23 rfl Tryz.ntmps23 (Nat.le_of_ble_eq_true rfl) ?_;simp only [Ze,Nat.reduceAdd]
   repeat' (first|refine uN ?_|refine Yd S ?_|refine Yu S ?_|refine uC (ka) ?_|refine Yy (fun _=>ka) ?_|refine Yz (fun _=>ka) ?_|refine Y0 (fun _=>ka) ?_|refine Y1 (fun _=>ka) ?_|refine Vb Xj ?_|refine Zc9 Xj ?_|refine Zgw 100 (by exact rfl) (fun _=>Xj) ?_|(refine uB ?_;intro b)|(refine uP ?_ ?_<;>(intro h;((try simp only [zs,zq,reduceCtorEq] at h);try exact zx)))|refine da 101 ?_|fail)
   refine fo 5 ?_
   refine gc (kd _) ?_
   rintro v L' ⟨c',hv',rfl⟩
   obtain ⟨a6,cap6,rfl,-,-⟩:=hv'.rd Zs
   repeat' (first|refine uN ?_|refine Yd S ?_|refine Yu S ?_|refine uC (ka) ?_|refine Yy (fun _=>ka) ?_|refine Yz (fun _=>ka) ?_|refine Y0 (fun _=>ka) ?_|refine Y1 (fun _=>ka) ?_|refine Vb Xj ?_|refine Zc9 Xj ?_|refine Zgw 100 (by exact rfl) (fun _=>Xj) ?_|(refine uB ?_;intro b)|(refine uP ?_ ?_<;>(intro h;((try simp only [zs,zq,reduceCtorEq] at h);try exact zx)))|refine da 101 ?_|fail)
   all_goals exact Xn uL ⟨rfl,hcl _ c' hv'⟩
  ·obtain ⟨j,ref⟩:=q
   have hbr0 : ∀ b,M.br (Zpp f)=b→M.br (min f.fr f.to,max f.fr f.to)=b:=fun b h=>h
   obtain ⟨dn,hdn⟩:=Int.eq_ofNat_of_zero_le hd0.1
   have hd6:dn<6:=by omega
   have g0:(X6 (pt (Zg G f.to).sp 0) (Zg G f.to).bp (Yj (Zg G f.to) (Zf M f.to)) (Zf M f.to).done)[0+0]? = some (pt (Zg G f.to).sp 0):=Xe rfl
   have hm1:(Zf M f.to).leads[dn]? = some ((Zf M f.to).leads.getD dn none):=getD_some (by rw [hni.leads];exact hd6)
   obtain ⟨q,hq⟩ : ∃ q,(Zg G f.to).ld[dn]? = some q:=⟨_,List.getElem?_eq_getElem (by rw [hok.ld];exact hd6)⟩
   have hv:=Zax hm1 hq
   have gL:=Zag (sv:=pt (Zg G f.to).sp 0) (bp:=(Zg G f.to).bp) (dn:=(Zf M f.to).done) hv
   have hNv:Qb (Zg G f.to) (Zf M f.to) = .cells ⟨X6 (pt (Zg G f.to).sp 0) (Zg G f.to).bp (Yj (Zg G f.to) (Zf M f.to)) (Zf M f.to).done⟩ 122:=by unfold Qb;rw [hs];rfl
   by_cases hbr:M.br (Zpp f)=true
   ·rw [if_pos (.inr hbr)]
    have hbr':=hbr0 _ hbr
    rw [hNv] at hN
    obtain ⟨ffr,fto,fdl,fkd,fatt,fys,fs⟩:=f
    simp only at hbad hto hfr hg5 hng hn0 hn1 hN hs hbr' g0 ⊢
    simp only [Yl,Zc0,Ur,List.cons_append,List.nil_append] at hcl ka ⊢
    rw [e7,he5] at ka ⊢
    rw [e7] at hcl
    rw [he5] at kd
    have hb5a:=hb5' (G.ec::Vi G.nd M.n 0::L)
    have hnba:=hnb' ([(G.mb,.map ⟨G.es⟩ G.ck)]::G.ec::Vi G.nd M.n 0::L)
    refine Za (fun _ _=>Tryz.call23 _ _) Tryz.func23 rfl Tryz.ntmps23 (Nat.le_of_ble_eq_true rfl) ?_;simp only [Ze,Nat.reduceAdd]
    repeat' (first|refine uN ?_|refine Yd S ?_|refine Yu S ?_|refine uC (ka) ?_|refine Yy (fun _=>ka) ?_|refine Yz (fun _=>ka) ?_|refine Y0 (fun _=>ka) ?_|refine Y1 (fun _=>ka) ?_|refine Vb Xj ?_|refine Zc9 Xj ?_|refine Zgw 100 (by exact rfl) (fun _=>Xj) ?_|(refine uB ?_;intro b)|(refine uP ?_ ?_<;>(intro h;((try simp only [zs,zq,reduceCtorEq] at h);try exact zx)))|refine da 101 ?_|fail)
    refine fo 5 ?_
    refine gc (kd _) ?_
    rintro v L' ⟨c',hv',rfl⟩
    obtain ⟨a6,cap6,rfl,-,-⟩:=hv'.rd Zs
    repeat' (first|refine uN ?_|refine Yd S ?_|refine Yu S ?_|refine uC (ka) ?_|refine Yy (fun _=>ka) ?_|refine Yz (fun _=>ka) ?_|refine Y0 (fun _=>ka) ?_|refine Y1 (fun _=>ka) ?_|refine Vb Xj ?_|refine Zc9 Xj ?_|refine Zgw 100 (by exact rfl) (fun _=>Xj) ?_|(refine uB ?_;intro b)|(refine uP ?_ ?_<;>(intro h;((try simp only [zs,zq,reduceCtorEq] at h);try exact zx)))|refine da 101 ?_|fail)
    all_goals exact Xn uL ⟨rfl,hcl _ c' hv'⟩
   ·have hbrf:M.br (Zpp f)=false:=by simpa using hbr
    rw [if_neg (by simp [hbrf,hs])]
    have hbr':=hbr0 _ hbrf
    by_cases hkd:f.kd=2∨f.kd=4∨f.kd=6
    ·rw [if_pos hkd]
     rw [show f.dl.toNat=dn by omega]
     cases hx:(Zf M f.to).leads.getD dn none with
     | none =>
      simp only
      rw [hx] at gL
      simp only [Zpm] at gL
      rw [hNv] at hN
      obtain ⟨ffr,fto,fdl,fkd,fatt,fys,fs⟩:=f
      simp only at hbad hto hfr hg5 hng hn0 hn1 hN hs hbr' g0 gL hkd hdn ⊢
      subst hdn
      simp only [Yl,Zc0,Ur,List.cons_append,List.nil_append] at hcl ka ⊢
      rw [e7,he5] at ka ⊢
      rw [e7] at hcl
      rw [he5] at kd
      have hb5a:=hb5' (G.ec::Vi G.nd M.n 0::L)
      have hnba:=hnb' ([(G.mb,.map ⟨G.es⟩ G.ck)]::G.ec::Vi G.nd M.n 0::L)
      refine Za (fun _ _=>Tryz.call23 _ _) Tryz.func23 rfl Tryz.ntmps23 (Nat.le_of_ble_eq_true rfl) ?_;simp only [Ze,Nat.reduceAdd]
      repeat' (first|refine uN ?_|refine Yd S ?_|refine Yu S ?_|refine uC (ka) ?_|refine Yy (fun _=>ka) ?_|refine Yz (fun _=>ka) ?_|refine Y0 (fun _=>ka) ?_|refine Y1 (fun _=>ka) ?_|refine Vb Xj ?_|refine Zc9 Xj ?_|refine Zgw 100 (by exact rfl) (fun _=>Xj) ?_|(refine uB ?_;intro b)|(refine uP ?_ ?_<;>(intro h;((try simp only [zs,zq,reduceCtorEq] at h);try exact zx)))|refine da 101 ?_|fail)
      refine fo 5 ?_
      refine gc (kd _) ?_
      rintro v L' ⟨c',hv',rfl⟩
      obtain ⟨a6,cap6,rfl,-,-⟩:=hv'.rd Zs
      repeat' (first|refine uN ?_|refine Yd S ?_|refine Yu S ?_|refine uC (ka) ?_|refine Yy (fun _=>ka) ?_|refine Yz (fun _=>ka) ?_|refine Y0 (fun _=>ka) ?_|refine Y1 (fun _=>ka) ?_|refine Vb Xj ?_|refine Zc9 Xj ?_|refine Zgw 100 (by exact rfl) (fun _=>Xj) ?_|(refine uB ?_;intro b)|(refine uP ?_ ?_<;>(intro h;((try simp only [zs,zq,reduceCtorEq] at h);try exact zx)))|refine da 101 ?_|fail)
      all_goals exact Xn uL ⟨rfl,hcl _ c' hv'⟩
     | some x =>
      simp only
      rw [hx] at hm1 gL hv
      simp only [Zpm] at gL hv
      have hLI:=hni.ldi dn x hm1
      have hLO:=hok.lok dn x hm1 q hq
      have hhd:x.heard<2 ^ x.w.length:=by rw [hLI.ww];exact hLI.heard
      have hLs:LdIs M.w x.id x.deal x.att x:=⟨rfl,rfl,rfl,hLI.ww,hLI.told,hLI.heard⟩
      have hLh:=hLs.hear f
      have hLO':=hLs.ok hLh hLO
      have hhl:=Zce x f
      have hwl:=hM.wl
      rw [hLI.ww] at hhl
      refine HC.node (M':={ Xb { M with l:=M.l.eraseIdx k.toNat } f.to { Zf M f.to with leads:=(Zf M f.to).leads.set dn (some (Yf x f).1) } with l:=M.l.eraseIdx k.toNat++(Yf x f).2 }) hW hn0 hn1 ?_
      obtain ⟨A,B,eA,eB⟩:=Zfm hm1 hq
      have eB':=eB (some (Yf x f).1) q { Zf M f.to with leads:=(Zf M f.to).leads.set dn (some (Yf x f).1) } (Zg G f.to) rfl (Zaj hq).symm
      have eV':Yj (Zg G f.to) { Zf M f.to with leads:=(Zf M f.to).leads.set dn (some (Yf x f).1) }=Yj (Zg G f.to) (Zf M f.to):=by
       rw [Zfl (g:=Zg G f.to) (m:=Zf M f.to) (o':=some (Yf x f).1) (q':=q) rfl (Zaj hq).symm]
       exact Zaj hv
      have hokD:=hok.hear hq hLO'
      have hls : ∀ X,LS (Xh G f.to (Zg G f.to) (Zf M f.to) X L).flatten ([(G.wp,Ur G)]::G.ec::[((Zg G f.to).np,.cells ⟨X6 (pt (Zg G f.to).sp 0) (Zg G f.to).bp (Yj (Zg G f.to) (Zf M f.to)) (Zf M f.to).done⟩ 122)]::Zek (Zg G f.to).sp (Zg G f.to).bj (Zg G f.to).mb f.to::Zeq (Zg G f.to).mb (Zg G f.to).es (Zg G f.to).ck::Yo (Zg G f.to).bp (Zg G f.to).ba (Zf M f.to).pl::jC (Zg G f.to).bj (Zg G f.to).bp j::Vs q.1 q.2.1 q.2.2 x::A::B::G.lc::G.wc::G.nc::[(G.mb,.map ⟨G.es⟩ G.ck)]::X::L).flatten:=fun X=>by
       simp only [Xh,Q1,hNv,hs,Zh6,Zh5,Zh4]
       rw [eA]
       iterate 7 refine LS.k ?_
       exact ls_mid'
      have kat:=Za3 T E G M k _ (errs_ls (Ziv hG.sub G f.to (Zg G f.to) (Zf M f.to) (X9 G.nd M.n 0 f.to.toNat)) (hls _)) ((Zjx hW f.to _ _ _ L).sp (hls _))
      rw [he] at kat
      clear hls
      have kh:=fun L hG=>Zff T E q.1 q.2.1 q.2.2 x f L hG hLO hhd
      generalize X9 G.nd M.n 0 f.to.toNat=X at *
      simp only [Ur] at kat
      simp only [Xh,Q1,hNv,hs,Zd9,Zh6,Zh5,Zh4,Ur]
      rw [eA]
      rw [e7,he5] at kat ⊢
      rw [he5] at kd
      generalize hmm:Zf M f.to=m at *
      generalize Zg G f.to=g at *
      have hokD2:NdOk g ⟨m.pl,some (j,ref),m.leads.set dn (some (Yf x f).1),m.done⟩:=by
       have:=hokD
       rw [hs] at this
       exact this
      have eB2:=eB (some (Yf x f).1) q ⟨m.pl,some (j,ref),m.leads.set dn (some (Yf x f).1),m.done⟩ g rfl (Zaj hq).symm
      have eV2:Yj g ⟨m.pl,some (j,ref),m.leads.set dn (some (Yf x f).1),m.done⟩=Yj g m:=eV'
      obtain ⟨ffr,fto,fdl,fkd,fatt,fys,fs⟩:=f
      simp only at hbad hto hfr hg5 hng hn0 hn1 hs hbr' g0 gL hkd hdn kh hhl hLO' hLh eB2 eV2 hokD2 kat ⊢
      clear eB' eV' hokD
      subst hdn
      have hb5a:=hb5' (G.wc::G.nc::[(G.mb,.map ⟨G.es⟩ G.ck)]::X::L)
      have hnba:=hnb' ([(G.mb,.map ⟨G.es⟩ G.ck)]::X::L)
      refine HC.sp (L':=[(G.wp,.cells ⟨[G.wv,sl nb ni M.n.length ncap,.map (some G.mb),sl b5 i5 M.l.length cap5,G.ev]⟩ 110)]::G.ec::[(g.np,.cells ⟨X6 (pt g.sp 0) g.bp (Yj g m) m.done⟩ 122)]::Zek g.sp g.bj g.mb fto::Zeq g.mb g.es g.ck::Yo g.bp g.ba m.pl::jC g.bj g.bp j::Vs q.1 q.2.1 q.2.2 x::A::B::G.lc::G.wc::G.nc::[(G.mb,.map ⟨G.es⟩ G.ck)]::X::L) ?_ ?_
      ·refine Za (fun _ _=>Tryz.call23 _ _) Tryz.func23 rfl Tryz.ntmps23 (Nat.le_of_ble_eq_true rfl) ?_;simp only [Ze,Nat.reduceAdd]
       repeat' (first|refine uN ?_|refine Yd S ?_|refine Yu S ?_|refine uC (kat) ?_|refine Yy (fun _=>kat) ?_|refine Yz (fun _=>kat) ?_|refine Y0 (fun _=>kat) ?_|refine Y1 (fun _=>kat) ?_|refine Vb Xj ?_|refine Zc9 Xj ?_|refine Zgw 100 (by exact rfl) (fun _=>Xj) ?_|(refine uB ?_;intro b)|(refine uP ?_ ?_<;>(intro h;((try simp only [zs,zq,reduceCtorEq] at h);try exact zx)))|refine da 101 ?_|fail)
       refine fo 11 ?_
       refine gc (kd _) ?_
       rintro v L' ⟨c',hv',rfl⟩
       obtain ⟨a6,cap6,rfl,-,-⟩:=hv'.rd Zs
       repeat' (first|refine uN ?_|refine Yd S ?_|refine Yu S ?_|refine uC (kat) ?_|refine Yy (fun _=>kat) ?_|refine Yz (fun _=>kat) ?_|refine Y0 (fun _=>kat) ?_|refine Y1 (fun _=>kat) ?_|refine Vb Xj ?_|refine Zc9 Xj ?_|refine Zgw 100 (by exact rfl) (fun _=>Xj) ?_|(refine uB ?_;intro b)|(refine uP ?_ ?_<;>(intro h;((try simp only [zs,zq,reduceCtorEq] at h);try exact zx)))|refine da 101 ?_|fail)
       all_goals refine fo 9 ?_
       all_goals refine gc (kh _ (by repeat (first|exact hG|exact hG.sub|apply Errs.cons))) ?_
       all_goals rintro v L' ⟨c2,hv2,rfl⟩
       all_goals obtain ⟨a7,cap7,rfl,-,hR7⟩:=hv2.rd Zs
       all_goals repeat' (first|refine uN ?_|refine Yd S ?_|refine Yu S ?_|refine uC (kat) ?_|refine Yy (fun _=>kat) ?_|refine Yz (fun _=>kat) ?_|refine Y0 (fun _=>kat) ?_|refine Y1 (fun _=>kat) ?_|refine Vb Xj ?_|refine Zc9 Xj ?_|refine Zgw 100 (by exact rfl) (fun _=>Xj) ?_|(refine uB ?_;intro b)|(refine uP ?_ ?_<;>(intro h;((try simp only [zs,zq,reduceCtorEq] at h);try exact zx)))|refine da 101 ?_|fail)
       all_goals refine fo 2 ?_
       all_goals refine wpA S hv' (Rd.cons (hR7 _) _) Zs Uv ?_ (hby:=by simp only [List.length_eraseIdx];split<;>omega) (hmax:=by simp only [List.length_eraseIdx];split<;>omega)
       all_goals intro v'' c'' hv''
       all_goals obtain ⟨a8,cap8,rfl,-,-⟩:=hv''.rd Zs
       all_goals repeat' (first|refine uN ?_|refine Yd S ?_|refine Yu S ?_|refine uC (kat) ?_|refine Yy (fun _=>kat) ?_|refine Yz (fun _=>kat) ?_|refine Y0 (fun _=>kat) ?_|refine Y1 (fun _=>kat) ?_|refine Vb Xj ?_|refine Zc9 Xj ?_|refine Zgw 100 (by exact rfl) (fun _=>Xj) ?_|(refine uB ?_;intro b)|(refine uP ?_ ?_<;>(intro h;((try simp only [zs,zq,reduceCtorEq] at h);try exact zx)))|refine da 101 ?_|fail)
       all_goals refine Xn (L':=Xh { G with lv := .slice a8 (M.l.eraseIdx k.toNat++(Yf x ⟨ffr,fto,dn,fkd,fatt,fys,fs⟩).2).length cap8,lc:=c'' } fto g ⟨m.pl,some (j,ref),m.leads.set dn (some (Yf x ⟨ffr,fto,dn,fkd,fatt,fys,fs⟩).1),m.done⟩ X L) ?_ ⟨rfl,{ G with lv := .slice a8 (M.l.eraseIdx k.toNat++(Yf x ⟨ffr,fto,dn,fkd,fatt,fys,fs⟩).2).length cap8,lc:=c'' },{ M with l:=M.l.eraseIdx k.toNat++(Yf x ⟨ffr,fto,dn,fkd,fatt,fys,fs⟩).2 },g,⟨m.pl,some (j,ref),m.leads.set dn (some (Yf x ⟨ffr,fto,dn,fkd,fatt,fys,fs⟩).1),m.done⟩,hW.setL hv'',rfl,rfl,rfl,hokD2,rfl,rfl,rfl⟩
       all_goals simp only [Xh,Q1,Qb,Zd9,Zh6,Zh5,Zh4,Ur,eV2]
       all_goals rw [eB2,e7]
       all_goals simp only [ldB,Vs]
       all_goals exact LS.trans ls7 uL
      ·iterate 7 refine LS.k ?_
       exact ls_mid
    ·rw [if_neg hkd]
     have kh:=fun lv lc hv L hG=>Zc1 T E { G with lv:=lv,lc:=lc } { M with l:=M.l.eraseIdx k.toNat } f.to f L hG (hW1 lv lc hv) hM1 hn0 hn1 (by rw [e8,hs];simp)
     have hhl:=Zho { M with l:=M.l.eraseIdx k.toNat } f.to f
     have hml:(Y3 { M with l:=M.l.eraseIdx k.toNat } f.to f).1.l=M.l.eraseIdx k.toNat:=rfl
     rw [hNv] at hN
     obtain ⟨ffr,fto,fdl,fkd,fatt,fys,fs⟩:=f
     simp only at hbad hto hfr hg5 hng hn0 hn1 hN hs hbr' g0 hkd kh hhl hml ⊢
     clear hdn
     generalize Y3 { M with l:=M.l.eraseIdx k.toNat } fto ⟨ffr,fto,fdl,fkd,fatt,fys,fs⟩=R at *
     simp only [Yl,Zc0,Ur,List.cons_append,List.nil_append] at ka ⊢
     rw [e7,he5] at ka ⊢
     rw [he5] at kd
     have hb5a:=hb5' (G.ec::Vi G.nd M.n 0::L)
     have hnba:=hnb' ([(G.mb,.map ⟨G.es⟩ G.ck)]::G.ec::Vi G.nd M.n 0::L)
     refine Za (fun _ _=>Tryz.call23 _ _) Tryz.func23 rfl Tryz.ntmps23 (Nat.le_of_ble_eq_true rfl) ?_;simp only [Ze,Nat.reduceAdd]
     repeat' (first|refine uN ?_|refine Yd S ?_|refine Yu S ?_|refine uC (ka) ?_|refine Yy (fun _=>ka) ?_|refine Yz (fun _=>ka) ?_|refine Y0 (fun _=>ka) ?_|refine Y1 (fun _=>ka) ?_|refine Vb Xj ?_|refine Zc9 Xj ?_|refine Zgw 100 (by exact rfl) (fun _=>Xj) ?_|(refine uB ?_;intro b)|(refine uP ?_ ?_<;>(intro h;((try simp only [zs,zq,reduceCtorEq] at h);try exact zx)))|refine da 101 ?_|fail)
     refine fo 5 ?_
     refine gc (kd _) ?_
     rintro v L' ⟨c',hv',rfl⟩
     obtain ⟨a6,cap6,rfl,-,-⟩:=hv'.rd Zs
     repeat' (first|refine uN ?_|refine Yd S ?_|refine Yu S ?_|refine uC (ka) ?_|refine Yy (fun _=>ka) ?_|refine Yz (fun _=>ka) ?_|refine Y0 (fun _=>ka) ?_|refine Y1 (fun _=>ka) ?_|refine Vb Xj ?_|refine Zc9 Xj ?_|refine Zgw 100 (by exact rfl) (fun _=>Xj) ?_|(refine uB ?_;intro b)|(refine uP ?_ ?_<;>(intro h;((try simp only [zs,zq,reduceCtorEq] at h);try exact zx)))|refine da 101 ?_|fail)
     refine Zcf (L':=Yl { G with lv := .slice a6 (M.l.eraseIdx k.toNat).length cap6,lc:=c' } { M with l:=M.l.eraseIdx k.toNat }++L) ?_ ?_
     ·refine gc (kh _ _ hv' _ (by repeat (first|exact hG|exact hG.sub|apply Errs.cons))) ?_
      rintro v L' ⟨c2,⟨fv,hfv,rfl⟩,G2,e1,e2,hW2,rfl⟩
      obtain ⟨a7,cap7,rfl,-,hR7⟩:=hfv.rd Zs
      obtain ⟨a8,cap8,he8,-,-⟩:=hW2.l.rd Zs
      have hv2:=hW2.l
      rw [hml] at hv2 he8
      have hcl2 : ∀ lv lc,Xs lv (M.l.eraseIdx k.toNat++R.2.1) lc→Zdp G { R.1 with l:=M.l.eraseIdx k.toNat++R.2.1 } L (Yl { G2 with lv:=lv,lc:=lc } { R.1 with l:=M.l.eraseIdx k.toNat++R.2.1 }++L):=fun lv lc hv=>⟨{ G2 with lv:=lv,lc:=lc },e1,e2,hW2.setL hv,rfl⟩
      simp only [Yl,Zc0,Ur,List.cons_append,List.nil_append,e1] at hcl2 ⊢
      rw [he8] at hv2 ⊢
      repeat' (first|refine uN ?_|refine Yd S ?_|refine Yu S ?_|refine uC (ka) ?_|refine Yy (fun _=>ka) ?_|refine Yz (fun _=>ka) ?_|refine Y0 (fun _=>ka) ?_|refine Y1 (fun _=>ka) ?_|refine Vb Xj ?_|refine Zc9 Xj ?_|refine Zgw 100 (by exact rfl) (fun _=>Xj) ?_|(refine uB ?_;intro b)|(refine uP ?_ ?_<;>(intro h;((try simp only [zs,zq,reduceCtorEq] at h);try exact zx)))|refine da 101 ?_|fail)
      refine fo 4 ?_
      refine wpA S hv2 (Rd.cons ((hR7 []).mono fun b o hb=>?_) _) Zs Uv ?_ (hby:=by simp only [List.length_eraseIdx];split<;>omega) (hmax:=by simp only [List.length_eraseIdx];split<;>omega)
      ·exact Zc (Zc (Zc (Zc (Zc (Zc (Yi (by simpa [Has] using hb)))))))
      intro v'' c'' hv''
      obtain ⟨a9,cap9,rfl,-,-⟩:=hv''.rd Zs
      repeat' (first|refine uN ?_|refine Yd S ?_|refine Yu S ?_|refine uC (ka) ?_|refine Yy (fun _=>ka) ?_|refine Yz (fun _=>ka) ?_|refine Y0 (fun _=>ka) ?_|refine Y1 (fun _=>ka) ?_|refine Vb Xj ?_|refine Zc9 Xj ?_|refine Zgw 100 (by exact rfl) (fun _=>Xj) ?_|(refine uB ?_;intro b)|(refine uP ?_ ?_<;>(intro h;((try simp only [zs,zq,reduceCtorEq] at h);try exact zx)))|refine da 101 ?_|fail)
      exact Xn uL ⟨rfl,hcl2 _ c'' hv''⟩
     ·simp only [Yl,Zc0,Ur,List.cons_append,List.nil_append,e7]
      exact uL
end Go.HL
end

/-! WoT -/
section
namespace Go.HL
open Go Go.Proofs
theorem Zmn {G G':WdG} {M M1:Wm} {s:Int} {g':NdG} {m':Nd} (L:Zb) (hl:G.nd.length=M.n.length) (h0:0≤s) (h1:s<M.n.length) (hW:WdOk G' M1) (e1:G'.nd=G.nd) (e2:M1.n=M.n) (e3:G'.wp=G.wp) (hN:NdOk g' m') (e4:g'.np=(Zg G s).np) :
  ∃ L',Zdp G (Xb M1 s m') L L'∧LS L'.flatten (Xh G' s g' m' (X9 G.nd M.n 0 s.toNat) L).flatten:=by
 have hnp:g'.np=(Zg G' s).np:=by rw [e4];unfold Zg;rw [e1]
 refine ⟨Yl { G' with nd:=G'.nd.set s.toNat g' } (Xb M1 s m')++L,⟨{ G' with nd:=G'.nd.set s.toNat g' },e3,?_,hW.put h0 (by rw [e2];exact h1) hN hnp,rfl⟩,?_⟩
 ·simp only
  rw [← e1]
  exact Zjf h0 (by rw [e1];omega) hnp
 ·simp only [Yl,Xb,e1,e2]
  exact Zgr (G:=G') h0 (by omega) (by omega) L
theorem LS.cutAt {a A x B:List Zm} {L L1:Zb} (k0:Nat) (h:LS a (A::B::L1).flatten) (hp:Qy k0 L=some (A++(x++B),L1):=by exact rfl):LS a L.flatten:=by
 refine LS.trans h (LS.trans ?_ (LS.of_perm (Xw hp).symm.flatten))
 simp only [List.flatten_cons,List.append_assoc]
 exact LS.boths A (LS.skips x (LS.refl _))
theorem Zgj (m:Ld):(Xx m).length≤m.w.length:=by
 unfold Xx
 split<;>exact Vn _ (Zel m _ _) _
theorem Zfn {M:Wm} (h:WI M) {s d a:Int} (h0:0≤s) (h1:s<M.n.length) (hd:0≤d∧d<6) (ha:a≤1048576):Zaf s d M.w a=none:=by
 unfold Zaf
 rw [h.w0]
 have:=h.wn
 simp only
 rw [if_neg (by omega)]
theorem busy_any {M:Wm} {d:Int} {i:Nat} (hi:i<M.n.length) (hb:Ua d (Zf M (i:Int))=true):M.n.any (Ua d)=true:=by
 rw [List.any_eq_true]
 refine ⟨_,?_,hb⟩
 unfold Zf
 simp only [Int.toNat_natCast]
 rw [List.getD,List.getElem?_eq_getElem hi]
 exact List.getElem_mem _
theorem Zqq {M:Wm} {d:Int} (h : ∀ i,i<M.n.length→Ua d (Zf M (i:Int))=false):M.n.any (Ua d)=false:=by
 rw [List.any_eq_false]
 intro x hx
 obtain ⟨i,hi,rfl⟩:=List.mem_iff_getElem.1 hx
 have:=h i hi
 unfold Zf at this
 simp only [Int.toNat_natCast] at this
 rw [List.getD,List.getElem?_eq_getElem hi] at this
 simp only [Option.getD_some] at this
 rw [this]
 simp
set_option maxHeartbeats 2000000 attribute [local irreducible] HW HO HQ HD HC QOp Has Upd Zo Gets Ye Z6 Zq X0 Z5 Zj X7 Zw
attribute [local irreducible] X6 Z2 Yo Z3 Y5 Zv
theorem Zjv (T:Nat) (E:Nat→Addr) (G:WdG) (M:Wm) (s d:Int) (L:Zb) (hG:Er T E [2,3,4,6,8] L) (hW:WdOk G M) (hM:WI M) (hl:M.l.length≤99999999) :
  HC Tryz.prog 21 [pt G.wp 0,iv s,iv d] (Yl G M++L) (fun v L'=>v=eV T E (Vg M s d).2∧Zdp G (Vg M s d).1 L L'):=by
 unfold Vg
 have hself:=We hW L
 have hI:=Ui hW L
 have hwn:=hM.wn
 have hwl:=hM.wl
 obtain ⟨an,capn,hnv,hnr⟩:=hI.ns
 by_cases h:d<0∨6≤d∨s<0∨M.n.length≤s
 ·simp only [if_pos h]
  have hG':=Xp hG G M
  have hw:=hI.wp
  unfold Ur at hw
  rw [hnv] at hw
  generalize Yl G M++L=H at *
  refine Za (fun _ _=>Tryz.call21 _ _) Tryz.func21 rfl Tryz.ntmps21 (Nat.le_of_ble_eq_true rfl) ?_;simp only [Ze,Nat.reduceAdd]
  repeat' (first|refine uN ?_|refine Yd S ?_|refine Yu S ?_|(refine uB ?_;intro b)|refine dg S 100 (fun _ _=>?_)|(refine uP ?_ ?_<;>(intro h;((try simp only [zs,zq,reduceCtorEq] at h);try exact zx)))|refine da 101 ?_|fail)
  all_goals exact Uu rfl ⟨rfl,hself⟩
 simp only [if_neg h]
 rcases Zgp (M:=M) (s:=s) with ⟨e,he⟩|⟨he,hn,h0,h1,j,ref,hs⟩
 ·have ku:=Zfj s hG.sub hW
  have hG':=Xp hG G M
  have hw:=hI.wp
  unfold Ur at hw
  rw [hnv] at hw
  generalize Yl G M++L=H at *
  simp only [he] at ku ⊢
  refine Za (fun _ _=>Tryz.call21 _ _) Tryz.func21 rfl Tryz.ntmps21 (Nat.le_of_ble_eq_true rfl) ?_;simp only [Ze,Nat.reduceAdd]
  repeat' (first|refine uN ?_|refine Yd S ?_|refine Yu S ?_|refine uC (ku) ?_|refine Yy (fun _=>ku) ?_|refine Yz (fun _=>ku) ?_|refine Y0 (fun _=>ku) ?_|refine Y1 (fun _=>ku) ?_|(refine uB ?_;intro b)|refine dg S 100 (fun _ _=>?_)|(refine uP ?_ ?_<;>(intro h;((try simp only [zs,zq,reduceCtorEq] at h);try exact zx)))|refine da 101 ?_|fail)
  exact Uu rfl ⟨rfl,hself⟩
 ·simp only [he]
  have ku:=Zfj s hG.sub hW
  have hG':=Xp hG G M
  have hw:=hI.wp
  unfold Ur at hw
  rw [hnv] at hw
  generalize hH:Yl G M++L=H at *
  simp only [he,Zon hn] at ku
  refine Za (fun _ _=>Tryz.call21 _ _) Tryz.func21 rfl Tryz.ntmps21 (Nat.le_of_ble_eq_true rfl) ?_;simp only [Ze,Nat.reduceAdd]
  repeat' (first|refine uN ?_|refine Yd S ?_|refine Yu S ?_|refine uC (ku) ?_|refine Yy (fun _=>ku) ?_|refine Yz (fun _=>ku) ?_|refine Y0 (fun _=>ku) ?_|refine Y1 (fun _=>ku) ?_|(refine uB ?_;intro b)|refine dg S 100 (fun _ _=>?_)|(refine uP ?_ ?_<;>(intro h;((try simp only [zs,zq,reduceCtorEq] at h);try exact zx)))|refine da 101 ?_|fail)
  have hB : ∀ {i:Int} (h0:0≤i) (h1:i<M.n.length) {b:Nat} {o:Obj},(b,o)∈Zfv (Zg G i) i (Zf M i)→Has H b o:=fun {i} h0 h1 {b o} hb=>by
   have:=Zdk hW.ndl h0 h1 hb L
   subst hH
   unfold Has Yl at *
   rw [List.append_assoc,List.flatten_append]
   exact List.mem_append_right _ this
  obtain ⟨dn,rfl⟩:=Int.eq_ofNat_of_zero_le (show 0≤d by omega)
  have hd6:dn<6:=by omega
  refine Zz (σ:=Nat) (fun i=>[(0,pt G.wp 0),(1,iv s),(2,iv dn),(7,pt (Zg G s).np 0),(45,.slice an M.n.length capn),(46,iv M.n.length),(47,iv i)]) (fun _=>H) (fun i=>i≤M.n.length ∧ ∀ k,k<i→Ua dn (Zf M (k:Int))=false) (fun i=>M.n.length-i) 0 uS (List.Sublist.refl _) ⟨by simp,fun k hk=>by omega⟩ ?_
  rintro i ⟨hi,hfree⟩
  by_cases hlt:i<M.n.length
  ·have hBi:=fun {b o}=>hB (i:=(i:Int)) (by omega) (by omega) (b:=b) (o:=o)
   have hni:=Qa hM (s:=(i:Int)) (by omega) (by omega)
   have hok:=Wp hW (s:=(i:Int)) (by omega) (by omega)
   obtain ⟨⟨b,bi,l,F,fr,cap2,e7,hb,hg2⟩,-,-⟩:=Zcm hW (s:=(i:Int)) (by omega) (by omega) (H:=H) (fun b o hb=>by
    subst hH
    simp only [Has,Yl,Zc0,List.flatten_cons,List.cons_append,List.nil_append]
    simp [hb])
   rw [hnv] at e7
   obtain ⟨rfl,-,rfl⟩:=Value.slice.inj e7
   have hNi:Has H (Zg G i).np (Qb (Zg G i) (Zf M i)):=hBi (by simp [Zfv,Q1])
   have kst:=Zc3 T E G M i dn H hG'.sub hI hW.ndl (fun _=>hNi) (fun _=>⟨by rw [hni.b512];omega,by rw [hni.b512];omega,fun p hp=>hBi (by
    unfold Zfv Yo
    simp only [List.mem_cons,List.not_mem_nil,or_false] at hp
    rcases hp with rfl|rfl
    ·simp [plB]
    ·simp [plD])⟩)
   have e1:X8 M i dn=none:=by
    unfold X8
    rw [nodeE_ok (by omega) (by omega)]
    simp only
    rw [if_neg (by omega)]
   have e2:Uj M i dn=Zcq (Zf M i).pl dn:=by unfold Uj;rw [e1]
   rw [e1,e2] at kst
   have hm1:(Zf M i).leads[dn]? = some ((Zf M i).leads.getD dn none):=getD_some (by rw [hni.leads];exact hd6)
   obtain ⟨q,hq⟩ : ∃ q,(Zg G i).ld[dn]? = some q:=⟨_,List.getElem?_eq_getElem (by rw [hok.ld];exact hd6)⟩
   have hv:=Zax hm1 hq
   have gL:=Zag (sv:=Zd9 (Zg G i) (Zf M i).site) (bp:=(Zg G i).bp) (dn:=(Zf M i).done) hv
   have hbz:Ua dn (Zf M i)=(decide (Zcq (Zf M i).pl dn≠W2) || ((Zf M i).leads.getD dn none).isSome):=rfl
   have hbu:=busy_any (M:=M) (d:=dn) hlt
   unfold Qb at hNi
   generalize hmi:Zf M i=m at *
   generalize Zg G i=g at *
   generalize Zcq m.pl dn=st at *
   obtain ⟨ph,pr,att⟩:=st
   cases hx:m.leads.getD dn none with
   | some x =>
    rw [hx] at gL hbz
    simp only [Zpm] at gL
    have hb1:Ua dn m=true:=by rw [hbz];simp
    rw [if_pos (hbu hb1)]
    repeat' (first|refine uN ?_|refine Yd S ?_|refine Yu S ?_|refine uC (kst) ?_|refine Yy (fun _=>kst) ?_|refine Yz (fun _=>kst) ?_|refine Y0 (fun _=>kst) ?_|refine Y1 (fun _=>kst) ?_|(refine uB ?_;intro b)|refine dg S 100 (fun _ _=>?_)|(refine uP ?_ ?_<;>(intro h;((try simp only [zs,zq,reduceCtorEq] at h);try exact zx)))|refine da 101 ?_|fail)
    all_goals exact Xn (LS.c (LS.refl _)) ⟨rfl,hself⟩
   | none =>
    rw [hx] at gL hbz
    simp only [Zpm] at gL
    by_cases hz:ph=0∧pr=0∧att=0
    ·obtain ⟨rfl,rfl,rfl⟩:=hz
     have hb0:Ua dn m=false:=by rw [hbz];rfl
     repeat' (first|refine uN ?_|refine Yd S ?_|refine Yu S ?_|refine uC (kst) ?_|refine Yy (fun _=>kst) ?_|refine Yz (fun _=>kst) ?_|refine Y0 (fun _=>kst) ?_|refine Y1 (fun _=>kst) ?_|(refine uB ?_;intro b)|refine dg S 100 (fun _ _=>?_)|(refine uP ?_ ?_<;>(intro h;((try simp only [zs,zq,reduceCtorEq] at h);try exact zx)))|refine da 101 ?_|fail)
     all_goals refine Zy (i+1) uS (LS.c (LS.refl _)) ⟨by omega,fun k hk=>?_⟩ (by omega)
     all_goals by_cases e:k=i
     all_goals first|(subst e;rw [hmi];exact hb0;done)|exact hfree k (by omega)
    ·have hb1:Ua dn m=true:=by
      rw [hbz,decide_eq_true]
      ·rfl
      ·intro e
       cases e
       exact hz ⟨rfl,rfl,rfl⟩
     rw [if_pos (hbu hb1)]
     repeat' (first|refine uN ?_|refine Yd S ?_|refine Yu S ?_|refine uC (kst) ?_|refine Yy (fun _=>kst) ?_|refine Yz (fun _=>kst) ?_|refine Y0 (fun _=>kst) ?_|refine Y1 (fun _=>kst) ?_|(refine uB ?_;intro b)|refine dg S 100 (fun _ _=>?_)|(refine uP ?_ ?_<;>(intro h;((try simp only [zs,zq,reduceCtorEq] at h);try exact zx)))|refine da 101 ?_|fail)
     all_goals first|exact Xn (LS.c (LS.refl _)) ⟨rfl,hself⟩|(exfalso;simp_all;done)
  ·obtain rfl:i=M.n.length:=by omega
   have hany:M.n.any (Ua (dn:Int))=false:=Zqq hfree
   simp only [hany,Bool.false_eq_true,if_false]
   subst hH
   obtain ⟨aw,capw,hwv,-,hwr⟩:=hW.w.rd Xi
   obtain ⟨al,capl,hlv5,-,hlr⟩:=hW.l.rd Zs
   have hvl:=hW.l
   have hok:=Wp hW h0 h1
   have hni:=Qa hM h0 h1
   have hm1:(Zf M s).leads[dn]? = some ((Zf M s).leads.getD dn none):=getD_some (by rw [hni.leads];exact hd6)
   obtain ⟨q,hq⟩ : ∃ q,(Zg G s).ld[dn]? = some q:=⟨_,List.getElem?_eq_getElem (by rw [hok.ld];exact hd6)⟩
   have hv:=Zax hm1 hq
   obtain ⟨A,B,eA,eB⟩:=Zfm hm1 hq
   have hlE:=Zfn hM (s:=s) (d:=dn) (a:=0) h0 h1 ⟨by omega,by omega⟩ (by omega)
   have kb:=fun L hG hR=>Zkf T E s dn aw capw M.w L hG hR (by omega)
   rw [hlE] at kb
   rw [hlv5] at hvl
   have hsl:=Zgj (Zk s dn M.w 0 2)
   have hslw:(Zk s dn M.w 0 2).w=M.w:=rfl
   rw [hslw] at hsl
   have hsh:=fun G' M1 g' m' a b c d e f=>Zmn (G:=G) (G':=G') (M:=M) (M1:=M1) (s:=s) (g':=g') (m':=m') L hW.ndl h0 h1 a b c d e f
   have hWL:=fun {lv lc l} hv=>hW.setL (lv:=lv) (lc:=lc) (l:=l) hv
   have hlv:(Yj (Zg G s) (Zf M s)).length=6:=by simp [Yj,hni.leads,hok.ld]
   refine Zdx (L':=Xh G s (Zg G s) (Zf M s) (X9 G.nd M.n 0 s.toNat) L) ?_ (Zew hW.ndl h0 h1 L)
   generalize X9 G.nd M.n 0 s.toNat=X at *
   generalize hmm:Zf M s=m at *
   generalize hgg:Zg G s=g at *
   obtain ⟨pl,site,leads,done⟩:=m
   simp only at hs hm1 hlv
   subst hs
   simp only [Xh,Q1,Qb,Zd9,Zh6,Zh5,Zh4,Ur]
   rw [hwv,hnv,hlv5]
   repeat' (first|refine uN ?_|refine Yd S ?_|refine Yu S ?_|refine uC (ku) ?_|refine Yy (fun _=>ku) ?_|refine Yz (fun _=>ku) ?_|refine Y0 (fun _=>ku) ?_|refine Y1 (fun _=>ku) ?_|(refine uB ?_;intro b)|refine dg S 100 (fun _ _=>?_)|(refine uP ?_ ?_<;>(intro h;((try simp only [zs,zq,reduceCtorEq] at h);try exact zx)))|refine da 101 ?_|fail)
   refine Zgw 4 (by exact rfl) (fun _=>qe S) ?_
   refine Zgw 4 (by exact rfl) (fun _=>qe S) ?_
   refine da 101 ?_
   refine gc (kb _ (by repeat (first|exact hG|exact hG.sub|apply Errs.cons)) ?_) ?_
   ·repeat (first|exact hwr _|apply Rd.cons)
   rintro v L' ⟨lp,wv',wc',rfl,hLd,rfl⟩
   have gP:=Zlq (sv:=pt g.sp 0) (bp:=g.bp) (lv:=Yj g ⟨pl,some (j,ref),leads,done⟩) (dn:=done) (d:=dn) (pt lp 0) (by omega)
   have gL2:=Zag (sv:=pt g.sp 0) (bp:=g.bp) (lv:=(Yj g ⟨pl,some (j,ref),leads,done⟩).set dn (pt lp 0)) (dn:=done) (d:=dn) (v:=pt lp 0) (by simp [hlv,hd6])
   have kst:=fun L=>Zea lp wv' wc' (Zk s dn M.w 0 2) L hLd
   repeat' (first|refine uN ?_|refine Yd S ?_|refine Yu S ?_|refine uC (ku) ?_|refine Yy (fun _=>ku) ?_|refine Yz (fun _=>ku) ?_|refine Y0 (fun _=>ku) ?_|refine Y1 (fun _=>ku) ?_|(refine uB ?_;intro b)|refine dg S 100 (fun _ _=>?_)|(refine uP ?_ ?_<;>(intro h;((try simp only [zs,zq,reduceCtorEq] at h);try exact zx)))|refine da 101 ?_|fail)
   refine gc (kst _) ?_
   rintro v L' ⟨c2,hv2,rfl⟩
   obtain ⟨a7,cap7,rfl,-,hR7⟩:=hv2.rd Zs
   repeat' (first|refine uN ?_|refine Yd S ?_|refine Yu S ?_|refine uC (ku) ?_|refine Yy (fun _=>ku) ?_|refine Yz (fun _=>ku) ?_|refine Y0 (fun _=>ku) ?_|refine Y1 (fun _=>ku) ?_|(refine uB ?_;intro b)|refine dg S 100 (fun _ _=>?_)|(refine uP ?_ ?_<;>(intro h;((try simp only [zs,zq,reduceCtorEq] at h);try exact zx)))|refine da 101 ?_|fail)
   refine fo 10 ?_
   refine wpA S hvl (Rd.cons (hR7 _) _) Zs Uv ?_ (hby:=by omega) (hmax:=by omega)
   intro v'' c'' hv''
   obtain ⟨a8,cap8,rfl,-,-⟩:=hv''.rd Zs
   repeat' (first|refine uN ?_|refine Yd S ?_|refine Yu S ?_|refine uC (ku) ?_|refine Yy (fun _=>ku) ?_|refine Yz (fun _=>ku) ?_|refine Y0 (fun _=>ku) ?_|refine Y1 (fun _=>ku) ?_|(refine uB ?_;intro b)|refine dg S 100 (fun _ _=>?_)|(refine uP ?_ ?_<;>(intro h;((try simp only [zs,zq,reduceCtorEq] at h);try exact zx)))|refine da 101 ?_|fail)
   obtain ⟨L2,hw2,hls2⟩:=hsh { G with lv := .slice a8 (M.l++Xx (Zk s dn M.w 0 2)).length cap8,lc:=c'' } { M with l:=M.l++Xx (Zk s dn M.w 0 2) } { g with ld:=g.ld.set dn (lp,wv',wc') } ⟨pl,some (j,ref),leads.set dn (some (Zk s dn M.w 0 2)),done⟩
    (hW.setL hv'') rfl rfl rfl (hok.lead (q:=(lp,wv',wc')) hLd) rfl
   refine Xn (LS.trans hls2 ?_) ⟨rfl,hw2⟩
   have eB2:=eB (some (Zk s dn M.w 0 2)) (lp,wv',wc') ⟨pl,some (j,ref),leads.set dn (some (Zk s dn M.w 0 2)),done⟩ { g with ld:=g.ld.set dn (lp,wv',wc') } rfl rfl
   have eV2:=Zfl (g:=g) (g':={ g with ld:=g.ld.set dn (lp,wv',wc') }) (m:=⟨pl,some (j,ref),leads,done⟩) (m':=⟨pl,some (j,ref),leads.set dn (some (Zk s dn M.w 0 2)),done⟩) (o':=some (Zk s dn M.w 0 2)) (q':=(lp,wv',wc')) rfl rfl
   simp only [Xh,Q1,Qb,Zd9,Zh6,Zh5,Zh4,Ur,eV2]
   rw [eB2,eA,hwv,hnv]
   simp only [ldB,Vs,Zpm]
   refine LS.trans ls7 (LS.cutAt 10 ?_)
   exact uL
end Go.HL
end

/-! WoU -/
section
namespace Go.HL
open Go Go.Proofs
theorem att_step {k s a j:Int} (hk:0<k) (hs0:0≤s) (hs1:s<k) (hj0:0≤j) (hj:j≤(s-a) % k):((a+j) % k=s↔j=(s-a) % k):=by
 have hr0:=Int.emod_nonneg (s-a) (by omega:k≠0)
 have hr1:=Int.emod_lt_of_pos (s-a) hk
 have e1:=Int.emod_add_mul_ediv (s-a) k
 have e2:=Int.emod_add_mul_ediv (a+j) k
 have h0:=Int.emod_nonneg (a+j) (by omega:k≠0)
 have h1:=Int.emod_lt_of_pos (a+j) hk
 generalize (s-a) % k=r at *
 generalize (a+j) % k=t at *
 generalize (s-a) / k=u at *
 generalize (a+j) / k=v at *
 -- s-a=r+k u,a+j=t+k v
 have e3:s-t=(r-j)+k*(u+v):=by rw [Int.mul_add];omega
 constructor
 ·intro h
  subst h
  have:(r-j) = - (k*(u+v)):=by omega
  have hz:u+v=0:=by
   rcases Int.lt_trichotomy (u+v) 0 with h|h|h
   ·have:k*(u+v)≤k*(-1):=Int.mul_le_mul_of_nonneg_left (by omega) (by omega)
    omega
   ·exact h
   ·have:k*1≤k*(u+v):=Int.mul_le_mul_of_nonneg_left (by omega) (by omega)
    omega
  rw [hz] at this
  omega
 ·intro h
  subst h
  have hz:u+v=0:=by
   rcases Int.lt_trichotomy (u+v) 0 with h|h|h
   ·have:k*(u+v)≤k*(-1):=Int.mul_le_mul_of_nonneg_left (by omega) (by omega)
    omega
   ·exact h
   ·have:k*1≤k*(u+v):=Int.mul_le_mul_of_nonneg_left (by omega) (by omega)
    omega
  rw [hz] at e3
  omega
theorem Zk0 (x:Ld) (l:List Fr) (i:Nat) (h:i<l.length):Z8 x (l.take (i+1))=((Yf (Z8 x (l.take i)).1 l[i]).1,(Z8 x (l.take i)).2++(Yf (Z8 x (l.take i)).1 l[i]).2):=by
 unfold Z8
 rw [List.take_add_one,List.getElem?_eq_getElem h,Option.toList_some,List.foldl_append]
 rfl
set_option maxHeartbeats 2000000 attribute [local irreducible] HW HO HQ HD HC QOp Has Upd Zo Gets Ye Z6 Zq X0 Z5 Zj X7 Zw
attribute [local irreducible] X6 Z2 Yo Z3 Y5 Zv
theorem Zow (T:Nat) (E:Nat→Addr) (G:WdG) (M:Wm) (s d p:Int) (L:Zb) (hG:Er T E [2,3,4,5,6] L) (hW:WdOk G M) (hM:WI M) (hl:M.l.length≤99999900) (h0:0≤s) (h1:s<M.n.length) (hs:(Zf M s).site≠none) (hd:0≤d∧d<6) (hp:0≤p∧p≤1048576) :
  HC Tryz.prog 144 [pt G.wp 0,iv s,iv d,iv p] (Yl G M++L) (fun v L'=>v = .bool (Zcy M s d p).2∧Zdp G (Zcy M s d p).1 L L'):=by
 have hself:=We hW L
 have hI:=Ui hW L
 have hwn:=hM.wn
 have hwl:=hM.wl
 have hw1:=hM.w1
 have hG':=Xp hG G M
 have hw:=hI.wp
 obtain ⟨⟨nb,ni,nl,nF,nfr,ncap,hnv,hnb,hng⟩,-,-⟩:=Zcm hW h0 h1 (H:=Yl G M++L) (fun b o hb=>by
  simp only [Has,Yl,Zc0,List.flatten_cons,List.cons_append,List.nil_append]
  simp [hb])
 obtain ⟨aw,capw,hwv,-,hwr⟩:=hW.w.rd Xi
 unfold Ur at hw
 rw [hnv,hwv] at hw
 have hok:=Wp hW h0 h1
 have hni:=Qa hM h0 h1
 obtain ⟨dn,rfl⟩:=Int.eq_ofNat_of_zero_le hd.1
 have hd6:dn<6:=by omega
 have hm1:(Zf M s).leads[dn]? = some ((Zf M s).leads.getD dn none):=getD_some (by rw [hni.leads];exact hd6)
 obtain ⟨q,hq⟩ : ∃ q,(Zg G s).ld[dn]? = some q:=⟨_,List.getElem?_eq_getElem (by rw [hok.ld];exact hd6)⟩
 have hv:=Zax hm1 hq
 have gL:=Zag (sv:=Zd9 (Zg G s) (Zf M s).site) (bp:=(Zg G s).bp) (dn:=(Zf M s).done) hv
 have hN:=Qw hW.ndl h0 h1 L
 have hB : ∀ {b:Nat} {o:Obj},(b,o)∈Zfv (Zg G s) s (Zf M s)→Has (Yl G M++L) b o:=fun {b o} hb=>by
  have:=Zdk hW.ndl h0 h1 hb L
  unfold Has Yl at *
  rw [List.append_assoc,List.flatten_append]
  exact List.mem_append_right _ this
 have kse : ∀ x,(Zf M s).leads[dn]? = some (some x)→HC Tryz.prog 191 [pt q.1 0] (Yl G M++L) (fun v L'=>v=iv x.seen∧L'=(Yl G M++L)):=fun x hx=>lseenH q.1 q.2.1 x _ (hni.ldi dn x hx).told (hB (by
  unfold Zfv
  exact List.mem_append_right _ (Zla hx hq (by simp [Vs]))))
 have hab:0≤Xc (Zf M s) dn p∧Xc (Zf M s) dn p≤1048576:=by
  unfold Xc
  split
  ·exact hp
  ·rename_i x hx
   have:=hni.ldi dn x (by rw [hm1];simp only [Int.toNat_natCast] at hx;rw [hx])
   have h1:=this.seen0
   have h2:=this.seen1
   omega
 have hr0:=Int.emod_nonneg (s-(Xc (Zf M s) dn p+1)) (by omega:(M.w.length:Int)≠0)
 have hr1:=Int.emod_lt_of_pos (s-(Xc (Zf M s) dn p+1)) (by omega:(0:Int)<M.w.length)
 unfold Qb at hN
 generalize hH:Yl G M++L=H at *
 unfold Zcy Zdi
 have habv:Xc (Zf M s) dn p=match (Zf M s).leads.getD dn none with
  | none=>p
  | some x=>max p x.seen:=rfl
 generalize hab2:Xc (Zf M s) dn p=ab at *
 refine Za (fun _ _=>Tryz.call144 _ _) Tryz.func144 rfl Tryz.ntmps144 (Nat.le_of_ble_eq_true rfl) ?_;simp only [Ze,Nat.reduceAdd]
 apply once_w (ι:=Int) (fun a=>a=ab) (fun a=>[(0,pt G.wp 0),(1,iv s),(2,iv dn),(9,pt (Zg G s).np 0),(12,iv M.w.length),(13,iv (a+1))]) (fun _=>H)
 ·intro key
  cases hx:(Zf M s).leads.getD dn none with
  | none =>
   rw [hx] at gL habv
   simp only [Zpm] at gL habv
   repeat' (first|refine uN ?_|refine Yd S ?_|refine Yu S ?_|refine uC (kse _ hx) ?_|refine Yy (fun _=>kse _ hx) ?_|refine Yz (fun _=>kse _ hx) ?_|refine Y0 (fun _=>kse _ hx) ?_|refine Y1 (fun _=>kse _ hx) ?_|(refine uB ?_;intro b)|(refine uP ?_ ?_<;>(intro h;((try simp only [zs,zq,reduceCtorEq] at h);try exact zx)))|refine da 101 ?_|fail)
   exact Zdx (hw_sub (key _ habv.symm) uS) (LS.refl _)
  | some x =>
   rw [hx] at gL habv hm1
   simp only [Zpm] at gL habv
   have kse2:=kse x hm1
   repeat' (first|refine uN ?_|refine Yd S ?_|refine Yu S ?_|refine uC (kse2) ?_|refine Yy (fun _=>kse2) ?_|refine Yz (fun _=>kse2) ?_|refine Y0 (fun _=>kse2) ?_|refine Y1 (fun _=>kse2) ?_|(refine uB ?_;intro b)|(refine uP ?_ ?_<;>(intro h;((try simp only [zs,zq,reduceCtorEq] at h);try exact zx)))|refine da 101 ?_|fail)
   exact Zdx (hw_sub (key _ habv.symm) uS) (LS.refl _)
 rintro ab' rfl
 refine Zz (σ:=Int) (fun x=>[(0,pt G.wp 0),(1,iv s),(2,iv dn),(9,pt (Zg G s).np 0),(12,iv M.w.length),(13,iv x)]) (fun _=>H) (fun x => ∃ j:Nat,x=ab'+1+j∧(j:Int)≤(s-(ab'+1)) % M.w.length) (fun x=>(ab'+1+(s-(ab'+1)) % M.w.length-x).toNat) (ab'+1) uS (List.Sublist.refl _) ⟨0,by simp,hr0⟩ ?_
 rintro x ⟨j,rfl,hj⟩
 have hst:=att_step (k:=M.w.length) (s:=s) (a:=ab'+1) (j:=j) (by omega) h0 (by omega) (by omega) hj
 by_cases hlt:(j:Int)=(s-(ab'+1)) % M.w.length
 ·rw [← hlt]
  have hst2:=hst.2 hlt
  have kH:=fun x=>Zc1 T E G M s (Zbd s dn x) L hG.sub hW hM h0 h1 hs
  have hRI:=fun x=>hM.hear (f:=Zbd s dn x) h0 h1 (by show s<_;omega)
  have hRl:=fun x=>Zho M s (Zbd s dn x)
  have hRw : ∀ x,(Y3 M s (Zbd s dn x)).1.w=M.w:=fun x=>rfl
  have hRL : ∀ x,(Y3 M s (Zbd s dn x)).1.l=M.l:=fun x=>rfl
  have hRn : ∀ x,(Y3 M s (Zbd s dn x)).1.n.length=M.n.length:=fun x=>by
   exact (hRI x).1.wn.trans ((congrArg List.length (hRw x)).trans hwn.symm)
  subst hH
  clear hst kse hB hnb
  have ha1:1≤ab'+1+j:=by omega
  have ha2:ab'+1+j≤1048590:=by omega
  have ha3:0≤ab'+1+(j:Int):=by omega
  clear hj
  generalize ab'+1+(j:Int)=a at *
  specialize kH a
  specialize hRI a
  specialize hRl a
  specialize hRw a
  specialize hRL a
  specialize hRn a
  generalize Y3 M s (Zbd s dn a)=R at *
  obtain ⟨M2,told,ok⟩:=R
  simp only at kH hRI hRl hRw hRL hRn ⊢
  obtain ⟨hM2,hfo⟩:=hRI
  repeat' (first|refine uN ?_|refine Yd S ?_|refine Yu S ?_|refine uC (hab) ?_|refine Yy (fun _=>hab) ?_|refine Yz (fun _=>hab) ?_|refine Y0 (fun _=>hab) ?_|refine Y1 (fun _=>hab) ?_|(refine uB ?_;intro b)|(refine uP ?_ ?_<;>(intro h;((try simp only [zs,zq,reduceCtorEq] at h);try exact zx)))|refine da 101 ?_|fail)
  ·rw [if_pos h]
   exact Xn (LS.refl _) ⟨rfl,hself⟩
  all_goals rw [if_neg h]
  all_goals refine gc kH ?_
  all_goals rintro v L' ⟨c,⟨fv,hfv,rfl⟩,G2,e1,e2,hW2,rfl⟩
  all_goals obtain ⟨af,capf,rfl,-,hRf⟩:=hfv.rd Zs
  all_goals cases ok with
  | false =>
   simp only [if_true]
   repeat' (first|refine uN ?_|refine Yd S ?_|refine Yu S ?_|refine uC (hab) ?_|refine Yy (fun _=>hab) ?_|refine Yz (fun _=>hab) ?_|refine Y0 (fun _=>hab) ?_|refine Y1 (fun _=>hab) ?_|(refine uB ?_;intro b)|(refine uP ?_ ?_<;>(intro h;((try simp only [zs,zq,reduceCtorEq] at h);try exact zx)))|refine da 101 ?_|fail)
   refine Xn (L':=Yl G2 M2++L) ?_ ⟨rfl,G2,e1,e2,hW2,rfl⟩
   simp only [List.flatten_append,List.flatten_cons]
   exact LS.boths _ (LS.skips _ (LS.refl _))
  | true =>
   simp only [Bool.true_eq_false,if_false]
   have h1':s<M2.n.length:=by rw [hRn];exact h1
   have hl2:=hW2.ndl
   have hnp2:=Zpu e2 h0 (by rw [hW.ndl];exact h1)
   have hok2:=Wp hW2 h0 h1'
   have hni2:=Qa hM2 h0 h1'
   have hw22:=hW2.w
   rw [hRw] at hw22
   obtain ⟨aw2,capw2,hwv2,-,hwr2⟩:=hw22.rd Xi
   obtain ⟨al2,capl2,hlv2,-,-⟩:=hW2.l.rd Zs
   have hvl:=hW2.l
   rw [hlv2] at hvl
   have hm2:(Zf M2 s).leads[dn]? = some ((Zf M2 s).leads.getD dn none):=getD_some (by rw [hni2.leads];exact hd6)
   obtain ⟨q2,hq2⟩ : ∃ q2,(Zg G2 s).ld[dn]? = some q2:=⟨_,List.getElem?_eq_getElem (by rw [hok2.ld];exact hd6)⟩
   have hv2:=Zax hm2 hq2
   obtain ⟨A,B,eA,eB⟩:=Zfm hm2 hq2
   have htE:tryE s dn M.w a=none:=by
    unfold tryE
    rw [Zfn hM h0 h1 hd (by omega)]
    simp only
    rw [if_neg (by omega)]
   have kt:=fun L hG hR=>Zsh T E s dn aw2 capw2 M.w a L hG hR (by omega)
   rw [htE] at kt
   have hNI:LdI M.w s.toNat dn (Zk s dn M.w a 4):=by
    have:=Zjd (w:=M.w) (s:=s.toNat) (d:=dn) (a:=a) (k:=4) (by omega) (by omega)
    rw [show ((s.toNat:Nat):Int)=s by omega] at this
    exact this
   have hsl:=Zgj (Zk s dn M.w a 4)
   have hslw:(Zk s dn M.w a 4).w=M.w:=rfl
   rw [hslw] at hsl
   have hsh:=fun G' M1 g' m' a b c d e f=>Zmn (G:=G2) (G':=G') (M:=M2) (M1:=M1) (s:=s) (g':=g') (m':=m') L hl2 h0 h1' a b c d e f
   have hlvs:(Yj (Zg G2 s) (Zf M2 s)).length=6:=by simp [Yj,hni2.leads,hok2.ld]
   refine Zcf (L':=Xh G2 s (Zg G2 s) (Zf M2 s) (X9 G2.nd M2.n 0 s.toNat) (c::L)) ?_ (Zew hl2 h0 h1' _)
   simp only [← hnp2]
   have hGP : ∀ L L',Zdp G2 { Xb M2 s { Zf M2 s with leads:=(Zf M2 s).leads.set dn (some (Z8 (Zk s dn M.w a 4) told).1) } with l:=M2.l++Xx (Zk s dn M.w a 4)++(Z8 (Zk s dn M.w a 4) told).2 } L L' →
     Zdp G { Xb M2 s { Zf M2 s with leads:=(Zf M2 s).leads.set dn (some (Z8 (Zk s dn M.w a 4) told).1) } with l:=M2.l++Xx (Zk s dn M.w a 4)++(Z8 (Zk s dn M.w a 4) told).2 } L L':=fun L L' h=>by
    obtain ⟨G3,f1,f2,f3,f4⟩:=h
    exact ⟨G3,f1.trans e1,f2.trans e2,f3,f4⟩
   generalize X9 G2.nd M2.n 0 s.toNat=X at *
   generalize hmm:Zf M2 s=m at *
   generalize hgg:Zg G2 s=g at *
   simp only [Xh,Q1,Qb,Ur,e1]
   rw [hwv2,hlv2]
   repeat' (first|refine uN ?_|refine Yd S ?_|refine Yu S ?_|refine uC (hab) ?_|refine Yy (fun _=>hab) ?_|refine Yz (fun _=>hab) ?_|refine Y0 (fun _=>hab) ?_|refine Y1 (fun _=>hab) ?_|(refine uB ?_;intro b)|(refine uP ?_ ?_<;>(intro h;((try simp only [zs,zq,reduceCtorEq] at h);try exact zx)))|refine da 101 ?_|fail)
   refine gc (kt _ (by repeat (first|exact hG|exact hG.sub|apply Errs.cons)) ?_) ?_
   ·repeat (first|exact hwr2 _|apply Rd.cons)
   rintro v L' ⟨lp,wv',wc',rfl,hLd,rfl⟩
   have gP:=Zlq (sv:=Zd9 g m.site) (bp:=g.bp) (lv:=Yj g m) (dn:=m.done) (d:=dn) (pt lp 0) (by omega)
   have kst:=fun L=>Zea lp wv' wc' (Zk s dn M.w a 4) L hLd
   repeat' (first|refine uN ?_|refine Yd S ?_|refine Yu S ?_|refine uC (hab) ?_|refine Yy (fun _=>hab) ?_|refine Yz (fun _=>hab) ?_|refine Y0 (fun _=>hab) ?_|refine Y1 (fun _=>hab) ?_|(refine uB ?_;intro b)|(refine uP ?_ ?_<;>(intro h;((try simp only [zs,zq,reduceCtorEq] at h);try exact zx)))|refine da 101 ?_|fail)
   refine gc (kst _) ?_
   rintro v L' ⟨c2,hv2,rfl⟩
   obtain ⟨a7,cap7,rfl,-,hR7⟩:=hv2.rd Zs
   repeat' (first|refine uN ?_|refine Yd S ?_|refine Yu S ?_|refine uC (hab) ?_|refine Yy (fun _=>hab) ?_|refine Yz (fun _=>hab) ?_|refine Y0 (fun _=>hab) ?_|refine Y1 (fun _=>hab) ?_|(refine uB ?_;intro b)|(refine uP ?_ ?_<;>(intro h;((try simp only [zs,zq,reduceCtorEq] at h);try exact zx)))|refine da 101 ?_|fail)
   refine fo 10 ?_
   refine wpA S hvl (Rd.cons (hR7 _) _) Zs Uv ?_ (hby:=by rw [hRL];omega) (hmax:=by rw [hRL];omega)
   intro v'' c'' hv''
   obtain ⟨a8,cap8,rfl,-,-⟩:=hv''.rd Zs
   repeat' (first|refine uN ?_|refine Yd S ?_|refine Yu S ?_|refine uC (hab) ?_|refine Yy (fun _=>hab) ?_|refine Yz (fun _=>hab) ?_|refine Y0 (fun _=>hab) ?_|refine Y1 (fun _=>hab) ?_|(refine uB ?_;intro b)|(refine uP ?_ ?_<;>(intro h;((try simp only [zs,zq,reduceCtorEq] at h);try exact zx)))|refine da 101 ?_|fail)
   have hho:=fun i=>Zc8 (w:=M.w) (s:=s.toNat) (d:=dn) (by omega) hwl hd6 (told.take i) (Zk s dn M.w a 4) [] hNI (fun f hf=>hfo f (List.mem_of_mem_take hf)) (fun f hf=>by cases hf)
   change ∀ i,LdI M.w s.toNat dn (Z8 (Zk s dn M.w a 4) (told.take i)).1 ∧ ∀ f∈(Z8 (Zk s dn M.w a 4) (told.take i)).2,Zfz M.w.length f at hho
   refine Zz (σ:=Nat × Value × List Zm) (fun r=>[(0,pt G.wp 0),(16,pt lp 0),(96,.slice af told.length capf),(97,iv told.length),(98,iv r.1)])
    (fun r=>r.2.2::Vs lp wv' wc' (Z8 (Zk s dn M.w a 4) (told.take r.1)).1::[(G.wp,.cells ⟨[.slice aw2 M.w.length capw2,G2.nv,.map (some G2.mb),r.2.1,G2.ev]⟩ 110)]::G2.ec::[(g.np,.cells ⟨X6 (Zd9 g m.site) g.bp ((Yj g m).set dn (pt lp 0)) m.done⟩ 122)]::Zh6 g s m.site::Zh5 g m.site::Yo g.bp g.ba m.pl::Zh4 g m.site::Qm g m::G2.wc::G2.nc::[(G2.mb,.map ⟨G2.es⟩ G2.ck)]::X::c::L)
    (fun r=>r.1≤told.length∧(Z8 (Zk s dn M.w a 4) (told.take r.1)).2.length≤7*r.1∧Xs r.2.1 (M2.l++Xx (Zk s dn M.w a 4)++(Z8 (Zk s dn M.w a 4) (told.take r.1)).2) r.2.2) (fun r=>told.length-r.1) (0,.slice a8 (M2.l++Xx (Zk s dn M.w a 4)).length cap8,c'') uS (by refine List.Sublist.cons_cons _ (List.Sublist.cons _ (List.Sublist.refl _))) ⟨by simp,by simp [Z8],by simpa [Z8] using hv''⟩ ?_
   rintro ⟨i,lv3,lc3⟩ ⟨hi,hlen,hv3⟩
   simp only at hi hlen hv3 ⊢
   obtain ⟨hI3,hF3⟩:=hho i
   have hlast:i=told.length→Z8 (Zk s dn M.w a 4) (told.take i)=Z8 (Zk s dn M.w a 4) told:=fun e=>by rw [e,List.take_length]
   have hsucc:=fun h=>Zk0 (Zk s dn M.w a 4) told i h
   have hLO3:LdOk wv' wc' (Z8 (Zk s dn M.w a 4) (told.take i)).1:=hLd.of hI3.ww (by rw [hI3.told];rfl)
   have hhd3:(Z8 (Zk s dn M.w a 4) (told.take i)).1.heard<2 ^ (Z8 (Zk s dn M.w a 4) (told.take i)).1.w.length:=by rw [hI3.ww];exact hI3.heard
   obtain ⟨al3,capl3,hlv3,-,-⟩:=hv3.rd Zs
   subst hlv3
   by_cases hit:i<told.length
   ·specialize hsucc hit
    have hq:=hho (i+1)
    have hl3:=Zce (Z8 (Zk s dn M.w a 4) (told.take i)).1 told[i]
    rw [hI3.ww] at hl3
    rw [hsucc] at hq
    have kh:=fun L hG=>Zff T E lp wv' wc' (Z8 (Zk s dn M.w a 4) (told.take i)).1 told[i] L hG hLO3 hhd3
    obtain ⟨b5,i5,l5,F5,fr5,e6,hb5,hg5⟩:=(hRf L).at (j:=(i:Int)) (by omega) (by omega)
    subst e6
    have hgi:told[(i:Int).toNat]'(by omega)=told[i]:=rfl
    rw [hgi] at hg5
    clear hlast hI3 hF3 hho
    generalize Z8 (Zk s dn M.w a 4) (told.take i)=Q at *
    obtain ⟨x3,fs3⟩:=Q
    simp only at hlen hv3 hLO3 hhd3 hl3 kh hsucc ⊢
    generalize told[i]=f at *
    obtain ⟨ffr,fto,fdl,fkd,fatt,fys,fs⟩:=f
    repeat' (first|refine uN ?_|refine Yd S ?_|refine Yu S ?_|refine uC (hab) ?_|refine Yy (fun _=>hab) ?_|refine Yz (fun _=>hab) ?_|refine Y0 (fun _=>hab) ?_|refine Y1 (fun _=>hab) ?_|(refine uB ?_;intro b)|(refine uP ?_ ?_<;>(intro h;((try simp only [zs,zq,reduceCtorEq] at h);try exact zx)))|refine da 101 ?_|fail)
    refine fo 2 ?_
    refine gc (kh _ (by repeat (first|exact hG|exact hG.sub|apply Errs.cons))) ?_
    rintro v L' ⟨c4,hv4,rfl⟩
    obtain ⟨a9,cap9,rfl,-,hR9⟩:=hv4.rd Zs
    repeat' (first|refine uN ?_|refine Yd S ?_|refine Yu S ?_|refine uC (hab) ?_|refine Yy (fun _=>hab) ?_|refine Yz (fun _=>hab) ?_|refine Y0 (fun _=>hab) ?_|refine Y1 (fun _=>hab) ?_|(refine uB ?_;intro b)|(refine uP ?_ ?_<;>(intro h;((try simp only [zs,zq,reduceCtorEq] at h);try exact zx)))|refine da 101 ?_|fail)
    refine fo 3 ?_
    refine wpA S hv3 (Rd.cons (hR9 _) _) Zs Uv ?_ (hby:=by simp only [List.length_append,hRL];omega) (hmax:=by simp only [List.length_append,hRL];omega)
    intro v5 c5 hv5
    obtain ⟨a10,cap10,rfl,-,-⟩:=hv5.rd Zs
    repeat' (first|refine uN ?_|refine Yd S ?_|refine Yu S ?_|refine uC (hab) ?_|refine Yy (fun _=>hab) ?_|refine Yz (fun _=>hab) ?_|refine Y0 (fun _=>hab) ?_|refine Y1 (fun _=>hab) ?_|(refine uB ?_;intro b)|(refine uP ?_ ?_<;>(intro h;((try simp only [zs,zq,reduceCtorEq] at h);try exact zx)))|refine da 101 ?_|fail)
    refine Zy (i+1,.slice a10 (M2.l++Xx (Zk s dn M.w a 4)++fs3++(Yf x3 ⟨ffr,fto,fdl,fkd,fatt,fys,fs⟩).2).length cap10,c5) uS ?_ ⟨by simp only;omega,?_,?_⟩ (by simp only;omega)
    ·simp only [hsucc,Vs]
     exact uL
    ·simp only [hsucc,List.length_append]
     omega
    ·simp only [hsucc]
     rw [← List.append_assoc]
     exact hv5
   ·obtain rfl:i=told.length:=by omega
    rw [hlast rfl] at hv3 hI3 ⊢
    have hLO4:=hlast rfl▸hLO3
    repeat' (first|refine uN ?_|refine Yd S ?_|refine Yu S ?_|refine uC (hab) ?_|refine Yy (fun _=>hab) ?_|refine Yz (fun _=>hab) ?_|refine Y0 (fun _=>hab) ?_|refine Y1 (fun _=>hab) ?_|(refine uB ?_;intro b)|(refine uP ?_ ?_<;>(intro h;((try simp only [zs,zq,reduceCtorEq] at h);try exact zx)))|refine da 101 ?_|fail)
    obtain ⟨L2,hw2,hls2⟩:=hsh { G2 with lv := .slice al3 (M2.l++Xx (Zk s dn M.w a 4)++(Z8 (Zk s dn M.w a 4) told).2).length capl3,lc:=lc3 } { M2 with l:=M2.l++Xx (Zk s dn M.w a 4)++(Z8 (Zk s dn M.w a 4) told).2 } { g with ld:=g.ld.set dn (lp,wv',wc') } { m with leads:=m.leads.set dn (some (Z8 (Zk s dn M.w a 4) told).1) }
     (hW2.setL hv3) rfl rfl rfl (hok2.lead (q:=(lp,wv',wc')) hLO4) rfl
    refine Xn (LS.trans hls2 ?_) ⟨rfl,hGP _ _ hw2⟩
    have eB2:=eB (some (Z8 (Zk s dn M.w a 4) told).1) (lp,wv',wc') { m with leads:=m.leads.set dn (some (Z8 (Zk s dn M.w a 4) told).1) } { g with ld:=g.ld.set dn (lp,wv',wc') } rfl rfl
    have eV2:=Zfl (g:=g) (g':={ g with ld:=g.ld.set dn (lp,wv',wc') }) (m:=m) (m':={ m with leads:=m.leads.set dn (some (Z8 (Zk s dn M.w a 4) told).1) }) (o':=some (Z8 (Zk s dn M.w a 4) told).1) (q':=(lp,wv',wc')) rfl rfl
    simp only [Xh,Q1,Qb,Ur,eV2]
    rw [eB2,eA,hwv2,e1]
    simp only [ldB,Vs,Zpm]
    refine LS.trans ls7 (LS.cutAt 9 ?_)
    exact uL
 ·have hst2 : ¬ (ab'+1+j) % M.w.length=s:=fun h=>hlt (hst.1 h)
  repeat' (first|refine uN ?_|refine Yd S ?_|refine Yu S ?_|refine uC (hab) ?_|refine Yy (fun _=>hab) ?_|refine Yz (fun _=>hab) ?_|refine Y0 (fun _=>hab) ?_|refine Y1 (fun _=>hab) ?_|(refine uB ?_;intro b)|(refine uP ?_ ?_<;>(intro h;((try simp only [zs,zq,reduceCtorEq] at h);try exact zx)))|refine da 101 ?_|fail)
  refine Zy (ab'+1+(j:Int)+1) uS (LS.refl _) ⟨j+1,by push_cast;omega,by push_cast;omega⟩ (by omega)
end Go.HL
end

/-! StE -/
section
namespace Go.HL
open Go Go.Proofs
theorem si_new {n:Nat} (h:216≤n) (h2:n≤1000000):SI ⟨Z4 n,false,-1⟩ ⟨Zv (Z4 n),false⟩:=by
 refine ⟨⟨by simpa [Z4] using h,by simpa [Z4] using h2,by simp,by simp,rfl,rfl⟩,fun d hd=>?_⟩
 have:Y4 ⟨Zv (Z4 n),false⟩ d=W2:=by
  unfold Y4
  rw [Zn6 h]
  show ((List.replicate 6 Zl).getD d Zl).s=W2
  rw [List.getD,List.getElem?_replicate]
  split<;>rfl
 rw [this]
 exact ⟨by decide,by decide,by decide,by decide,by decide⟩
set_option maxHeartbeats 2000000 attribute [local irreducible] HW HO HQ HD HC QOp Has Upd Zo Gets Ye Z6 Zq X0 Z5 Zj X7 Zw
attribute [local irreducible] Z2 Yo Z4 Zv Wu Yq Z3
end Go.HL
end

/-! WoJ -/
section
namespace Go.HL
open Go Go.Proofs
theorem WI.at {M:Wm} (h:WI M) {s:Int} (h0:0≤s) (h1:s<M.n.length):NdI M.w s.toNat (Zf M s):=h.nd s.toNat _ (getD_some (by omega))
theorem Zck {M:Wm} {s:Int} {m:Nd} (h0:0≤s) (h1:s<M.n.length):Zf (Xb M s m) s=m:=by
 unfold Zf Xb
 simp only
 rw [List.getD,List.getElem?_set_self (by omega)]
 rfl
theorem Zd2 {M:Wm} {s q:Int} {m:Nd} (h:q.toNat≠s.toNat):Zf (Xb M s m) q=Zf M q:=by
 unfold Zf Xb
 simp only [List.getD]
 rw [List.getElem?_set_ne (Ne.symm h)]
structure Same (M M':Wm):Prop where
 w:M'.w=M.w
 n:M'.n.length=M.n.length
theorem Same.refl (M:Wm):Same M M:=⟨rfl,rfl⟩
theorem Same.trans {A B C:Wm} (h:Same A B) (h':Same B C):Same A C:=⟨h'.w.trans h.w,h'.n.trans h.n⟩
theorem Zgf (M:Wm) (s:Int) (m:Nd):Same M (Xb M s m):=⟨rfl,by simp [Xb]⟩
theorem Zdf (M:Wm) (s:Int) (f:Fr):Same M (Y3 M s f).1:=⟨rfl,by simp [Y3,Xb]⟩
theorem hearW_l (M:Wm) (s:Int) (f:Fr):(Y3 M s f).1.l=M.l:=rfl
theorem Znl {M:Wm} {s:Int} {f:Fr} (h0:0≤s) (h1:s<M.n.length) (h:(Y3 M s f).2.2=true):(Zf (Y3 M s f).1 s).site≠none:=by
 have e:Zf (Y3 M s f).1 s=(Xv s (Zf M s) M.ev f).1:=by
  unfold Y3
  exact Zck h0 h1
 rw [e]
 unfold Y3 at h
 simp only at h
 unfold Xv at h ⊢
 split at h
 ·cases h
 ·split at h
  ·cases h
  ·rename_i hoff
   simp only [if_neg hoff]
   simp
theorem Zhp (M:Wm) (s:Int) (f:Fr):(Y3 M s f).2.1.length≤1:=by
 unfold Y3 Xv
 split
 ·simp
 ·rename_i j ref _
  split
  ·simp
  ·simp only
   unfold Z3
   split
   ·simp
   split
   ·simp
   split
   ·simp
   ·simp only
    split<;>simp
theorem Zfh {w:List Int} {s d:Nat} (hs:s<w.length) (hw:w.length≤7) (hd:d<6) : ∀ (l:List Fr) (x:Ld) (acc:List Fr),LdI w s d x→(∀ f∈l,Zfz w.length f)→(l.foldl (fun q f=>((Yf q.1 f).1,q.2++(Yf q.1 f).2)) (x,acc)).2.length≤acc.length+7*l.length
 | [],x,acc,hx,_=>by simp
 | f::l,x,acc,hx,hl=>by
  rw [List.foldl_cons]
  have k1:=(hx.hear hs hw hd (hl f (by simp)).1).1
  have k2:=Zce x f
  rw [hx.ww] at k2
  have:=Zfh hs hw hd l _ (acc++(Yf x f).2) k1 (fun g hg=>hl g (by simp [hg]))
  simp only [List.length_append,List.length_cons] at this ⊢
  omega
theorem Zib (m:Ld):(Xx m).length≤m.w.length:=by
 unfold Xx
 split<;>exact Vn _ (Zel m _ _) _
structure TryOk (M M':Wm) (s:Int) (b:Bool):Prop where
 wi:WI M'
 same:Same M M'
 len:M'.l.length≤M.l.length+14
 up:b=true→(Zf M' s).site≠none
theorem Zmi {w:List Int} {s:Nat} {m:Nd} (hm:NdI w s m) {d p:Int} (hd:0≤d∧d<6) (hp:0≤p∧p≤1048576):0≤Xc m d p∧Xc m d p≤1048576:=by
 unfold Xc
 split
 ·exact hp
 ·rename_i x hx
  have:=hm.ldi d.toNat x (by
   have h6:=hm.leads
   rw [getD_some (x:=none) (l:=m.leads) (i:=d.toNat) (by omega),hx])
  have h1:=this.seen0
  have h2:=this.seen1
  omega
theorem try_ok {M:Wm} (h:WI M) {s d p:Int} (h0:0≤s) (h1:s<M.n.length) (hs:(Zf M s).site≠none) (hd:0≤d∧d<6) (hp:0≤p∧p≤1048576):TryOk M (Zcy M s d p).1 s (Zcy M s d p).2:=by
 have hn:=h.wn
 have hw:=h.wl
 have hw1:=h.w1
 have hab:=Zmi (h.at h0 h1) hd hp
 unfold Zcy
 simp only
 generalize ha:Zdi M.w.length s (Xc (Zf M s) d p+1)=a
 have ha1:1≤a:=by
  unfold Zdi at ha
  have:=Int.emod_nonneg (s-(Xc (Zf M s) d p+1)) (by omega:(M.w.length:Int)≠0)
  omega
 split
 ·exact ⟨h,.refl _,by simp,fun _=>hs⟩
 rename_i hle
 obtain ⟨hI,hF⟩:=h.hear (f:=Zbd s d a) h0 h1 (by show s<_;omega)
 have hS:=Zdf M s (Zbd s d a)
 have hone:=Zhp M s (Zbd s d a)
 have hl:=hearW_l M s (Zbd s d a)
 have hst:=Znl (f:=Zbd s d a) h0 h1
 generalize Y3 M s (Zbd s d a)=R at *
 split
 ·rename_i hr
  exact ⟨hI,hS,by rw [hl];omega,fun e=>by cases e⟩
 rename_i hr
 have hr':R.2.2=true:=by simpa using hr
 have h1':s<R.1.n.length:=by rw [hS.n];exact h1
 have hx:=hI.at h0 h1'
 have hNI:LdI M.w s.toNat d.toNat (Zk s d M.w a 4):=by
  have:=Zjd (w:=M.w) (s:=s.toNat) (d:=d.toNat) (a:=a) (k:=4) (by omega) (by omega)
  rw [show ((s.toNat:Nat):Int)=s by omega,show ((d.toNat:Nat):Int)=d by omega] at this
  exact this
 have hho:=Zc8 (w:=M.w) (s:=s.toNat) (d:=d.toNat) (by omega) hw (by omega) R.2.1 (Zk s d M.w a 4) [] hNI hF (fun f hf=>by cases hf)
 have hhl:=Zfh (w:=M.w) (s:=s.toNat) (d:=d.toNat) (by omega) hw (by omega) R.2.1 (Zk s d M.w a 4) [] hNI hF
 change LdI M.w s.toNat d.toNat (Z8 (Zk s d M.w a 4) R.2.1).1 ∧ ∀ f∈(Z8 (Zk s d M.w a 4) R.2.1).2,Zfz M.w.length f at hho
 change (Z8 (Zk s d M.w a 4) R.2.1).2.length≤_ at hhl
 have hso:=Zic hNI (by omega) hw (by omega)
 have hsl:=Zib (Zk s d M.w a 4)
 rw [show (Zk s d M.w a 4).w=M.w from rfl] at hsl
 have hset:=hI.set (m:={ Zf R.1 s with leads:=(Zf R.1 s).leads.set d.toNat (some (Z8 (Zk s d M.w a 4) R.2.1).1) }) h0 (hx.lead (by rw [hS.w];exact hho.1))
 refine ⟨hset.setL fun f hf=>?_,hS.trans ⟨rfl,by simp [Xb]⟩,?_,fun _=>?_⟩
 ·show Zfz R.1.w.length f
  rw [hS.w]
  rw [hl] at hf
  rcases List.mem_append.1 hf with hf|hf
  ·rcases List.mem_append.1 hf with hf|hf
   ·exact h.fr f hf
   ·exact hso f hf
  ·exact hho.2 f hf
 ·simp only [List.length_append,hl]
  simp only [List.length_nil] at hhl
  omega
 ·have e:(Zf (Xb R.1 s { Zf R.1 s with leads:=(Zf R.1 s).leads.set d.toNat (some (Z8 (Zk s d M.w a 4) R.2.1).1) }) s).site≠none:=by
   rw [Zck h0 h1']
   exact hst hr'
  exact e
theorem Zne {M:Wm} (h:WI M) {s:Int} {d:Nat} (h0:0≤s) (h1:s<M.n.length) (hd:d<6) {st:St} (hst:Zgi st) : ∀ f∈Uk M s d st,Zfz M.w.length f:=by
 intro f hf
 have hn:=h.wn
 have hw:=h.wl
 unfold Uk at hf
 obtain ⟨i,hi,rfl⟩:=List.mem_map.1 hf
 have:=List.mem_range.1 hi
 obtain ⟨g1,g2,g3,g4,g5⟩:=hst
 unfold Zfz Wq
 simp only
 omega
theorem Zds (M:Wm) (s d:Int) (st:St):(Uk M s d st).length=M.w.length:=by simp [Uk]
structure TickOk (M:Wm) (q:Wm × Bool) (s:Int) (k:Nat):Prop where
 wi:WI q.1
 same:Same M q.1
 len:q.1.l.length≤M.l.length+14*k
 up:q.2=true→(Zf q.1 s).site≠none
theorem tickD_ok {M:Wm} {q:Wm × Bool} {s:Int} {k d:Nat} (h:TickOk M q s k) (h0:0≤s) (h1:s<M.n.length) (hd:d<6):TickOk M (Zan s q d) s (k+1):=by
 obtain ⟨M1,b⟩:=q
 have hl:=h.len
 have hwl:=h.wi.wl
 have hn:=h.same.n
 simp only at hl hn hwl
 unfold Zan
 split
 ·exact ⟨h.wi,h.same,by simp only;omega,h.up⟩
 split
 ·exact ⟨h.wi,h.same,by simp only;omega,fun e=>by cases e⟩
 rename_i hb _ j ref hs
 have hs':(Zf M1 s).site=some (j,ref):=hs
 have hni:=h.wi.at (s:=s) h0 (by simp only;omega)
 have hS:=(hni.jn hs').st d hd
 split
 ·exact ⟨h.wi,h.same,by simp only;omega,h.up⟩
 split
 ·refine ⟨h.wi.setL fun f hf=>?_,⟨h.same.w,h.same.n⟩,?_,fun _=>h.up (by simpa using hb)⟩
  ·rcases List.mem_append.1 hf with hf|hf
   ·exact h.wi.fr f hf
   ·exact Zne h.wi h0 (by simp only;omega) hd hS f hf
  ·simp only [List.length_append,Zds]
   omega
 ·obtain ⟨g1,g2,g3,g4,g5⟩:=hS
  have ht:=try_ok h.wi (s:=s) (d:=d) (p:=(Y4 j d).pr) h0 (by simp only;omega) (h.up (by simpa using hb)) (by omega) (by omega)
  have h4:(Zcy M1 s d (Y4 j d).pr).1.l.length≤M1.l.length+14:=ht.len
  have h5:(Zcy M1 s d (Y4 j d).pr).1.l.length≤M.l.length+14*(k+1):=by omega
  exact ⟨ht.wi,h.same.trans ht.same,h5,ht.up⟩
theorem Zcx {M:Wm} (h:WI M) {s:Int} (h0:0≤s) (h1:s<M.n.length) (hs:(Zf M s).site≠none) : ∀ k,k≤6→TickOk M ((List.range k).foldl (Zan s) (M,true)) s k
 | 0,_=>⟨h,.refl _,by simp,fun _=>hs⟩
 | k+1,hk=>by
  rw [List.range_succ,List.foldl_append]
  exact tickD_ok (Zcx h h0 h1 hs k (by omega)) h0 h1 (by omega)
structure StepOk (M M':Wm) (k:Nat):Prop where
 wi:WI M'
 same:Same M M'
 len:M'.l.length≤M.l.length+k
theorem StepOk.refl {M:Wm} (h:WI M) (k:Nat):StepOk M M k:=⟨h,.refl _,by omega⟩
theorem StepOk.mono {M M':Wm} {k k':Nat} (h:StepOk M M' k) (hk:k≤k'):StepOk M M' k':=⟨h.wi,h.same,by have:=h.len;omega⟩
theorem Uq {M:Wm} {s:Int} (h:Zgy M s=none):0≤s∧s<M.n.length∧(Zf M s).site≠none:=by
 unfold Zgy at h
 split at h
 ·cases h
 ·rename_i hn
  obtain ⟨h0,h1⟩:=Yp hn
  split at h
  ·cases h
  ·rename_i hs
   exact ⟨h0,h1,fun e=>hs (by rw [e];rfl)⟩
theorem tick_ok {M:Wm} (h:WI M) (s:Int):StepOk M (U8 M s).1 84:=by
 unfold U8
 split
 ·exact .refl h _
 ·rename_i hu
  obtain ⟨h0,h1,hs⟩:=Uq hu
  have:=Zcx h h0 h1 hs 6 (by omega)
  exact ⟨this.wi,this.same,this.len⟩
theorem begin_ok {M:Wm} (h:WI M) (s d:Int):StepOk M (Vg M s d).1 7:=by
 have hn:=h.wn
 have hw:=h.wl
 unfold Vg
 split
 ·exact .refl h _
 rename_i hb
 split
 ·exact .refl h _
 split
 ·exact .refl h _
 have hNI:LdI M.w s.toNat d.toNat (Zk s d M.w 0 2):=by
  have:=Zjd (w:=M.w) (s:=s.toNat) (d:=d.toNat) (a:=0) (k:=2) (by omega) (by omega)
  rw [show ((s.toNat:Nat):Int)=s by omega,show ((d.toNat:Nat):Int)=d by omega] at this
  exact this
 have hso:=Zic hNI (by omega) hw (by omega)
 have hsl:=Zib (Zk s d M.w 0 2)
 rw [show (Zk s d M.w 0 2).w=M.w from rfl] at hsl
 have hset:=h.set (m:={ Zf M s with leads:=(Zf M s).leads.set d.toNat (some (Zk s d M.w 0 2)) }) (s:=s) (by omega) ((h.at (by omega) (by omega)).lead hNI)
 refine ⟨hset.setL fun f hf=>?_,⟨rfl,by simp [Xb]⟩,by simp;omega⟩
 rcases List.mem_append.1 hf with hf|hf
 ·exact h.fr f hf
 ·exact hso f hf
theorem Zr7 {M:Wm} (h:WI M) (s d:Int):StepOk M (W7 M s d).1 0:=by
 unfold W7
 split
 ·exact .refl h _
 split
 ·exact .refl h _
 rename_i hu
 obtain ⟨h0,h1,hs⟩:=Uq hu
 have hx:=h.at h0 h1
 refine ⟨h.set h0 ?_,Zgf _ _ _,by simp [Xb]⟩
 unfold Za0
 split
 ·exact hx
 ·rename_i j ref hj
  exact ⟨hx.leads,hx.done,hx.b512,hx.si,fun j2 r2 e=>by cases e;exact hx.up j ref hj,fun e=>(by cases e),hx.ldi⟩
theorem Zfd {M:Wm} (h:WI M) {k:Int} (hk:Zsj M k=none):Zfz M.w.length (M.l.getD k.toNat W1)∧0≤k∧k<M.l.length:=by
 unfold Zsj at hk
 split at hk
 ·cases hk
 ·have hlt:k.toNat<M.l.length:=by omega
  have e:M.l.getD k.toNat W1=M.l[k.toNat]:=by rw [List.getD,List.getElem?_eq_getElem hlt];rfl
  rw [e]
  exact ⟨h.fr _ (List.getElem_mem _),by omega,by omega⟩
theorem Qg {M:Wm} (h:WI M) (k:Int):StepOk M (Yc M k).1 6:=by
 have hn:=h.wn
 have hw:=h.wl
 unfold Yc
 split
 ·exact .refl h _
 rename_i hk
 obtain ⟨⟨hbad,hto,hfr⟩,hk0,hk1⟩:=Zfd h hk
 generalize M.l.getD k.toNat W1=f at *
 have hE:=h.erase k.toNat
 have hel:(M.l.eraseIdx k.toNat).length=M.l.length-1:=by rw [List.length_eraseIdx,if_pos (by omega)]
 have hS1:Same M { M with l:=M.l.eraseIdx k.toNat }:=⟨rfl,rfl⟩
 have hb2:=hbad
 unfold Wq at hb2
 simp only
 split
 ·exact ⟨hE,hS1,by simp only [hel];omega⟩
 split
 ·split
  ·exact ⟨hE,hS1,by simp only [hel];omega⟩
  ·rename_i x hx
   have hni:=hE.at (s:=f.to) (by omega) (by simp only;omega)
   have h6:=hni.leads
   have hLI:=hni.ldi f.dl.toNat x (by rw [getD_some (x:=none) (by omega),hx])
   obtain ⟨k1,k2⟩:=hLI.hear (by simp only;omega) hw (by omega) hbad
   have k3:=Zce x f
   rw [hLI.ww] at k3
   have hset:=hE.set (m:={ Zf { M with l:=M.l.eraseIdx k.toNat } f.to with leads:=(Zf { M with l:=M.l.eraseIdx k.toNat } f.to).leads.set f.dl.toNat (some (Yf x f).1) }) (s:=f.to) (by omega) (hni.lead k1)
   refine ⟨hset.setL fun g hg=>?_,⟨rfl,by simp [Xb]⟩,?_⟩
   ·rcases List.mem_append.1 hg with hg|hg
    ·exact hE.fr g hg
    ·exact k2 g hg
   ·simp only [List.length_append,hel]
    simp only at k3
    omega
 ·obtain ⟨k1,k2⟩:=hE.hear (s:=f.to) (f:=f) (by omega) (by simp only;omega) hfr
  have k3:=Zhp { M with l:=M.l.eraseIdx k.toNat } f.to f
  have k4:=Zdf { M with l:=M.l.eraseIdx k.toNat } f.to f
  refine ⟨k1.setL fun g hg=>?_,⟨k4.w,k4.n⟩,?_⟩
  ·show Zfz (Y3 { M with l:=M.l.eraseIdx k.toNat } f.to f).1.w.length g
   rw [k4.w]
   rcases List.mem_append.1 hg with hg|hg
   ·exact hE.fr g hg
   ·exact k2 g hg
  ·simp only [List.length_append,hel]
   omega
theorem drop_ok {M:Wm} (h:WI M) (k:Int):StepOk M (Q9 M k).1 0:=by
 unfold Q9
 split
 ·exact .refl h _
 ·exact ⟨h.erase _,⟨rfl,rfl⟩,by simp only [List.length_eraseIdx];split<;>omega⟩
theorem twice_ok {M:Wm} (h:WI M) (k:Int):StepOk M (Uh M k).1 1:=by
 unfold Uh
 split
 ·exact .refl h _
 rename_i hk
 obtain ⟨hf,hk0,hk1⟩:=Zfd h hk
 refine ⟨h.setL fun g hg=>?_,⟨rfl,rfl⟩,?_⟩
 ·rcases List.mem_append.1 hg with hg|hg
  ·exact h.fr g (List.mem_of_mem_take hg)
  ·rcases List.mem_cons.1 hg with hg|hg
   ·rw [hg];exact hf
   ·exact h.fr g (List.mem_of_mem_drop hg)
 ·simp only [List.length_append,List.length_take,List.length_cons,List.length_drop]
  omega
theorem Zpq {M:Wm} (h:WI M) (a b:Int) (c:Bool):StepOk M (U1 M a b c).1 0:=by
 unfold U1
 split
 ·exact .refl h _
 ·exact ⟨h.setB _,⟨rfl,rfl⟩,by simp⟩
theorem cut_ok {M:Wm} (h:WI M) (s n:Int) (hn:n≤9223372036854775807):StepOk M (Ze6 M s n).1 0:=by
 unfold Ze6
 split
 ·exact .refl h _
 split
 ·exact .refl h _
 rename_i hn0 _ hu
 obtain ⟨h0,h1,hs⟩:=Uq hu
 have hx:=h.at h0 h1
 refine ⟨h.set h0 ⟨hx.leads,hx.done,hx.b512,hx.si.cut (by omega) hn,hx.up,hx.dn,hx.ldi⟩,Zgf _ _ _,by simp [Xb]⟩
theorem SI.down {m:Pl} {b:Bool} (h:SI m ⟨Zv m.b,b⟩):SI { m with off:=true } ⟨Zv m.b,true⟩:=⟨⟨h.ji.lo,h.ji.hi,h.ji.c0,h.ji.c1,rfl,rfl⟩,h.st⟩
theorem down_ok {M:Wm} (h:WI M) (s:Int):StepOk M (Q8 M s).1 0:=by
 unfold Q8
 split
 ·exact .refl h _
 rename_i hu
 obtain ⟨h0,h1,hs⟩:=Uq hu
 have hx:=h.at h0 h1
 exact ⟨h.set h0 (hx.fall hx.b512 hx.si.down rfl),Zgf _ _ _,by simp [Xb]⟩
theorem NdI.boot {w:List Int} {s:Nat} {m:Nd} (h:NdI w s m) (dn:List Bool) (hd:dn.length=6):NdI w s { Q6 m with done:=dn }:=
 ⟨h.leads,hd,h.b512,h.si.boot,fun j ref e=>by cases e;exact ⟨rfl,rfl⟩,fun e=>(by cases e),h.ldi⟩
theorem up_ok {M:Wm} (h:WI M) (s:Int):StepOk M (Zst M s).1 0:=by
 unfold Zst
 split
 ·exact .refl h _
 split
 ·exact .refl h _
 rename_i hu _
 obtain ⟨h0,h1⟩:=Yp hu
 have hx:=h.at h0 h1
 exact ⟨(h.set h0 (hx.boot _ (by rw [Zhx];exact hx.done))).setE (Zlu _ _ _ h.evl),⟨rfl,by simp [Xb]⟩,by simp [Xb]⟩
theorem newNd_I (w:List Int) (s:Nat):NdI w s newNd:=by
 have hS:=si_new (n:=512) (by omega) (by omega)
 refine ⟨rfl,rfl,(by show (Z4 512).length=512;unfold Z4;exact List.length_replicate),hS,fun j ref e=>by cases e;exact ⟨rfl,rfl⟩,fun e=>(by cases e),fun d x hx=>?_⟩
 simp only [newNd,Yn,List.getElem?_replicate] at hx
 split at hx<;>cases hx
theorem new_ok {w:List Int} (h:Xt w=none):WI (Q2 w):=by
 obtain ⟨c1,c2,-⟩:=V6 h
 refine ⟨h,c2,c1,by simp [Q2],fun f hf=>(by cases hf),by simp [Q2],fun s m hm=>?_⟩
 simp only [Q2,List.getElem?_replicate] at hm
 split at hm
 ·cases hm
  exact newNd_I _ _
 ·cases hm
end Go.HL
end

/-! WoV -/
section
namespace Go.HL
open Go Go.Proofs
def Vp (s:Int) (M:Wm) (k:Nat):Wm × Bool:=(List.range k).foldl (Zan s) (M,true)
theorem Zgl (s:Int) (M:Wm) (k:Nat):Vp s M (k+1)=Zan s (Vp s M k) k:=by
 unfold Vp
 rw [List.range_succ,List.foldl_append]
 rfl
theorem Zgk {s:Int} {M:Wm} {k:Nat} (h:(Vp s M k).2=false) : ∀ j,Vp s M (k+j)=Vp s M k
 | 0=>rfl
 | j+1=>by
  rw [← Nat.add_assoc,Zgl,Zgk h j]
  unfold Zan
  rw [if_pos h]
theorem Zit (M:Wm) (s d:Int) (st:St) (i:Nat):((List.range (i+1)).map fun (i:Nat)=>(⟨s,(i:Int),d,7,st.pr,false,⟨st.ph,0,0⟩⟩:Fr))=((List.range i).map fun (i:Nat)=>(⟨s,(i:Int),d,7,st.pr,false,⟨st.ph,0,0⟩⟩:Fr))++[⟨s,(i:Int),d,7,st.pr,false,⟨st.ph,0,0⟩⟩]:=by
 rw [List.range_succ,List.map_append]
 rfl
theorem ls_out {A L:Zb} {c:List Zm}:LS (A++L).flatten (c::(A++L)).flatten:=by
 rw [List.flatten_cons]
 exact LS.skips c (LS.refl _)
theorem ls_in {A L:Zb} {c:List Zm}:LS (A++(c::L)).flatten (c::(A++L)).flatten:=by
 simp only [List.flatten_cons,List.flatten_append]
 refine LS.of_perm ?_
 rw [← List.append_assoc,← List.append_assoc]
 exact List.perm_append_comm.append_right _
set_option maxHeartbeats 2000000 attribute [local irreducible] HW HO HQ HD HC QOp Has Upd Zo Gets Ye Z6 Zq X0 Z5 Zj X7 Zw
attribute [local irreducible] X6 Z2 Yo Z3 Y5 Zv Zcy
theorem Zmt (T:Nat) (E:Nat→Addr) (G:WdG) (M:Wm) (s:Int) (L:Zb) (hG:Er T E [2,3,4,5,6] L) (hW:WdOk G M) (hM:WI M) (hl:M.l.length≤99999000) :
  HC Tryz.prog 83 [pt G.wp 0,iv s] (Yl G M++L) (fun v L'=>v=eV T E (U8 M s).2∧Zdp G (U8 M s).1 L L'):=by
 unfold U8
 have hself:=We hW L
 rcases Zgp (M:=M) (s:=s) with ⟨e,he⟩|⟨he,hn,h0,h1,j,ref,hs⟩
 ·have ku:=Zfj s hG.sub hW
  have hG':=Xp hG G M
  generalize Yl G M++L=H at *
  simp only [he] at ku ⊢
  refine Za (fun _ _=>Tryz.call83 _ _) Tryz.func83 rfl Tryz.ntmps83 (Nat.le_of_ble_eq_true rfl) ?_;simp only [Ze,Nat.reduceAdd]
  repeat' (first|refine uN ?_|refine Yd S ?_|refine Yu S ?_|refine uC (ku) ?_|refine Yy (fun _=>ku) ?_|refine Yz (fun _=>ku) ?_|refine Y0 (fun _=>ku) ?_|refine Y1 (fun _=>ku) ?_|(refine uB ?_;intro b)|(refine uP ?_ ?_<;>(intro h;((try simp only [zs,zq,reduceCtorEq] at h);try exact zx)))|refine da 101 ?_|fail)
  exact Uu rfl ⟨rfl,hself⟩
 ·have ku:=Zfj s hG.sub hW
  simp only [he,Zon hn] at ku ⊢
  have hticks:=fun k hk=>Zcx hM h0 h1 (by rw [hs];simp) k hk
  change ∀ k,k≤6→TickOk M (Vp s M k) s k at hticks
  change HC _ _ _ _ (fun v L'=>v=eV T E none∧Zdp G (Vp s M 6).1 L L')
  refine Za (fun _ _=>Tryz.call83 _ _) Tryz.func83 rfl Tryz.ntmps83 (Nat.le_of_ble_eq_true rfl) ?_;simp only [Ze,Nat.reduceAdd]
  repeat' (first|refine uN ?_|refine Yd S ?_|refine Yu S ?_|refine uC (ku) ?_|refine Yy (fun _=>ku) ?_|refine Yz (fun _=>ku) ?_|refine Y0 (fun _=>ku) ?_|refine Y1 (fun _=>ku) ?_|(refine uB ?_;intro b)|(refine uP ?_ ?_<;>(intro h;((try simp only [zs,zq,reduceCtorEq] at h);try exact zx)))|refine da 101 ?_|fail)
  refine Zz (σ:=Nat × WdG) (fun r=>[(0,pt G.wp 0),(1,iv s),(5,pt (Zg G s).np 0),(20,iv r.1)]) (fun r=>Yl r.2 (Vp s M r.1).1++L)
   (fun r=>r.1≤6∧(Vp s M r.1).2=true∧WdOk r.2 (Vp s M r.1).1∧r.2.wp=G.wp∧r.2.nd.map (·.np)=G.nd.map (·.np)) (fun r=>6-r.1) (0,G) uS (List.Sublist.refl _) ⟨by simp,rfl,hW,rfl,rfl⟩ ?_
  rintro ⟨d,G1⟩ ⟨hd,hon,hW1,e1,e2⟩
  simp only at hd hon hW1 e1 e2 ⊢
  obtain ⟨hM1,hsame,hlen,hsite⟩:=hticks d hd
  have hsite1:=hsite hon
  have hnx:=Zgl s M d
  by_cases hd6:d<6
  ·have hnx2:=hticks (d+1) (by omega)
   have hstop:=fun h=>Zgk (s:=s) (M:=M) (k:=d+1) h (5-d)
   rw [show d+1+(5-d)=6 by omega] at hstop
   generalize Vp s M d=q at *
   obtain ⟨M1,b⟩:=q
   simp only at hon hW1 hM1 hsame hlen hsite1 ⊢
   subst hon
   have h1':s<M1.n.length:=by rw [hsame.n];exact h1
   have hnp2:=Zpu e2 h0 (by rw [hW.ndl];exact h1)
   have hok:=Wp hW1 h0 h1'
   have hni:=Qa hM1 h0 h1'
   obtain ⟨⟨j1,ref1⟩,hs1⟩:=Option.ne_none_iff_exists'.1 hsite1
   have hj:=hni.jn hs1
   have hst:=hj.st d hd6
   have hB : ∀ {b:Nat} {o:Obj},(b,o)∈Zfv (Zg G1 s) s (Zf M1 s)→Has (Yl G1 M1++L) b o:=fun {b o} hb=>by
    have:=Zdk hW1.ndl h0 h1' hb L
    unfold Has Yl at *
    rw [List.append_assoc,List.flatten_append]
    exact List.mem_append_right _ this
   have hN:Has (Yl G1 M1++L) (Zg G1 s).np (Qb (Zg G1 s) (Zf M1 s)):=Qw hW1.ndl h0 h1' L
   have hA1:Has (Yl G1 M1++L) (Zg G1 s).sp (.cells ⟨[pt (Zg G1 s).bj 0,iv s,.map (some (Zg G1 s).mb)]⟩ 187):=hB (by simp [Zfv,hs1,siB,Zek])
   have hA2:Has (Yl G1 M1++L) (Zg G1 s).bj (.cells ⟨Z2 (Zg G1 s).bp j1⟩ 261):=hB (by simp [Zfv,hs1,siB,jC])
   have kst:=Zbq (Zg G1 s).sp (Zg G1 s).bj (Zg G1 s).mb (Zg G1 s).bp s j1 d _ hA1 hA2 hj.ji.jn.len hd6
   have htd:Vp s M (d+1)=if Y4 j1 d=W2 then (M1,true) else if (Y4 j1 d).ph=2∨(Y4 j1 d).ph=3 then ({ M1 with l:=M1.l++Uk M1 s d (Y4 j1 d) },true) else Zcy M1 s d (Y4 j1 d).pr:=by
    rw [hnx]
    unfold Zan
    simp only [hs1,Bool.true_eq_false,if_false]
   have g0:(X6 (pt (Zg G1 s).sp 0) (Zg G1 s).bp (Yj (Zg G1 s) (Zf M1 s)) (Zf M1 s).done)[0+0]? = some (pt (Zg G1 s).sp 0):=Xe rfl
   unfold Qb at hN
   rw [hs1] at hN
   simp only [Zd9,hnp2] at hN
   change HC _ _ _ _ (fun v L'=>v = .tuple ⟨[.agg ⟨sc (Y4 j1 d)⟩,.nilIface]⟩∧_) at kst
   have hdl:=Zds M1 s d (Y4 j1 d)
   have hdF:Uk M1 s d (Y4 j1 d)=(List.range M1.w.length).map fun (i:Nat)=>(⟨s,(i:Int),d,7,(Y4 j1 d).pr,false,⟨(Y4 j1 d).ph,0,0⟩⟩:Fr):=rfl
   have hsuccF:=fun i=>Zit M1 s d (Y4 j1 d) i
   generalize Y4 j1 d=st at *
   obtain ⟨ph,pr,att⟩:=st
   obtain ⟨q1,q2,q3,q4,q5⟩:=hst
   simp only at q1 q2 q3 q4 q5 hdF hsuccF
   have hwn:=hM1.wn
   have hwl:=hM1.wl
   by_cases hz:ph=0∧pr=0∧att=0
   ·obtain ⟨rfl,rfl,rfl⟩:=hz
    rw [if_pos (show (⟨0,0,0⟩:St)=W2 from rfl)] at htd
    clear hA1 hA2 hB
    generalize hH:Yl G1 M1++L=H at *
    repeat' (first|refine uN ?_|refine Yd S ?_|refine Yu S ?_|refine uC (kst) ?_|refine Yy (fun _=>kst) ?_|refine Yz (fun _=>kst) ?_|refine Y0 (fun _=>kst) ?_|refine Y1 (fun _=>kst) ?_|(refine uB ?_;intro b)|(refine uP ?_ ?_<;>(intro h;((try simp only [zs,zq,reduceCtorEq] at h);try exact zx)))|refine da 101 ?_|fail)
    all_goals subst hH
    all_goals refine Zy (d+1,G1) uS ?_ ⟨by simp only;omega,by simp only [htd],by simp only [htd];exact hW1,e1,e2⟩ (by simp only;omega)
    all_goals simp only [htd]
    all_goals exact ls_out
   have hz2 : ¬ ((⟨ph,pr,att⟩:St)=W2):=fun e=>by cases e;exact hz ⟨rfl,rfl,rfl⟩
   rw [if_neg hz2] at htd
   by_cases hf:ph=2∨ph=3
   ·rw [if_pos hf] at htd
    obtain ⟨aw2,capw2,hwv2,-,-⟩:=hW1.w.rd Xi
    obtain ⟨al2,capl2,hlv2,-,-⟩:=hW1.l.rd Zs
    have hvl:=hW1.l
    rw [hlv2] at hvl
    have hwp:=(Ui hW1 L).wp
    unfold Ur at hwp
    rw [hwv2,hlv2] at hwp
    rw [e1] at hwp
    clear hA1 hA2 hB
    generalize hH:Yl G1 M1++L=H at *
    repeat' (first|refine uN ?_|refine Yd S ?_|refine Yu S ?_|refine uC (kst) ?_|refine Yy (fun _=>kst) ?_|refine Yz (fun _=>kst) ?_|refine Y0 (fun _=>kst) ?_|refine Y1 (fun _=>kst) ?_|(refine uB ?_;intro b)|(refine uP ?_ ?_<;>(intro h;((try simp only [zs,zq,reduceCtorEq] at h);try exact zx)))|refine da 101 ?_|fail)
    all_goals subst hH
    all_goals refine Zdx (L':=[(b,.cells ⟨sc ⟨ph,pr,att⟩⟩ 43)]::G1.lc::[(G.wp,.cells ⟨[.slice aw2 M1.w.length capw2,G1.nv,.map (some G1.mb),.slice al2 M1.l.length capl2,G1.ev]⟩ 110)]::G1.wc::G1.nc::[(G1.mb,.map ⟨G1.es⟩ G1.ck)]::G1.ec::Vi G1.nd M1.n 0::L) ?_ (by simp only [Yl,Zc0,Ur,List.cons_append,List.nil_append,hwv2,hlv2,e1];exact uL)
    all_goals refine Zz (σ:=Nat × Value × List Zm) (fun r=>[(0,pt G.wp 0),(1,iv s),(5,pt (Zg G s).np 0),(7,iv d),(8,pt b 0),(20,iv d),(49,iv M1.w.length),(50,iv r.1)]) (fun r=>[(b,.cells ⟨sc ⟨ph,pr,att⟩⟩ 43)]::r.2.2::[(G.wp,.cells ⟨[.slice aw2 M1.w.length capw2,G1.nv,.map (some G1.mb),r.2.1,G1.ev]⟩ 110)]::G1.wc::G1.nc::[(G1.mb,.map ⟨G1.es⟩ G1.ck)]::G1.ec::Vi G1.nd M1.n 0::L) (fun r=>r.1≤M1.w.length∧Xs r.2.1 (M1.l++(List.range r.1).map fun (i:Nat)=>(⟨s,(i:Int),d,7,pr,false,⟨ph,0,0⟩⟩:Fr)) r.2.2) (fun r=>M1.w.length-r.1) (0,.slice al2 M1.l.length capl2,G1.lc) uS (List.Sublist.refl _) ⟨by simp,by simpa using hvl⟩ ?_
    all_goals rintro ⟨i,lv3,lc3⟩ ⟨hi,hv3⟩
    all_goals simp only at hi hv3 ⊢
    all_goals obtain ⟨al3,capl3,hlv3,-,-⟩:=hv3.rd Zs
    all_goals subst hlv3
    all_goals
     by_cases hit:i<M1.w.length
     ·repeat' (first|refine uN ?_|refine Yd S ?_|refine Yu S ?_|(refine uB ?_;intro b)|(refine uP ?_ ?_<;>(intro h;((try simp only [zs,zq,reduceCtorEq] at h);try exact zx)))|refine da 101 ?_|fail)
      refine fo 2 ?_
      refine wp1 S (⟨s,(i:Int),d,7,pr,false,⟨ph,0,0⟩⟩:Fr) hv3 Zs Uv ?_ (hby:=by simp only [List.length_append,List.length_map,List.length_range];omega) (hmax:=by simp only [List.length_append,List.length_map,List.length_range];omega)
      intro v' c' hv'
      obtain ⟨a6,cap6,he6,-,-⟩:=hv'.rd Zs
      subst he6
      rw [List.append_assoc,← hsuccF i] at hv'
      repeat' (first|refine uN ?_|refine Yd S ?_|refine Yu S ?_|(refine uB ?_;intro b)|(refine uP ?_ ?_<;>(intro h;((try simp only [zs,zq,reduceCtorEq] at h);try exact zx)))|refine da 101 ?_|fail)
      refine Zy (i+1,_,c') uS ?_ ⟨by simp only;omega,hv'⟩ (by simp only;omega)
      rw [List.append_assoc,← hsuccF i]
      exact uL
     ·obtain rfl:i=M1.w.length:=by omega
      rw [← hdF] at hv3
      repeat' (first|refine uN ?_|refine Yd S ?_|refine Yu S ?_|(refine uB ?_;intro b)|(refine uP ?_ ?_<;>(intro h;((try simp only [zs,zq,reduceCtorEq] at h);try exact zx)))|refine da 101 ?_|fail)
      refine Zy (d+1,{ G1 with lv := .slice al3 (M1.l++Uk M1 s d ⟨ph,pr,att⟩).length capl3,lc:=lc3 }) uS ?_ ⟨by simp only;omega,by simp only [htd],by simp only [htd];exact hW1.setL hv3,e1,e2⟩ (by simp only;omega)
      simp only [htd,Yl,Zc0,Ur,List.cons_append,List.nil_append,hwv2,e1,hdF]
      exact uL
   ·rw [if_neg hf] at htd
    have hk:=fun L hG=>Zow T E G1 M1 s d pr L hG hW1 hM1 (by omega) h0 h1' hsite1 (by omega) (by omega)
    rw [← htd] at hk
    simp only [e1] at hk
    have ho:(Vp s M (d+1)).2=true∨(Vp s M (d+1)).2=false:=by cases (Vp s M (d+1)).2<;>simp
    clear hA1 hA2 hB
    generalize hH:Yl G1 M1++L=H at *
    rcases ho with ho|ho
    ·rw [ho] at hk
     repeat' (first|refine uN ?_|refine Yd S ?_|refine Yu S ?_|refine uC (kst) ?_|refine Yy (fun _=>kst) ?_|refine Yz (fun _=>kst) ?_|refine Y0 (fun _=>kst) ?_|refine Y1 (fun _=>kst) ?_|(refine uB ?_;intro b)|(refine uP ?_ ?_<;>(intro h;((try simp only [zs,zq,reduceCtorEq] at h);try exact zx)))|refine da 101 ?_|fail)
     all_goals subst hH
     all_goals refine Zcf (L':=Yl G1 M1++([(b,.cells ⟨sc ⟨ph,pr,att⟩⟩ 43)]::L)) ?_ ls_in
     all_goals refine gc (hk _ (hG.cons _)) ?_
     all_goals rintro v L' ⟨rfl,G3,f1,f2,f3,rfl⟩
     all_goals repeat' (first|refine uN ?_|refine Yd S ?_|refine Yu S ?_|refine uC (kst) ?_|refine Yy (fun _=>kst) ?_|refine Yz (fun _=>kst) ?_|refine Y0 (fun _=>kst) ?_|refine Y1 (fun _=>kst) ?_|(refine uB ?_;intro b)|(refine uP ?_ ?_<;>(intro h;((try simp only [zs,zq,reduceCtorEq] at h);try exact zx)))|refine da 101 ?_|fail)
     all_goals refine Zy (d+1,G3) uS ?_ ⟨by simp only;omega,ho,f3,f1.trans e1,f2.trans e2⟩ (by simp only;omega)
     all_goals simp only [List.flatten_append,List.flatten_cons]
     all_goals exact LS.boths _ (LS.skips _ (LS.refl _))
    ·rw [ho] at hk
     rw [hstop ho]
     repeat' (first|refine uN ?_|refine Yd S ?_|refine Yu S ?_|refine uC (kst) ?_|refine Yy (fun _=>kst) ?_|refine Yz (fun _=>kst) ?_|refine Y0 (fun _=>kst) ?_|refine Y1 (fun _=>kst) ?_|(refine uB ?_;intro b)|(refine uP ?_ ?_<;>(intro h;((try simp only [zs,zq,reduceCtorEq] at h);try exact zx)))|refine da 101 ?_|fail)
     all_goals subst hH
     all_goals refine Zcf (L':=Yl G1 M1++([(b,.cells ⟨sc ⟨ph,pr,att⟩⟩ 43)]::L)) ?_ ls_in
     all_goals refine gc (hk _ (hG.cons _)) ?_
     all_goals rintro v L' ⟨rfl,G3,f1,f2,f3,rfl⟩
     all_goals repeat' (first|refine uN ?_|refine Yd S ?_|refine Yu S ?_|refine uC (kst) ?_|refine Yy (fun _=>kst) ?_|refine Yz (fun _=>kst) ?_|refine Y0 (fun _=>kst) ?_|refine Y1 (fun _=>kst) ?_|(refine uB ?_;intro b)|(refine uP ?_ ?_<;>(intro h;((try simp only [zs,zq,reduceCtorEq] at h);try exact zx)))|refine da 101 ?_|fail)
     all_goals refine Xn (L':=Yl G3 (Vp s M (d+1)).1++L) ?_ ⟨rfl,G3,f1.trans e1,f2.trans e2,f3,rfl⟩
     all_goals simp only [List.flatten_append,List.flatten_cons]
     all_goals exact LS.boths _ (LS.skips _ (LS.refl _))
  ·obtain rfl:d=6:=by omega
   repeat' (first|refine uN ?_|refine Yd S ?_|refine Yu S ?_|(refine uB ?_;intro b)|(refine uP ?_ ?_<;>(intro h;((try simp only [zs,zq,reduceCtorEq] at h);try exact zx)))|refine da 101 ?_|fail)
   exact Uu rfl ⟨rfl,G1,e1,e2,hW1,rfl⟩
end Go.HL
end

/-! WoW -/
section
namespace Go.HL
open Go Go.Proofs
def Zjc (np bp ba sp bj mb:Nat):NdG:=⟨np,bp,ba,sp,bj,mb,[],0,List.replicate 6 (0,.pointer none,[])⟩
theorem Zls : ∀ {gs:List NdG} {ms:List Nd} {i:Nat} {g:NdG} {m:Nd},gs.length=ms.length→Vi (gs++[g]) (ms++[m]) i=Vi gs ms i++Zfv g ((i+gs.length:Nat):Int) m
 | [],[],i,g,m,_=>by simp [Vi]
 | [],_::_,_,_,_,h=>by simp at h
 | _::_,[],_,_,_,h=>by simp at h
 | g0::gs,m0::ms,i,g,m,h=>by
  have ih:=Zls (gs:=gs) (ms:=ms) (i:=i+1) (g:=g) (m:=m) (by simpa using h)
  simp only [List.cons_append,Vi,ih,List.append_assoc,List.length_cons]
  rw [show i+1+gs.length=i+(gs.length+1) by omega]
theorem newNd_ok (np bp ba sp bj mb:Nat):NdOk (Zjc np bp ba sp bj mb) newNd:=by
 refine ⟨rfl,fun d x hx=>?_,fun j ref e=>by cases e;exact Zft⟩
 simp only [newNd,Yn,List.getElem?_replicate] at hx
 split at hx<;>cases hx
theorem Zrr (np bp ba sp bj mb:Nat):Qm (Zjc np bp ba sp bj mb) newNd=[]:=rfl
theorem Zrs (np bp ba sp bj mb:Nat):X6 (Zd9 (Zjc np bp ba sp bj mb) newNd.site) bp (Yj (Zjc np bp ba sp bj mb) newNd) newNd.done=[pt sp 0,pt bp 0,.pointer none,.pointer none,.pointer none,.pointer none,.pointer none,.pointer none,.bool false,.bool false,.bool false,.bool false,.bool false,.bool false]:=rfl
theorem nds_new {gs:List NdG} {i:Nat} (np bp ba sp bj mb:Nat) (h:gs.length=i):Vi (gs++[Zjc np bp ba sp bj mb]) (List.replicate (i+1) newNd) 0=Vi gs (List.replicate i newNd) 0++(Q1 (Zjc np bp ba sp bj mb) newNd++(Yo bp ba ⟨Z4 512,false,-1⟩++(Zek sp bj mb i++(Zeq mb [] 0++jC bj bp ⟨Zv (Z4 512),false⟩)))):=by
 rw [List.replicate_succ',Zls (show gs.length=(List.replicate i newNd).length by rw [List.length_replicate,h]),h]
 unfold Zfv
 rw [Zrr,List.append_nil,Nat.zero_add]
 have:siB (Zjc np bp ba sp bj mb) i newNd.site=Zek sp bj mb i++Zeq mb [] 0++jC bj bp ⟨Zv (Z4 512),false⟩:=rfl
 rw [this]
 simp only [List.append_assoc]
 rfl
set_option maxHeartbeats 2000000 attribute [local irreducible] HW HO HQ HD HC QOp Has Upd Zo Gets Ye Z6 Zq X0 Z5 Zj X7 Zw
attribute [local irreducible] Yo Zv Z4
theorem Zos (T:Nat) (E:Nat→Addr) (v:Value) (w:List Int) (c:List Zm) (L:Zb) (hG:Er T E [2,3,4,6] L) (hv:Vec 3 1 ic v w c) (hl:w.length≤1000000) :
  HC Tryz.prog 17 [v] (c::L) (fun u L'=>match Xt w with
   | some e=>u = .tuple ⟨[.pointer none,eV T E (some e)]⟩∧L'=c::L
   | none => ∃ G,u = .tuple ⟨[pt G.wp 0,.nilIface]⟩∧WdOk G (Q2 w)∧L'=Yl G (Q2 w)++(c::L)):=by
 obtain ⟨aw,capw,rfl,-,hR⟩:=hv.rd Xi
 have kc:=Q7 T E aw capw w (c::L) (hG.sub.cons c) (hR L) hl
 have kcl:=fun L=>Znc _ w c L hv (by omega)
 cases hc:Xt w with
 | some e =>
  rw [hc] at kc
  refine Za (fun _ _=>Tryz.call17 _ _) Tryz.func17 rfl Tryz.ntmps17 (Nat.le_of_ble_eq_true rfl) ?_;simp only [Ze,Nat.reduceAdd]
  repeat' (first|refine uN ?_|refine uC (kc) ?_|(refine uB ?_;intro b)|(refine uP ?_ ?_<;>(intro h;((try simp only [zs,zq,reduceCtorEq] at h);try exact zx)))|fail)
  exact Zbj rfl ⟨rfl,rfl⟩
 | none =>
  rw [hc] at kc
  obtain ⟨c1,c2,-⟩:=V6 hc
  have kp:=fun L hG=>Zhw T E 512 L hG
  rw [show Zlt 512=some ⟨Z4 512,false,-1⟩ from rfl] at kp
  have hz:=Zsp 512
  have ks:=fun (i:Nat) (hi:i<7) bp ba L hG=>Zgg T E (i:Int) bp ba ⟨Z4 512,false,-1⟩ L hG (by simp only;omega)
  have hse : ∀ i:Nat,i<7→Zh7 (i:Int) ⟨Z4 512,false,-1⟩=none:=fun i hi=>by
   unfold Zh7
   rw [if_neg (by omega)]
   simp only
   rw [if_neg (by omega)]
   simp
  refine Za (fun _ _=>Tryz.call17 _ _) Tryz.func17 rfl Tryz.ntmps17 (Nat.le_of_ble_eq_true rfl) ?_;simp only [Ze,Nat.reduceAdd]
  repeat' (first|refine uN ?_|refine uC (kc) ?_|(refine uB ?_;intro b)|(refine uP ?_ ?_<;>(intro h;((try simp only [zs,zq,reduceCtorEq] at h);try exact zx)))|fail)
  refine gc (kcl _) ?_
  rintro u L' ⟨cw,hvw,rfl⟩
  obtain ⟨aw2,capw2,rfl,-,-⟩:=hvw.rd Xi
  repeat' (first|refine uN ?_|refine uC (kc) ?_|(refine uB ?_;intro b)|(refine uP ?_ ?_<;>(intro h;((try simp only [zs,zq,reduceCtorEq] at h);try exact zx)))|fail)
  rename_i mb
  obtain ⟨wp,rfl⟩ : ∃ wp,wp=b:=⟨b,rfl⟩
  refine Zdx (L':=[(wp,.cells ⟨[.slice aw2 w.length capw2,Wn,.map (some mb),Wn,Wn]⟩ 110)]::[]::[(mb,.map ⟨[]⟩ 0)]::cw::[]::c::L) ?_ uL
  refine Zz (σ:=Nat × Value × List Zm × List NdG) (fun r=>[(5,pt wp 0),(20,.slice aw w.length capw),(21,iv w.length),(22,iv r.1)])
   (fun r=>[(wp,.cells ⟨[.slice aw2 w.length capw2,r.2.1,.map (some mb),Wn,Wn]⟩ 110)]::r.2.2.1::[(mb,.map ⟨[]⟩ 0)]::cw::Vi r.2.2.2 (List.replicate r.1 newNd) 0::c::L)
   (fun r=>r.1≤w.length∧r.2.2.2.length=r.1∧Vec 117 1 pc r.2.1 (r.2.2.2.map (·.np)) r.2.2.1 ∧ ∀ (k:Nat) (g:NdG),r.2.2.2[k]? = some g→NdOk g newNd) (fun r=>w.length-r.1) (0,Wn,[],[]) uS (List.Sublist.refl _) ⟨by simp,rfl,Yg,fun k g h=>by simp at h⟩ ?_
  rintro ⟨i,nv,nc,gs⟩ ⟨hi,hgl,hnv,hgk⟩
  simp only at hi hgl hnv hgk ⊢
  obtain ⟨an,capn,he,-,-⟩:=hnv.rd Zf2
  subst he
  have hml:(gs.map (·.np)).length=i:=by simp [hgl]
  by_cases hit:i<w.length
  ·have ks2:=ks i (by omega)
   rw [hse i (by omega)] at ks2
   repeat' (first|refine uN ?_|refine uC (kc) ?_|(refine uB ?_;intro b)|(refine uP ?_ ?_<;>(intro h;((try simp only [zs,zq,reduceCtorEq] at h);try exact zx)))|fail)
   refine gc (kp _ (by repeat (first|exact hG|exact hG.sub|apply Errs.cons))) ?_
   rintro v L' ⟨bp,ba,rfl,rfl⟩
   repeat' (first|refine uN ?_|refine uC (kc) ?_|(refine uB ?_;intro b)|(refine uP ?_ ?_<;>(intro h;((try simp only [zs,zq,reduceCtorEq] at h);try exact zx)))|fail)
   refine gc (ks2 bp ba _ (by repeat (first|exact hG|exact hG.sub|apply Errs.cons))) ?_
   rintro v L' ⟨sp,bj,mb2,rfl,rfl⟩
   repeat' (first|refine uN ?_|refine uC (kc) ?_|(refine uB ?_;intro b)|(refine uP ?_ ?_<;>(intro h;((try simp only [zs,zq,reduceCtorEq] at h);try exact zx)))|fail)
   rename_i np
   refine fo 7 ?_
   refine wp1 S np hnv Zf2 pc_one ?_ (hby:=by rw [hml];omega) (hmax:=by rw [hml];omega)
   intro v' c' hv'
   obtain ⟨an2,capn2,he2,-,-⟩:=hv'.rd Zf2
   subst he2
   have hnew:=newNd_ok np bp ba sp bj mb2
   repeat' (first|refine uN ?_|refine uC (kc) ?_|(refine uB ?_;intro b)|(refine uP ?_ ?_<;>(intro h;((try simp only [zs,zq,reduceCtorEq] at h);try exact zx)))|fail)
   refine Zy (i+1,.slice an2 (gs.map (·.np)++[np]).length capn2,c',gs++[Zjc np bp ba sp bj mb2]) uS ?_ ⟨by simp only;omega,by simp [hgl],by rw [List.map_append];exact hv',fun k g hk=>?_⟩ (by simp only;omega)
   ·simp only [nds_new np bp ba sp bj mb2 hgl]
    refine LS.trans (b:=([(wp,.cells ⟨[.slice aw2 w.length capw2,.slice an2 (gs.map (·.np)++[np]).length capn2,.map (some mb),Wn,Wn]⟩ 110)]::c'::[(mb,.map ⟨[]⟩ 0)]::cw::Vi gs (List.replicate i newNd) 0::Q1 (Zjc np bp ba sp bj mb2) newNd::Yo bp ba ⟨Z4 512,false,-1⟩::Zek sp bj mb2 i::Zeq mb2 [] 0::jC bj bp ⟨Zv (Z4 512),false⟩::c::L).flatten) (LS.of_eq ?_) ?_
    ·simp only [List.flatten_cons,List.append_assoc]
    ·simp only [Q1,Qb,Zrs]
     exact uL
   ·rw [List.getElem?_append] at hk
    split at hk
    ·exact hgk k g hk
    ·rename_i hk2
     have:k-gs.length=0:=by
      by_cases e:k-gs.length=0
      ·exact e
      ·simp [e] at hk
     rw [this] at hk
     cases hk
     exact hnew
  ·obtain rfl:i=w.length:=by omega
   repeat' (first|refine uN ?_|refine uC (kc) ?_|(refine uB ?_;intro b)|(refine uP ?_ ?_<;>(intro h;((try simp only [zs,zq,reduceCtorEq] at h);try exact zx)))|fail)
   refine Wz (L':=Yl ⟨wp,.slice aw2 w.length capw2,cw,.slice an (gs.map (·.np)).length capn,nc,mb,[],0,Wn,[],Wn,[],gs⟩ (Q2 w)++(c::L)) ?_ ⟨⟨wp,.slice aw2 w.length capw2,cw,.slice an (gs.map (·.np)).length capn,nc,mb,[],0,Wn,[],Wn,[],gs⟩,rfl,⟨hvw,hnv,by simp [Q2,hgl],Zft,Yg,Yg,fun s g m h1 h2=>?_⟩,rfl⟩
   ·simp only [Yl,Zc0,Ur,List.cons_append,List.nil_append,Q2]
    exact uL
   ·simp only [Q2,List.getElem?_replicate] at h2
    split at h2
    ·cases h2
     exact hgk s g h1
    ·cases h2
end Go.HL
end

/-! PwA -/
section
namespace Go.HL
open Go Go.Proofs
def oneW (M:Wm) (v:Int):Wm × Option Nat:=
 if v % 16<9∧M.l.length=0 then (M,some 4) else
 if v % 16=7 then Q9 M (v / 16 % M.l.length) else
 if v % 16=8 then Uh M (v / 16 % M.l.length) else
 if v % 16=9 then Vg M (v / 16 % 7) (v / 16 / 7 % 6) else
 if v % 16=10 then U8 M (v / 16 % 7) else
 if v % 16=11 then W7 M (v / 16 % 7) (v / 16 / 7 % 6) else
 if v % 16=12 then U1 M (v / 16 % 7) (v / 16 / 7 % 6) (decide (v / 16 % 2=0)) else
 if v % 16=13 then Ze6 M (v / 16 % 7) (v / 16 % 40) else
 if v % 16=14 then Q8 M (v / 16 % 7) else
 if v % 16=15 then Zst M (v / 16 % 7) else
 Yc M (v / 16 % M.l.length)
def okW (e:Option Nat):Prop:=e=none∨e=some 2∨e=some 4∨e=some 6∨e=some 8
theorem Zay (M:Wm) (s:Int):okW (X2 M s):=by unfold X2 okW;split<;>simp
theorem Zmk (M:Wm) (s:Int):okW (Zgy M s):=by
 unfold Zgy
 have:=Zay M s
 split
 ·rename_i e he
  rw [he] at this
  exact this
 ·unfold okW;split<;>simp
theorem wat_w (M:Wm) (k:Int):okW (Zsj M k):=by unfold Zsj okW;split<;>simp
theorem begin_w (M:Wm) (s d:Int):okW (Vg M s d).2:=by
 unfold Vg
 split
 ·unfold okW;simp
 have:=Zmk M s
 split
 ·rename_i e he
  rw [he] at this
  exact this
 split<;>(unfold okW;simp)
theorem refuse_w (M:Wm) (s d:Int):okW (W7 M s d).2:=by
 unfold W7
 split
 ·unfold okW;simp
 have:=Zmk M s
 split
 ·rename_i e he
  rw [he] at this
  exact this
 ·unfold okW;simp
theorem tick_w (M:Wm) (s:Int):okW (U8 M s).2:=by
 unfold U8
 have:=Zmk M s
 split
 ·rename_i e he
  rw [he] at this
  exact this
 ·unfold okW;simp
theorem Zqz (M:Wm) (k:Int):okW (Yc M k).2:=by
 unfold Yc
 have:=wat_w M k
 split
 ·rename_i e he
  rw [he] at this
  exact this
 ·simp only
  split
  ·unfold okW;simp
  split
  ·split<;>(unfold okW;simp)
  ·unfold okW;simp
theorem drop_w (M:Wm) (k:Int):okW (Q9 M k).2:=by
 unfold Q9
 have:=wat_w M k
 split
 ·rename_i e he
  rw [he] at this
  exact this
 ·unfold okW;simp
theorem twice_w (M:Wm) (k:Int):okW (Uh M k).2:=by
 unfold Uh
 have:=wat_w M k
 split
 ·rename_i e he
  rw [he] at this
  exact this
 ·unfold okW;simp
theorem link_w (M:Wm) (a b:Int) (c:Bool):okW (U1 M a b c).2:=by unfold U1;split<;>(unfold okW;simp)
theorem cut_w (M:Wm) (s n:Int):okW (Ze6 M s n).2:=by
 unfold Ze6
 split
 ·unfold okW;simp
 have:=Zmk M s
 split
 ·rename_i e he
  rw [he] at this
  exact this
 ·unfold okW;simp
theorem down_w (M:Wm) (s:Int):okW (Q8 M s).2:=by
 unfold Q8
 have:=Zmk M s
 split
 ·rename_i e he
  rw [he] at this
  exact this
 ·unfold okW;simp
theorem up_w (M:Wm) (s:Int):okW (Zst M s).2:=by
 unfold Zst
 have:=Zay M s
 split
 ·rename_i e he
  rw [he] at this
  exact this
 ·split<;>(unfold okW;simp)
theorem okW.ok {e:Option Nat} (h:okW e):okE e:=by
 rcases h with h|h|h|h|h<;>(rw [h];first|exact .inl rfl|(refine .inr ⟨_,rfl,?_⟩;decide)|trivial|decide)
set_option maxHeartbeats 2000000 attribute [local irreducible] HW HO HQ HD HC QOp Has Upd Zo Gets Ye Z6 Zq X0 Z5 Zj X7 Zw
attribute [local irreducible] X6 Z2 Yo Z3 Y5 Zv Zcy U8 Vg Yc Zst
end Go.HL
end

/-! PwB -/
section
namespace Go.HL
open Go Go.Proofs
def runV (q:Wm × List Int) (v:Int):Wm × List Int:=if 0≤v then ((oneW q.1 v).1,q.2++[Zqu (oneW q.1 v).2]) else (q.1,q.2++[-1])
def runW (M:Wm) (l:List Int):Wm × List Int:=(l.take 3000).foldl runV (M,[])
theorem Zep {A L:Zb} {b:Nat} {o:Obj} (h:Has L b o):Has (A++L) b o:=by
 unfold Has at *
 rw [List.flatten_append]
 exact List.mem_append_right _ h
set_option maxHeartbeats 2000000 attribute [local irreducible] HW HO HQ HD HC QOp Has Upd Zo Gets Ye Z6 Zq X0 Z5 Zj X7 Zw
attribute [local irreducible] oneW
end Go.HL
end

/-! ErD3 -/
section
namespace Go.HL
open Go Go.Proofs
set_option maxHeartbeats 2000000 attribute [local irreducible] HW HO HQ HD HC QOp Has Upd Zo Gets Ye Z6 Zq X0 Z5 Zj X7 Zw
end Go.HL
end

/-! PwC -/
section
namespace Go.HL
open Go Go.Proofs
set_option maxHeartbeats 2000000 attribute [local irreducible] HW HO HQ HD HC QOp Has Upd Zo Gets Ye Z6 Zq X0 Z5 Zj X7 Zw
attribute [local irreducible] Vg Q2
end Go.HL
end

/-! PwD -/
section
namespace Go.HL
open Go Go.Proofs
def Xg (G:WdG) (M:Wm):List Zm:=(Yl G M).flatten
theorem Qu (G:WdG) (M:Wm) (L:Zb):(Xg G M::L).flatten=(Yl G M++L).flatten:=by
 unfold Xg
 rw [List.flatten_cons,List.flatten_append]
def Zoy (G:WdG) (M':Wm) (L L':Zb):Prop := ∃ G',G'.wp=G.wp∧WdOk G' M'∧L'=Xg G' M'::L
theorem HC.shut {F:Nat} {args:List Value} {G:WdG} {M M':Wm} {L:Zb} {V:Value→Prop} (h:HC Tryz.prog F args (Yl G M++L) (fun v L'=>V v∧Zdp G M' L L')):HC Tryz.prog F args (Xg G M::L) (fun v L'=>V v∧Zoy G M' L L'):=by
 refine HC.post (HC.fl h (Qu G M L).symm) ?_
 rintro v L' ⟨hv,G',e1,e2,e3,rfl⟩
 exact ⟨Xg G' M'::L,LS.of_eq (Qu G' M' L),hv,G',e1,e3,rfl⟩
theorem HC.shutR {F:Nat} {args:List Value} {G:WdG} {M:Wm} {L:Zb} {V:Value→List Zm→Prop} (h:HC Tryz.prog F args (Yl G M++L) (fun v L' => ∃ c,V v c∧L'=c::(Yl G M++L))):HC Tryz.prog F args (Xg G M::L) (fun v L' => ∃ c,V v c∧L'=c::Xg G M::L):=by
 refine HC.post (HC.fl h (Qu G M L).symm) ?_
 rintro v L' ⟨c,hv,rfl⟩
 refine ⟨c::Xg G M::L,?_,c,hv,rfl⟩
 rw [List.flatten_cons,Qu,List.flatten_cons]
 exact LS.refl _
theorem HC.shutN {F:Nat} {args:List Value} {M:Wm} {L:Zb} {V:Value→WdG→Prop} {K:Zb} (h:HC Tryz.prog F args K (fun v L' => ∃ G,V v G∧WdOk G M∧L'=Yl G M++L)):HC Tryz.prog F args K (fun v L' => ∃ G,V v G∧WdOk G M∧L'=Xg G M::L):=by
 refine HC.post h ?_
 rintro v L' ⟨G,hv,hW,rfl⟩
 exact ⟨Xg G M::L,LS.of_eq (Qu G M L),G,hv,hW,rfl⟩
theorem HC.shutQ {F:Nat} {args:List Value} {G:WdG} {M:Wm} {L:Zb} {V:Value} (h:HC Tryz.prog F args (Yl G M++L) (fun v L'=>v=V∧L'=Yl G M++L)):HC Tryz.prog F args (Xg G M::L) (fun v L'=>v=V∧L'=Xg G M::L):=by
 refine HC.post (HC.fl h (Qu G M L).symm) ?_
 rintro v L' ⟨hv,rfl⟩
 exact ⟨Xg G M::L,LS.of_eq (Qu G M L),hv,rfl⟩
set_option maxHeartbeats 2000000 attribute [local irreducible] HW HO HQ HD HC QOp Has Upd Zo Gets Ye Z6 Zq X0 Z5 Zj X7 Zw
attribute [local irreducible] runW Q2
end Go.HL
end

/-! ScB -/
section
namespace Go.HL
open Go Go.Proofs
def Wl (k:Nat) (M:Wm) (n:List Int):Wm × Option Nat:=
 match k with
 | 0=>Vg M (n.getD 0 0) (n.getD 1 0)
 | 1=>W7 M (n.getD 0 0) (n.getD 1 0)
 | 2=>U8 M (n.getD 0 0)
 | 3=>Yc M (n.getD 0 0)
 | 4=>Q9 M (n.getD 0 0)
 | 5=>Uh M (n.getD 0 0)
 | 6=>U1 M (n.getD 0 0) (n.getD 1 0) true
 | 7=>U1 M (n.getD 0 0) (n.getD 1 0) false
 | 8=>Ze6 M (n.getD 0 0) (n.getD 1 0)
 | 9=>Q8 M (n.getD 0 0)
 | _=>Zst M (n.getD 0 0)
theorem cmdW_ok {M:Wm} (h:WI M) (k:Nat) (n:List Int) (h0:n.getD 1 0≤9223372036854775807):StepOk M (Wl k M n).1 84:=by
 unfold Wl
 split
 ·exact (begin_ok h _ _).mono (by omega)
 ·exact (Zr7 h _ _).mono (by omega)
 ·exact (tick_ok h _).mono (by omega)
 ·exact (Qg h _).mono (by omega)
 ·exact (drop_ok h _).mono (by omega)
 ·exact (twice_ok h _).mono (by omega)
 ·exact (Zpq h _ _ _).mono (by omega)
 ·exact (Zpq h _ _ _).mono (by omega)
 ·exact (cut_ok h _ _ h0).mono (by omega)
 ·exact (down_ok h _).mono (by omega)
 ·exact (up_ok h _).mono (by omega)
theorem cmdW_w (k:Nat) (M:Wm) (n:List Int):okW (Wl k M n).2:=by
 unfold Wl
 split
 ·exact begin_w _ _ _
 ·exact refuse_w _ _ _
 ·exact tick_w _ _
 ·exact Zqz _ _
 ·exact drop_w _ _
 ·exact twice_w _ _
 ·exact link_w _ _ _ _
 ·exact link_w _ _ _ _
 ·exact cut_w _ _ _
 ·exact down_w _ _
 ·exact up_w _ _
def Zi (p:Nat) (wp:Value):List Zm:=[(p,.cells ⟨[wp]⟩ 176)]
theorem Zp2 {L:Zb} {a:Option Addr} {ns:List Int} (h:Rd ic 1 L a ns) (hn:1≤ns.length) : ∃ b i q F fr,a=some ⟨b,i,none⟩∧Has L b (.cells ⟨q⟩ F fr)∧Gets q (i+(0:Int).toNat) [iv (ns.getD 0 0)]∧(2≤ns.length→Gets q (i+(1:Int).toNat) [iv (ns.getD 1 0)]):=by
 rcases h with h|⟨b,i,l,E,fr,h2,h3,h4⟩
 ·subst h;simp at hn
 ·refine ⟨b,i,l,E,fr,h2,h3,h4 0 _ ?_,fun h=>h4 1 _ ?_⟩
  ·cases ns with
   | nil=>simp at hn
   | cons a r=>rfl
  ·match ns,h with
   | a::c::r,_=>rfl
set_option maxHeartbeats 2000000 attribute [local irreducible] HW HO HQ HD HC QOp Has Upd Zo Gets Ye Z6 Zq X0 Z5 Zj X7 Zw
attribute [local irreducible] Xg U8 Yc Vg W7 Q9 Uh U1 Ze6 Q8 Zst
section
variable (T:Nat) (E:Nat→Addr) (G:WdG) (M:Wm) (p:Nat) (a:Option Addr) (cap:Nat) (ns:List Int) (L:Zb)
theorem Zmy (hE:Es T E L) (hW:WdOk G M) (hM:WI M) (hl:M.l.length≤99999000) (hR:Rd ic 1 L a ns) (hn:2≤ns.length) (hcap:ns.length≤cap) (h48:ns.length≤1000) :
  HC Tryz.prog 230 [pt p 0,.slice a ns.length cap] (Xg G M::Zi p (pt G.wp 0)::L) (fun v L'=>v=eV T E (Wl 0 M ns).2∧Zoy G (Wl 0 M ns).1 (Zi p (pt G.wp 0)::L) L'):=by
 have hG:=(hE.er [2,3,4,5,6,8]).cons (Zi p (pt G.wp 0))
 have k:=HC.shut (Zjv T E G M (ns.getD 0 0) (ns.getD 1 0) _ hG.sub hW hM (by omega))
 obtain ⟨b1,i1,q1,F1,f1,rfl,hb1,hg1,hg2⟩:=Zp2 hR (by omega)
 have hg2:=hg2 (by omega)
 have hb1:=(Zc (Zc hb1):Has (Xg G M::Zi p (pt G.wp 0)::L) _ _)
 unfold Zi at *
 refine Za (fun _ _=>Tryz.call230 _ _) Tryz.func230 rfl Tryz.ntmps230 (Nat.le_of_ble_eq_true rfl) ?_;simp only [Ze,Nat.reduceAdd]
 repeat' (first|refine uN ?_|refine Z0 S ?_|refine da 101 ?_|fail)
 refine gc k ?_
 rintro v L' ⟨rfl,G2,e1,hW2,rfl⟩
 repeat' (first|refine uN ?_|refine Z0 S ?_|refine da 101 ?_|fail)
 exact Uu rfl ⟨rfl,G2,e1,hW2,rfl⟩
theorem Zmz (hE:Es T E L) (hW:WdOk G M) (hM:WI M) (hl:M.l.length≤99999000) (hR:Rd ic 1 L a ns) (hn:2≤ns.length) (hcap:ns.length≤cap) (h48:ns.length≤1000) :
  HC Tryz.prog 231 [pt p 0,.slice a ns.length cap] (Xg G M::Zi p (pt G.wp 0)::L) (fun v L'=>v=eV T E (Wl 1 M ns).2∧Zoy G (Wl 1 M ns).1 (Zi p (pt G.wp 0)::L) L'):=by
 have hG:=(hE.er [2,3,4,5,6,8]).cons (Zi p (pt G.wp 0))
 have k:=HC.shut (Zhb T E G M (ns.getD 0 0) (ns.getD 1 0) _ hG.sub hW hM)
 obtain ⟨b1,i1,q1,F1,f1,rfl,hb1,hg1,hg2⟩:=Zp2 hR (by omega)
 have hg2:=hg2 (by omega)
 have hb1:=(Zc (Zc hb1):Has (Xg G M::Zi p (pt G.wp 0)::L) _ _)
 unfold Zi at *
 refine Za (fun _ _=>Tryz.call231 _ _) Tryz.func231 rfl Tryz.ntmps231 (Nat.le_of_ble_eq_true rfl) ?_;simp only [Ze,Nat.reduceAdd]
 repeat' (first|refine uN ?_|refine Z0 S ?_|refine da 101 ?_|fail)
 refine gc k ?_
 rintro v L' ⟨rfl,G2,e1,hW2,rfl⟩
 repeat' (first|refine uN ?_|refine Z0 S ?_|refine da 101 ?_|fail)
 exact Uu rfl ⟨rfl,G2,e1,hW2,rfl⟩
theorem Zm0 (hE:Es T E L) (hW:WdOk G M) (hM:WI M) (hl:M.l.length≤99999000) (hR:Rd ic 1 L a ns) (hn:1≤ns.length) (hcap:ns.length≤cap) (h48:ns.length≤1000) :
  HC Tryz.prog 232 [pt p 0,.slice a ns.length cap] (Xg G M::Zi p (pt G.wp 0)::L) (fun v L'=>v=eV T E (Wl 2 M ns).2∧Zoy G (Wl 2 M ns).1 (Zi p (pt G.wp 0)::L) L'):=by
 have hG:=(hE.er [2,3,4,5,6,8]).cons (Zi p (pt G.wp 0))
 have k:=HC.shut (Zmt T E G M (ns.getD 0 0) _ hG.sub hW hM (by omega))
 obtain ⟨b1,i1,q1,F1,f1,rfl,hb1,hg1,hg2⟩:=Zp2 hR (by omega)
 clear hg2
 have hb1:=(Zc (Zc hb1):Has (Xg G M::Zi p (pt G.wp 0)::L) _ _)
 unfold Zi at *
 refine Za (fun _ _=>Tryz.call232 _ _) Tryz.func232 rfl Tryz.ntmps232 (Nat.le_of_ble_eq_true rfl) ?_;simp only [Ze,Nat.reduceAdd]
 repeat' (first|refine uN ?_|refine Z0 S ?_|refine da 101 ?_|fail)
 refine gc k ?_
 rintro v L' ⟨rfl,G2,e1,hW2,rfl⟩
 repeat' (first|refine uN ?_|refine Z0 S ?_|refine da 101 ?_|fail)
 exact Uu rfl ⟨rfl,G2,e1,hW2,rfl⟩
theorem Zm1 (hE:Es T E L) (hW:WdOk G M) (hM:WI M) (hl:M.l.length≤99999000) (hR:Rd ic 1 L a ns) (hn:1≤ns.length) (hcap:ns.length≤cap) (h48:ns.length≤1000) :
  HC Tryz.prog 233 [pt p 0,.slice a ns.length cap] (Xg G M::Zi p (pt G.wp 0)::L) (fun v L'=>v=eV T E (Wl 3 M ns).2∧Zoy G (Wl 3 M ns).1 (Zi p (pt G.wp 0)::L) L'):=by
 have hG:=(hE.er [2,3,4,5,6,8]).cons (Zi p (pt G.wp 0))
 have k:=HC.shut (Zaq T E G M (ns.getD 0 0) _ hG.sub hW hM (by omega))
 obtain ⟨b1,i1,q1,F1,f1,rfl,hb1,hg1,hg2⟩:=Zp2 hR (by omega)
 clear hg2
 have hb1:=(Zc (Zc hb1):Has (Xg G M::Zi p (pt G.wp 0)::L) _ _)
 unfold Zi at *
 refine Za (fun _ _=>Tryz.call233 _ _) Tryz.func233 rfl Tryz.ntmps233 (Nat.le_of_ble_eq_true rfl) ?_;simp only [Ze,Nat.reduceAdd]
 repeat' (first|refine uN ?_|refine Z0 S ?_|refine da 101 ?_|fail)
 refine gc k ?_
 rintro v L' ⟨rfl,G2,e1,hW2,rfl⟩
 repeat' (first|refine uN ?_|refine Z0 S ?_|refine da 101 ?_|fail)
 exact Uu rfl ⟨rfl,G2,e1,hW2,rfl⟩
theorem Zm2 (hE:Es T E L) (hW:WdOk G M) (hM:WI M) (hl:M.l.length≤99999000) (hR:Rd ic 1 L a ns) (hn:1≤ns.length) (hcap:ns.length≤cap) (h48:ns.length≤1000) :
  HC Tryz.prog 234 [pt p 0,.slice a ns.length cap] (Xg G M::Zi p (pt G.wp 0)::L) (fun v L'=>v=eV T E (Wl 4 M ns).2∧Zoy G (Wl 4 M ns).1 (Zi p (pt G.wp 0)::L) L'):=by
 have hG:=(hE.er [2,3,4,5,6,8]).cons (Zi p (pt G.wp 0))
 have k:=HC.shut (Zmp T E G M (ns.getD 0 0) _ hG.sub hW (by omega))
 obtain ⟨b1,i1,q1,F1,f1,rfl,hb1,hg1,hg2⟩:=Zp2 hR (by omega)
 clear hg2
 have hb1:=(Zc (Zc hb1):Has (Xg G M::Zi p (pt G.wp 0)::L) _ _)
 unfold Zi at *
 refine Za (fun _ _=>Tryz.call234 _ _) Tryz.func234 rfl Tryz.ntmps234 (Nat.le_of_ble_eq_true rfl) ?_;simp only [Ze,Nat.reduceAdd]
 repeat' (first|refine uN ?_|refine Z0 S ?_|refine da 101 ?_|fail)
 refine gc k ?_
 rintro v L' ⟨rfl,G2,e1,hW2,rfl⟩
 repeat' (first|refine uN ?_|refine Z0 S ?_|refine da 101 ?_|fail)
 exact Uu rfl ⟨rfl,G2,e1,hW2,rfl⟩
theorem Zm3 (hE:Es T E L) (hW:WdOk G M) (hM:WI M) (hl:M.l.length≤99999000) (hR:Rd ic 1 L a ns) (hn:1≤ns.length) (hcap:ns.length≤cap) (h48:ns.length≤1000) :
  HC Tryz.prog 235 [pt p 0,.slice a ns.length cap] (Xg G M::Zi p (pt G.wp 0)::L) (fun v L'=>v=eV T E (Wl 5 M ns).2∧Zoy G (Wl 5 M ns).1 (Zi p (pt G.wp 0)::L) L'):=by
 have hG:=(hE.er [2,3,4,5,6,8]).cons (Zi p (pt G.wp 0))
 have k:=HC.shut (Zj1 T E G M (ns.getD 0 0) _ hG.sub hW (by omega))
 obtain ⟨b1,i1,q1,F1,f1,rfl,hb1,hg1,hg2⟩:=Zp2 hR (by omega)
 clear hg2
 have hb1:=(Zc (Zc hb1):Has (Xg G M::Zi p (pt G.wp 0)::L) _ _)
 unfold Zi at *
 refine Za (fun _ _=>Tryz.call235 _ _) Tryz.func235 rfl Tryz.ntmps235 (Nat.le_of_ble_eq_true rfl) ?_;simp only [Ze,Nat.reduceAdd]
 repeat' (first|refine uN ?_|refine Z0 S ?_|refine da 101 ?_|fail)
 refine gc k ?_
 rintro v L' ⟨rfl,G2,e1,hW2,rfl⟩
 repeat' (first|refine uN ?_|refine Z0 S ?_|refine da 101 ?_|fail)
 exact Uu rfl ⟨rfl,G2,e1,hW2,rfl⟩
theorem Zm4 (hE:Es T E L) (hW:WdOk G M) (hM:WI M) (hl:M.l.length≤99999000) (hR:Rd ic 1 L a ns) (hn:2≤ns.length) (hcap:ns.length≤cap) (h48:ns.length≤1000) :
  HC Tryz.prog 236 [pt p 0,.slice a ns.length cap] (Xg G M::Zi p (pt G.wp 0)::L) (fun v L'=>v=eV T E (Wl 6 M ns).2∧Zoy G (Wl 6 M ns).1 (Zi p (pt G.wp 0)::L) L'):=by
 have hG:=(hE.er [2,3,4,5,6,8]).cons (Zi p (pt G.wp 0))
 have k:=HC.shut (Zec T E G M (ns.getD 0 0) (ns.getD 1 0) true _ hG.sub hW)
 obtain ⟨b1,i1,q1,F1,f1,rfl,hb1,hg1,hg2⟩:=Zp2 hR (by omega)
 have hg2:=hg2 (by omega)
 have hb1:=(Zc (Zc hb1):Has (Xg G M::Zi p (pt G.wp 0)::L) _ _)
 unfold Zi at *
 refine Za (fun _ _=>Tryz.call236 _ _) Tryz.func236 rfl Tryz.ntmps236 (Nat.le_of_ble_eq_true rfl) ?_;simp only [Ze,Nat.reduceAdd]
 repeat' (first|refine uN ?_|refine Z0 S ?_|refine da 101 ?_|fail)
 refine gc k ?_
 rintro v L' ⟨rfl,G2,e1,hW2,rfl⟩
 repeat' (first|refine uN ?_|refine Z0 S ?_|refine da 101 ?_|fail)
 exact Uu rfl ⟨rfl,G2,e1,hW2,rfl⟩
theorem Zm5 (hE:Es T E L) (hW:WdOk G M) (hM:WI M) (hl:M.l.length≤99999000) (hR:Rd ic 1 L a ns) (hn:2≤ns.length) (hcap:ns.length≤cap) (h48:ns.length≤1000) :
  HC Tryz.prog 237 [pt p 0,.slice a ns.length cap] (Xg G M::Zi p (pt G.wp 0)::L) (fun v L'=>v=eV T E (Wl 7 M ns).2∧Zoy G (Wl 7 M ns).1 (Zi p (pt G.wp 0)::L) L'):=by
 have hG:=(hE.er [2,3,4,5,6,8]).cons (Zi p (pt G.wp 0))
 have k:=HC.shut (Zec T E G M (ns.getD 0 0) (ns.getD 1 0) false _ hG.sub hW)
 obtain ⟨b1,i1,q1,F1,f1,rfl,hb1,hg1,hg2⟩:=Zp2 hR (by omega)
 have hg2:=hg2 (by omega)
 have hb1:=(Zc (Zc hb1):Has (Xg G M::Zi p (pt G.wp 0)::L) _ _)
 unfold Zi at *
 refine Za (fun _ _=>Tryz.call237 _ _) Tryz.func237 rfl Tryz.ntmps237 (Nat.le_of_ble_eq_true rfl) ?_;simp only [Ze,Nat.reduceAdd]
 repeat' (first|refine uN ?_|refine Z0 S ?_|refine da 101 ?_|fail)
 refine gc k ?_
 rintro v L' ⟨rfl,G2,e1,hW2,rfl⟩
 repeat' (first|refine uN ?_|refine Z0 S ?_|refine da 101 ?_|fail)
 exact Uu rfl ⟨rfl,G2,e1,hW2,rfl⟩
theorem Zm6 (hE:Es T E L) (hW:WdOk G M) (hM:WI M) (hl:M.l.length≤99999000) (hR:Rd ic 1 L a ns) (hn:2≤ns.length) (hcap:ns.length≤cap) (h48:ns.length≤1000) :
  HC Tryz.prog 238 [pt p 0,.slice a ns.length cap] (Xg G M::Zi p (pt G.wp 0)::L) (fun v L'=>v=eV T E (Wl 8 M ns).2∧Zoy G (Wl 8 M ns).1 (Zi p (pt G.wp 0)::L) L'):=by
 have hG:=(hE.er [2,3,4,5,6,8]).cons (Zi p (pt G.wp 0))
 have k:=HC.shut (Zoq T E G M (ns.getD 0 0) (ns.getD 1 0) _ hG.sub hW hM)
 obtain ⟨b1,i1,q1,F1,f1,rfl,hb1,hg1,hg2⟩:=Zp2 hR (by omega)
 have hg2:=hg2 (by omega)
 have hb1:=(Zc (Zc hb1):Has (Xg G M::Zi p (pt G.wp 0)::L) _ _)
 unfold Zi at *
 refine Za (fun _ _=>Tryz.call238 _ _) Tryz.func238 rfl Tryz.ntmps238 (Nat.le_of_ble_eq_true rfl) ?_;simp only [Ze,Nat.reduceAdd]
 repeat' (first|refine uN ?_|refine Z0 S ?_|refine da 101 ?_|fail)
 refine gc k ?_
 rintro v L' ⟨rfl,G2,e1,hW2,rfl⟩
 repeat' (first|refine uN ?_|refine Z0 S ?_|refine da 101 ?_|fail)
 exact Uu rfl ⟨rfl,G2,e1,hW2,rfl⟩
theorem Zm7 (hE:Es T E L) (hW:WdOk G M) (hM:WI M) (hl:M.l.length≤99999000) (hR:Rd ic 1 L a ns) (hn:1≤ns.length) (hcap:ns.length≤cap) (h48:ns.length≤1000) :
  HC Tryz.prog 239 [pt p 0,.slice a ns.length cap] (Xg G M::Zi p (pt G.wp 0)::L) (fun v L'=>v=eV T E (Wl 9 M ns).2∧Zoy G (Wl 9 M ns).1 (Zi p (pt G.wp 0)::L) L'):=by
 have hG:=(hE.er [2,3,4,5,6,8]).cons (Zi p (pt G.wp 0))
 have k:=HC.shut (Zmo T E G M (ns.getD 0 0) _ hG.sub hW hM)
 obtain ⟨b1,i1,q1,F1,f1,rfl,hb1,hg1,hg2⟩:=Zp2 hR (by omega)
 clear hg2
 have hb1:=(Zc (Zc hb1):Has (Xg G M::Zi p (pt G.wp 0)::L) _ _)
 unfold Zi at *
 refine Za (fun _ _=>Tryz.call239 _ _) Tryz.func239 rfl Tryz.ntmps239 (Nat.le_of_ble_eq_true rfl) ?_;simp only [Ze,Nat.reduceAdd]
 repeat' (first|refine uN ?_|refine Z0 S ?_|refine da 101 ?_|fail)
 refine gc k ?_
 rintro v L' ⟨rfl,G2,e1,hW2,rfl⟩
 repeat' (first|refine uN ?_|refine Z0 S ?_|refine da 101 ?_|fail)
 exact Uu rfl ⟨rfl,G2,e1,hW2,rfl⟩
theorem Zj3 (hE:Es T E L) (hW:WdOk G M) (hM:WI M) (hl:M.l.length≤99999000) (hR:Rd ic 1 L a ns) (hn:1≤ns.length) (hcap:ns.length≤cap) (h48:ns.length≤1000) :
  HC Tryz.prog 240 [pt p 0,.slice a ns.length cap] (Xg G M::Zi p (pt G.wp 0)::L) (fun v L'=>v=eV T E (Wl 10 M ns).2∧Zoy G (Wl 10 M ns).1 (Zi p (pt G.wp 0)::L) L'):=by
 have hG:=(hE.er [2,3,4,5,6,8]).cons (Zi p (pt G.wp 0))
 have k:=HC.shut (Zox T E G M (ns.getD 0 0) _ hG.sub hW hM)
 obtain ⟨b1,i1,q1,F1,f1,rfl,hb1,hg1,hg2⟩:=Zp2 hR (by omega)
 clear hg2
 have hb1:=(Zc (Zc hb1):Has (Xg G M::Zi p (pt G.wp 0)::L) _ _)
 unfold Zi at *
 refine Za (fun _ _=>Tryz.call240 _ _) Tryz.func240 rfl Tryz.ntmps240 (Nat.le_of_ble_eq_true rfl) ?_;simp only [Ze,Nat.reduceAdd]
 repeat' (first|refine uN ?_|refine Z0 S ?_|refine da 101 ?_|fail)
 refine gc k ?_
 rintro v L' ⟨rfl,G2,e1,hW2,rfl⟩
 repeat' (first|refine uN ?_|refine Z0 S ?_|refine da 101 ?_|fail)
 exact Uu rfl ⟨rfl,G2,e1,hW2,rfl⟩
end
end Go.HL
end

/-! HLSh -/
section
namespace Go.HL
open Go Go.RowKit
theorem Zhv {w:World} {L:Zb} (h : ∀ p∈L.flatten,w.heap[p.1]? = some p.2) {p:Zm} (hp:p∈L.flatten):p.1<w.heap.size:=(Array.getElem?_eq_some_iff.1 (h p hp)).1
theorem Sat.below {k:Zgv} {w w':World} {L:Zb} (hs:Sat k w L) (hb:Below w.heap.size w w'):Sat k w' L:=
 ⟨hb.os.trans hs.os,hb.output.trans hs.out,hb.tape.trans hs.tape,fun p hp=>by rw [hb.block p.1 (Zhv hs.has hp)];exact hs.has p hp,hs.nodup⟩
theorem Zad {P:Program} {f:Nat} {args:List Value} {L:Zb} {V:Value→Prop} (he:Zex P f) (h : ∀ w,(∀ p∈L.flatten,w.heap[p.1]? = some p.2)→Calls P f ⟨args⟩ w fun e w' => ∃ v,e = .returned v∧V v∧Below w.heap.size w w'):HC P f args L (fun v L'=>V v∧L'=L):=
 ⟨he,fun k w hs=>(h w hs.has).mono fun e w' ⟨v,e1,hv,hb⟩=>⟨v,L,e1,hs.below hb,hv,rfl⟩⟩
theorem hc_alloc {P:Program} {f:Nat} {args:List Value} {L:Zb} {V:Nat→Value} {o:Obj} (he:Zex P f) (h : ∀ w,(∀ p∈L.flatten,w.heap[p.1]? = some p.2)→Calls P f ⟨args⟩ w fun e w'=>e = .returned (V w.heap.size)∧w'=w.alloc o):HC P f args L (fun v L' => ∃ b,v=V b∧L'=[(b,o)]::L):=
 ⟨he,fun k w hs=>(h w hs.has).mono fun e w' ⟨e1,hw⟩=>⟨_,[(w.heap.size,o)]::L,e1,hw▸hs.new o,_,rfl,rfl⟩⟩
theorem Zkz {w:World} {L:Zb} (h : ∀ p∈L.flatten,w.heap[p.1]? = some p.2) {b i:Nat} {l:List Value} {F:TypeId} {fr:Nat × Nat} {v:Value} (hb:Has L b (.cells ⟨l⟩ F fr)) (hi:l[i]? = some v):w.cell? ⟨b,i,none⟩=some v:=by
 have h1:=h _ hb
 simp only at h1
 simp [World.cell?,h1,hi]
end Go.HL
end

/-! Shf -/
section
namespace Go.Proofs
open Go.Shelf
def Tryz.lays156_ren:Go.Shelf.Ren:=⟨fun|156=>249|165=>225|166=>226|169=>228|240=>280|241=>281|276=>300|277=>301|n=>n,fun|31=>97|9=>9|3=>3|4=>4|0=>0|20=>20|72=>307|76=>63|70=>305|37=>142|75=>28|127=>353|164=>270|5=>5|80=>137|n=>n,fun|n=>n⟩
theorem Tryz.lays156:Go.Proofs.Lays.n156 Tryz.prog Tryz.lays156_ren:={
 mixed:=by kernel_rfl
 f156:=Tryz.func249.trans (congrArg some (by kernel_rfl))
 f165:=Tryz.func225.trans (congrArg some (by kernel_rfl))
 f166:=Tryz.func226.trans (congrArg some (by kernel_rfl))
 f169:=Tryz.func228.trans (congrArg some (by kernel_rfl))
 f240:=Tryz.func280.trans (congrArg some (by kernel_rfl))
 f241:=Tryz.func281.trans (congrArg some (by kernel_rfl))
 f276:=Tryz.func300.trans (congrArg some (by kernel_rfl))
 f277:=Tryz.func301.trans (congrArg some (by kernel_rfl))
 t0:=Tryz.underlying0
 a0:=Tryz.isAgg0
 z0:=Tryz.sizeOf0
 v0:=Tryz.zeroValue0
 t3:=Tryz.underlying3
 a3:=Tryz.isAgg3
 z3:=Tryz.sizeOf3
 v3:=Tryz.zeroValue3
 t4:=Tryz.underlying4
 a4:=Tryz.isAgg4
 z4:=Tryz.sizeOf4
 v4:=Tryz.zeroValue4
 t9:=Tryz.underlying9
 a9:=Tryz.isAgg9
 z9:=Tryz.sizeOf9
 v9:=Tryz.zeroValue9
 t20:=Tryz.underlying20
 a20:=Tryz.isAgg20
 z20:=Tryz.sizeOf20
 v20:=Tryz.zeroValue20
 t31:=Tryz.underlying97
 a31:=Tryz.isAgg97
 z31:=Tryz.sizeOf97
 v31:=Tryz.zeroValue97
 t37:=Tryz.underlying142
 a37:=Tryz.isAgg142
 z37:=Tryz.sizeOf142
 v37:=Tryz.zeroValue142
 t70:=Tryz.underlying305
 a70:=Tryz.isAgg305
 z70:=Tryz.sizeOf305
 v70:=Tryz.zeroValue305
 t72:=Tryz.underlying307
 a72:=Tryz.isAgg307
 z72:=Tryz.sizeOf307
 v72:=Tryz.zeroValue307
 t75:=Tryz.underlying28
 a75:=Tryz.isAgg28
 z75:=Tryz.sizeOf28
 v75:=Tryz.zeroValue28
 t76:=Tryz.underlying63
 a76:=Tryz.isAgg63
 z76:=Tryz.sizeOf63
 v76:=Tryz.zeroValue63
 t127:=Tryz.underlying353
 a127:=Tryz.isAgg353
 z127:=Tryz.sizeOf353
 v127:=Tryz.zeroValue353
 t164:=Tryz.underlying270
 a164:=Tryz.isAgg270
 z164:=Tryz.sizeOf270
 v164:=Tryz.zeroValue270 }
theorem Tryz.Builder_Extra_156:Builder.Extra Tryz.prog Tryz.lays156_ren:={
 sizeBuilder:=by kernel_rfl
 liesBuilder:=by kernel_rfl
 t5:=Tryz.underlying5
 a5:=Tryz.isAgg5
 z5:=Tryz.sizeOf5
 v5:=Tryz.zeroValue5
 infoByte:=by kernel_rfl
 cellsByte:=by kernel_rfl
 sizeByte:=by kernel_rfl
 neB5:=by decide }
open Go.RowKit in
theorem Tryz.strings_Join (bk o c:Nat) (xs:List ByteArray) (sep:ByteArray) (w:World) (hcells : ∀ (j:Nat) x,xs[j]? = some x→w.cell? ⟨bk,o+j,none⟩=some (.string x)) (hbk:bk<w.heap.size) (hN:xs.length≤140737488355328) (hcap:xs.length≤c) (hlen:(Lib.join (xs.map (·.data.toList)) sep.data.toList).length≤140737488355328) :
  Calls Tryz.prog 249 #[.slice (some ⟨bk,o,none⟩) xs.length c,.string sep] w fun e w'=>e = .returned (.string ⟨(Lib.join (xs.map (·.data.toList)) sep.data.toList).toArray⟩)∧Below w.heap.size w w':=Any.strings_Join Tryz.lays156 Tryz.Builder_Extra_156 bk o c xs sep w hcells hbk hN hcap hlen
def Tryz.laysM171_ren:Go.Shelf.Ren:=⟨fun|171=>242|243=>283|246=>302|283=>313|284=>314|285=>315|286=>316|129=>286|317=>322|318=>323|319=>324|320=>325|337=>328|338=>329|n=>n,fun|3=>3|9=>9|2=>2|4=>4|171=>374|0=>0|53=>235|37=>142|5=>5|173=>376|212=>390|51=>238|20=>20|213=>391|46=>288|232=>397|233=>398|n=>n,fun|17=>15|18=>16|19=>17|n=>n⟩
theorem Tryz.laysM171:Go.Proofs.LaysM.n171 Tryz.prog Tryz.laysM171_ren:={
 mixed:=by kernel_rfl
 f129:=Tryz.func286.trans (congrArg some (by kernel_rfl))
 f171:=Tryz.func242.trans (congrArg some (by kernel_rfl))
 f243:=Tryz.func283.trans (congrArg some (by kernel_rfl))
 f246:=Tryz.func302.trans (congrArg some (by kernel_rfl))
 f283:=Tryz.func313.trans (congrArg some (by kernel_rfl))
 f284:=Tryz.func314.trans (congrArg some (by kernel_rfl))
 f285:=Tryz.func315.trans (congrArg some (by kernel_rfl))
 f286:=Tryz.func316.trans (congrArg some (by kernel_rfl))
 f317:=Tryz.func322.trans (congrArg some (by kernel_rfl))
 f318:=Tryz.func323.trans (congrArg some (by kernel_rfl))
 f319:=Tryz.func324.trans (congrArg some (by kernel_rfl))
 f320:=Tryz.func325.trans (congrArg some (by kernel_rfl))
 f337:=Tryz.func328.trans (congrArg some (by kernel_rfl))
 f338:=Tryz.func329.trans (congrArg some (by kernel_rfl))
 t0:=Tryz.underlying0
 a0:=Tryz.isAgg0
 z0:=Tryz.sizeOf0
 v0:=Tryz.zeroValue0
 t2:=Tryz.underlying2
 a2:=Tryz.isAgg2
 z2:=Tryz.sizeOf2
 v2:=Tryz.zeroValue2
 t3:=Tryz.underlying3
 a3:=Tryz.isAgg3
 z3:=Tryz.sizeOf3
 v3:=Tryz.zeroValue3
 t4:=Tryz.underlying4
 a4:=Tryz.isAgg4
 z4:=Tryz.sizeOf4
 v4:=Tryz.zeroValue4
 t5:=Tryz.underlying5
 a5:=Tryz.isAgg5
 z5:=Tryz.sizeOf5
 v5:=Tryz.zeroValue5
 t9:=Tryz.underlying9
 a9:=Tryz.isAgg9
 z9:=Tryz.sizeOf9
 v9:=Tryz.zeroValue9
 t20:=Tryz.underlying20
 a20:=Tryz.isAgg20
 z20:=Tryz.sizeOf20
 v20:=Tryz.zeroValue20
 t37:=Tryz.underlying142
 a37:=Tryz.isAgg142
 z37:=Tryz.sizeOf142
 v37:=Tryz.zeroValue142
 t46:=Tryz.underlying288
 a46:=Tryz.isAgg288
 z46:=Tryz.sizeOf288
 v46:=Tryz.zeroValue288
 t51:=Tryz.underlying238
 a51:=Tryz.isAgg238
 z51:=Tryz.sizeOf238
 v51:=Tryz.zeroValue238
 t53:=Tryz.underlying235
 a53:=Tryz.isAgg235
 z53:=Tryz.sizeOf235
 v53:=Tryz.zeroValue235
 t171:=Tryz.underlying374
 a171:=Tryz.isAgg374
 z171:=Tryz.sizeOf374
 v171:=Tryz.zeroValue374
 t173:=Tryz.underlying376
 a173:=Tryz.isAgg376
 z173:=Tryz.sizeOf376
 v173:=Tryz.zeroValue376
 t212:=Tryz.underlying390
 a212:=Tryz.isAgg390
 z212:=Tryz.sizeOf390
 v212:=Tryz.zeroValue390
 t213:=Tryz.underlying391
 a213:=Tryz.isAgg391
 z213:=Tryz.sizeOf391
 t232:=Tryz.underlying397
 a232:=Tryz.isAgg397
 z232:=Tryz.sizeOf397
 v232:=Tryz.zeroValue397
 t233:=Tryz.underlying398
 a233:=Tryz.isAgg398
 z233:=Tryz.sizeOf398
 v233:=Tryz.zeroValue398
 g17:=by kernel_rfl
 g18:=by kernel_rfl
 g19:=by kernel_rfl
 i0:=by kernel_rfl
 i2:=by kernel_rfl
 i3:=by kernel_rfl
 i4:=by kernel_rfl
 i5:=by kernel_rfl
 i9:=by kernel_rfl
 i20:=by kernel_rfl
 i37:=by kernel_rfl
 i46:=by kernel_rfl
 i51:=by kernel_rfl
 i53:=by kernel_rfl
 i171:=by kernel_rfl
 i173:=by kernel_rfl
 i212:=by kernel_rfl
 i232:=by kernel_rfl
 i233:=by kernel_rfl
 m17:=by kernel_rfl
 m18:=by kernel_rfl
 m19:=by kernel_rfl }
open Go.RowKit Go.Sort Go.Lib in
theorem Tryz.strconv_Itoa (n:Int) (h0 : -9223372036854775808≤n) (h1:n≤9223372036854775807) (w:World) (htab:Lib.TabIs Tryz.prog w "internal/strconv.uint64pow10" .u64 Lib.pow10Tab) :
  Calls Tryz.prog 242 #[.int .i64 n] w fun e w'=>e = .returned (.string ⟨(Lib.itoa n).toArray⟩) ∧ ∃ k os,w'=grow (w.drewN k) os:=Any.strconv_Itoa Tryz.laysM171 n h0 h1 w htab
def Tryz.laysC172_ren:Go.Shelf.Ren:=⟨fun|172=>276|244=>298|245=>299|247=>308|279=>309|280=>310|281=>311|282=>312|287=>319|316=>320|171=>242|205=>321|321=>326|322=>327|243=>283|246=>302|283=>313|284=>314|285=>315|286=>316|129=>286|317=>322|318=>323|319=>324|320=>325|337=>328|338=>329|n=>n,fun|9=>9|3=>3|75=>28|76=>63|4=>4|5=>5|167=>368|37=>142|0=>0|85=>369|2=>2|168=>371|53=>235|175=>383|46=>288|210=>387|127=>353|145=>396|143=>394|21=>21|171=>374|173=>376|212=>390|51=>238|20=>20|213=>391|232=>397|233=>398|80=>137|n=>n,fun|15=>13|16=>14|17=>15|18=>16|19=>17|n=>n⟩
theorem Tryz.laysC172:Go.Proofs.LaysC.n172 Tryz.prog Tryz.laysC172_ren:={
 mixed:=by kernel_rfl
 f129:=Tryz.func286.trans (congrArg some (by kernel_rfl))
 f171:=Tryz.func242.trans (congrArg some (by kernel_rfl))
 f172:=Tryz.func276.trans (congrArg some (by kernel_rfl))
 f205:=Tryz.func321.trans (congrArg some (by kernel_rfl))
 f243:=Tryz.func283.trans (congrArg some (by kernel_rfl))
 f244:=Tryz.func298.trans (congrArg some (by kernel_rfl))
 f245:=Tryz.func299.trans (congrArg some (by kernel_rfl))
 f246:=Tryz.func302.trans (congrArg some (by kernel_rfl))
 f247:=Tryz.func308.trans (congrArg some (by kernel_rfl))
 f279:=Tryz.func309.trans (congrArg some (by kernel_rfl))
 f280:=Tryz.func310.trans (congrArg some (by kernel_rfl))
 f281:=Tryz.func311.trans (congrArg some (by kernel_rfl))
 f282:=Tryz.func312.trans (congrArg some (by kernel_rfl))
 f283:=Tryz.func313.trans (congrArg some (by kernel_rfl))
 f284:=Tryz.func314.trans (congrArg some (by kernel_rfl))
 f285:=Tryz.func315.trans (congrArg some (by kernel_rfl))
 f286:=Tryz.func316.trans (congrArg some (by kernel_rfl))
 f287:=Tryz.func319.trans (congrArg some (by kernel_rfl))
 f316:=Tryz.func320.trans (congrArg some (by kernel_rfl))
 f317:=Tryz.func322.trans (congrArg some (by kernel_rfl))
 f318:=Tryz.func323.trans (congrArg some (by kernel_rfl))
 f319:=Tryz.func324.trans (congrArg some (by kernel_rfl))
 f320:=Tryz.func325.trans (congrArg some (by kernel_rfl))
 f321:=Tryz.func326.trans (congrArg some (by kernel_rfl))
 f322:=Tryz.func327.trans (congrArg some (by kernel_rfl))
 f337:=Tryz.func328.trans (congrArg some (by kernel_rfl))
 f338:=Tryz.func329.trans (congrArg some (by kernel_rfl))
 t0:=Tryz.underlying0
 a0:=Tryz.isAgg0
 z0:=Tryz.sizeOf0
 v0:=Tryz.zeroValue0
 t2:=Tryz.underlying2
 a2:=Tryz.isAgg2
 z2:=Tryz.sizeOf2
 v2:=Tryz.zeroValue2
 t3:=Tryz.underlying3
 a3:=Tryz.isAgg3
 z3:=Tryz.sizeOf3
 v3:=Tryz.zeroValue3
 t4:=Tryz.underlying4
 a4:=Tryz.isAgg4
 z4:=Tryz.sizeOf4
 v4:=Tryz.zeroValue4
 t5:=Tryz.underlying5
 a5:=Tryz.isAgg5
 z5:=Tryz.sizeOf5
 v5:=Tryz.zeroValue5
 t9:=Tryz.underlying9
 a9:=Tryz.isAgg9
 z9:=Tryz.sizeOf9
 v9:=Tryz.zeroValue9
 t20:=Tryz.underlying20
 a20:=Tryz.isAgg20
 z20:=Tryz.sizeOf20
 v20:=Tryz.zeroValue20
 t21:=Tryz.underlying21
 a21:=Tryz.isAgg21
 z21:=Tryz.sizeOf21
 v21:=Tryz.zeroValue21
 t37:=Tryz.underlying142
 a37:=Tryz.isAgg142
 z37:=Tryz.sizeOf142
 v37:=Tryz.zeroValue142
 t46:=Tryz.underlying288
 a46:=Tryz.isAgg288
 z46:=Tryz.sizeOf288
 v46:=Tryz.zeroValue288
 t51:=Tryz.underlying238
 a51:=Tryz.isAgg238
 z51:=Tryz.sizeOf238
 v51:=Tryz.zeroValue238
 t53:=Tryz.underlying235
 a53:=Tryz.isAgg235
 z53:=Tryz.sizeOf235
 v53:=Tryz.zeroValue235
 t75:=Tryz.underlying28
 a75:=Tryz.isAgg28
 z75:=Tryz.sizeOf28
 v75:=Tryz.zeroValue28
 t76:=Tryz.underlying63
 a76:=Tryz.isAgg63
 z76:=Tryz.sizeOf63
 v76:=Tryz.zeroValue63
 t85:=Tryz.underlying369
 a85:=Tryz.isAgg369
 z85:=Tryz.sizeOf369
 v85:=Tryz.zeroValue369
 t127:=Tryz.underlying353
 a127:=Tryz.isAgg353
 z127:=Tryz.sizeOf353
 v127:=Tryz.zeroValue353
 t143:=Tryz.underlying394
 a143:=Tryz.isAgg394
 z143:=Tryz.sizeOf394
 v143:=Tryz.zeroValue394
 t145:=Tryz.underlying396
 a145:=Tryz.isAgg396
 z145:=Tryz.sizeOf396
 v145:=Tryz.zeroValue396
 t167:=Tryz.underlying368
 a167:=Tryz.isAgg368
 z167:=Tryz.sizeOf368
 v167:=Tryz.zeroValue368
 t168:=Tryz.underlying371
 a168:=Tryz.isAgg371
 z168:=Tryz.sizeOf371
 v168:=Tryz.zeroValue371
 t171:=Tryz.underlying374
 a171:=Tryz.isAgg374
 z171:=Tryz.sizeOf374
 v171:=Tryz.zeroValue374
 t173:=Tryz.underlying376
 a173:=Tryz.isAgg376
 z173:=Tryz.sizeOf376
 v173:=Tryz.zeroValue376
 t175:=Tryz.underlying383
 a175:=Tryz.isAgg383
 z175:=Tryz.sizeOf383
 v175:=Tryz.zeroValue383
 t210:=Tryz.underlying387
 a210:=Tryz.isAgg387
 z210:=Tryz.sizeOf387
 v210:=Tryz.zeroValue387
 t212:=Tryz.underlying390
 a212:=Tryz.isAgg390
 z212:=Tryz.sizeOf390
 v212:=Tryz.zeroValue390
 t213:=Tryz.underlying391
 a213:=Tryz.isAgg391
 z213:=Tryz.sizeOf391
 t232:=Tryz.underlying397
 a232:=Tryz.isAgg397
 z232:=Tryz.sizeOf397
 v232:=Tryz.zeroValue397
 t233:=Tryz.underlying398
 a233:=Tryz.isAgg398
 z233:=Tryz.sizeOf398
 v233:=Tryz.zeroValue398
 g15:=by kernel_rfl
 g16:=by kernel_rfl
 g17:=by kernel_rfl
 g18:=by kernel_rfl
 g19:=by kernel_rfl
 t80:=Tryz.underlying137
 a80:=Tryz.isAgg137
 z80:=Tryz.sizeOf137
 v80:=Tryz.zeroValue137
 i0:=by kernel_rfl
 i2:=by kernel_rfl
 i3:=by kernel_rfl
 i4:=by kernel_rfl
 i5:=by kernel_rfl
 i9:=by kernel_rfl
 i20:=by kernel_rfl
 i21:=by kernel_rfl
 i37:=by kernel_rfl
 i46:=by kernel_rfl
 i51:=by kernel_rfl
 i53:=by kernel_rfl
 i75:=by kernel_rfl
 i76:=by kernel_rfl
 i80:=by kernel_rfl
 i85:=by kernel_rfl
 i127:=by kernel_rfl
 i143:=by kernel_rfl
 i145:=by kernel_rfl
 i167:=by kernel_rfl
 i168:=by kernel_rfl
 i171:=by kernel_rfl
 i173:=by kernel_rfl
 i175:=by kernel_rfl
 i210:=by kernel_rfl
 i212:=by kernel_rfl
 i232:=by kernel_rfl
 i233:=by kernel_rfl
 m15:=by kernel_rfl
 m16:=by kernel_rfl
 m17:=by kernel_rfl
 m18:=by kernel_rfl
 m19:=by kernel_rfl
 c0:=by kernel_rfl
 c2:=by kernel_rfl
 c3:=by kernel_rfl
 c4:=by kernel_rfl
 c5:=by kernel_rfl
 c9:=by kernel_rfl
 c20:=by kernel_rfl
 c21:=by kernel_rfl
 c37:=by kernel_rfl
 c46:=by kernel_rfl
 c51:=by kernel_rfl
 c53:=by kernel_rfl
 c75:=by kernel_rfl
 c76:=by kernel_rfl
 c80:=by kernel_rfl
 c85:=by kernel_rfl
 c127:=by kernel_rfl
 c143:=by kernel_rfl
 c145:=by kernel_rfl
 c167:=by kernel_rfl
 c168:=by kernel_rfl
 c171:=by kernel_rfl
 c173:=by kernel_rfl
 c175:=by kernel_rfl
 c210:=by kernel_rfl
 c212:=by kernel_rfl
 c213:=by kernel_rfl
 c232:=by kernel_rfl
 c233:=by kernel_rfl }
def Tryz.lays146_ren:Go.Shelf.Ren:=⟨fun|146=>169|221=>221|268=>273|138=>274|143=>275|195=>294|197=>295|218=>296|219=>297|260=>303|217=>304|225=>305|224=>306|267=>307|266=>317|314=>318|n=>n,fun|9=>9|31=>97|3=>3|4=>4|0=>0|105=>361|21=>21|5=>5|46=>288|119=>378|139=>381|138=>380|146=>349|51=>238|n=>n,fun|1=>10|3=>11|4=>12|n=>n⟩
theorem Tryz.lays146:Go.Proofs.Lays.n146 Tryz.prog Tryz.lays146_ren:={
 mixed:=by kernel_rfl
 f138:=Tryz.func274.trans (congrArg some (by kernel_rfl))
 f143:=Tryz.func275.trans (congrArg some (by kernel_rfl))
 f146:=Tryz.func169.trans (congrArg some (by kernel_rfl))
 f195:=Tryz.func294.trans (congrArg some (by kernel_rfl))
 f197:=Tryz.func295.trans (congrArg some (by kernel_rfl))
 f217:=Tryz.func304.trans (congrArg some (by kernel_rfl))
 f218:=Tryz.func296.trans (congrArg some (by kernel_rfl))
 f219:=Tryz.func297.trans (congrArg some (by kernel_rfl))
 f221:=Tryz.func221.trans (congrArg some (by kernel_rfl))
 f224:=Tryz.func306.trans (congrArg some (by kernel_rfl))
 f225:=Tryz.func305.trans (congrArg some (by kernel_rfl))
 f260:=Tryz.func303.trans (congrArg some (by kernel_rfl))
 f266:=Tryz.func317.trans (congrArg some (by kernel_rfl))
 f267:=Tryz.func307.trans (congrArg some (by kernel_rfl))
 f268:=Tryz.func273.trans (congrArg some (by kernel_rfl))
 f314:=Tryz.func318.trans (congrArg some (by kernel_rfl))
 t0:=Tryz.underlying0
 a0:=Tryz.isAgg0
 z0:=Tryz.sizeOf0
 v0:=Tryz.zeroValue0
 t3:=Tryz.underlying3
 a3:=Tryz.isAgg3
 z3:=Tryz.sizeOf3
 v3:=Tryz.zeroValue3
 t4:=Tryz.underlying4
 a4:=Tryz.isAgg4
 z4:=Tryz.sizeOf4
 v4:=Tryz.zeroValue4
 t5:=Tryz.underlying5
 a5:=Tryz.isAgg5
 z5:=Tryz.sizeOf5
 v5:=Tryz.zeroValue5
 t9:=Tryz.underlying9
 a9:=Tryz.isAgg9
 z9:=Tryz.sizeOf9
 v9:=Tryz.zeroValue9
 t21:=Tryz.underlying21
 a21:=Tryz.isAgg21
 z21:=Tryz.sizeOf21
 v21:=Tryz.zeroValue21
 t31:=Tryz.underlying97
 a31:=Tryz.isAgg97
 z31:=Tryz.sizeOf97
 v31:=Tryz.zeroValue97
 t46:=Tryz.underlying288
 a46:=Tryz.isAgg288
 z46:=Tryz.sizeOf288
 v46:=Tryz.zeroValue288
 t51:=Tryz.underlying238
 a51:=Tryz.isAgg238
 z51:=Tryz.sizeOf238
 v51:=Tryz.zeroValue238
 t105:=Tryz.underlying361
 a105:=Tryz.isAgg361
 z105:=Tryz.sizeOf361
 v105:=Tryz.zeroValue361
 t119:=Tryz.underlying378
 a119:=Tryz.isAgg378
 z119:=Tryz.sizeOf378
 t138:=Tryz.underlying380
 a138:=Tryz.isAgg380
 z138:=Tryz.sizeOf380
 v138:=Tryz.zeroValue380
 t139:=Tryz.underlying381
 a139:=Tryz.isAgg381
 z139:=Tryz.sizeOf381
 v139:=Tryz.zeroValue381
 t146:=Tryz.underlying349
 a146:=Tryz.isAgg349
 z146:=Tryz.sizeOf349
 v146:=Tryz.zeroValue349
 g1:=by kernel_rfl
 g3:=by kernel_rfl
 g4:=by kernel_rfl }
open Go.RowKit Go.Lib in
theorem Tryz.strings_Split (s sep:ByteArray) (m:Int) (w:World) (hs:s.size<4294967281) (hm:w.cell? ⟨10,0,none⟩=some (.int .i64 m)) (h1:1≤sep.size) :
  Calls Tryz.prog 169 #[.string s,.string sep] w fun e w' =>
   e = .returned (.slice (some ⟨w.heap.size,0,none⟩) (Lib.countB s sep+1) (Lib.countB s sep+1))∧w'=w.alloc (.cells ((Lib.splitB sep 0 (Lib.countB s sep) s).map Value.string).toArray 9):=Any.strings_Split Tryz.lays146 (by kernel_rfl) s sep m w hs hm h1
def Tryz.lays105_ren:Go.Shelf.Ren:=⟨fun|105=>171|212=>223|99=>224|165=>225|166=>226|170=>227|169=>228|263=>277|264=>278|206=>279|240=>280|241=>281|276=>300|277=>301|n=>n,fun|9=>9|3=>3|4=>4|20=>20|0=>0|46=>288|109=>302|5=>5|72=>307|76=>63|51=>238|146=>349|53=>235|148=>351|70=>305|37=>142|75=>28|127=>353|164=>270|80=>137|n=>n,fun|n=>n⟩
theorem Tryz.lays105:Go.Proofs.Lays.n105 Tryz.prog Tryz.lays105_ren:={
 mixed:=by kernel_rfl
 f99:=Tryz.func224.trans (congrArg some (by kernel_rfl))
 f105:=Tryz.func171.trans (congrArg some (by kernel_rfl))
 f165:=Tryz.func225.trans (congrArg some (by kernel_rfl))
 f166:=Tryz.func226.trans (congrArg some (by kernel_rfl))
 f169:=Tryz.func228.trans (congrArg some (by kernel_rfl))
 f170:=Tryz.func227.trans (congrArg some (by kernel_rfl))
 f206:=Tryz.func279.trans (congrArg some (by kernel_rfl))
 f212:=Tryz.func223.trans (congrArg some (by kernel_rfl))
 f240:=Tryz.func280.trans (congrArg some (by kernel_rfl))
 f241:=Tryz.func281.trans (congrArg some (by kernel_rfl))
 f263:=Tryz.func277.trans (congrArg some (by kernel_rfl))
 f264:=Tryz.func278.trans (congrArg some (by kernel_rfl))
 f276:=Tryz.func300.trans (congrArg some (by kernel_rfl))
 f277:=Tryz.func301.trans (congrArg some (by kernel_rfl))
 t0:=Tryz.underlying0
 a0:=Tryz.isAgg0
 z0:=Tryz.sizeOf0
 v0:=Tryz.zeroValue0
 t3:=Tryz.underlying3
 a3:=Tryz.isAgg3
 z3:=Tryz.sizeOf3
 v3:=Tryz.zeroValue3
 t4:=Tryz.underlying4
 a4:=Tryz.isAgg4
 z4:=Tryz.sizeOf4
 v4:=Tryz.zeroValue4
 t5:=Tryz.underlying5
 a5:=Tryz.isAgg5
 z5:=Tryz.sizeOf5
 v5:=Tryz.zeroValue5
 t9:=Tryz.underlying9
 a9:=Tryz.isAgg9
 z9:=Tryz.sizeOf9
 v9:=Tryz.zeroValue9
 t20:=Tryz.underlying20
 a20:=Tryz.isAgg20
 z20:=Tryz.sizeOf20
 v20:=Tryz.zeroValue20
 t37:=Tryz.underlying142
 a37:=Tryz.isAgg142
 z37:=Tryz.sizeOf142
 v37:=Tryz.zeroValue142
 t46:=Tryz.underlying288
 a46:=Tryz.isAgg288
 z46:=Tryz.sizeOf288
 v46:=Tryz.zeroValue288
 t51:=Tryz.underlying238
 a51:=Tryz.isAgg238
 z51:=Tryz.sizeOf238
 v51:=Tryz.zeroValue238
 t53:=Tryz.underlying235
 a53:=Tryz.isAgg235
 z53:=Tryz.sizeOf235
 v53:=Tryz.zeroValue235
 t70:=Tryz.underlying305
 a70:=Tryz.isAgg305
 z70:=Tryz.sizeOf305
 v70:=Tryz.zeroValue305
 t72:=Tryz.underlying307
 a72:=Tryz.isAgg307
 z72:=Tryz.sizeOf307
 v72:=Tryz.zeroValue307
 t75:=Tryz.underlying28
 a75:=Tryz.isAgg28
 z75:=Tryz.sizeOf28
 v75:=Tryz.zeroValue28
 t76:=Tryz.underlying63
 a76:=Tryz.isAgg63
 z76:=Tryz.sizeOf63
 v76:=Tryz.zeroValue63
 t109:=Tryz.underlying302
 a109:=Tryz.isAgg302
 z109:=Tryz.sizeOf302
 v109:=Tryz.zeroValue302
 t127:=Tryz.underlying353
 a127:=Tryz.isAgg353
 z127:=Tryz.sizeOf353
 v127:=Tryz.zeroValue353
 t146:=Tryz.underlying349
 a146:=Tryz.isAgg349
 z146:=Tryz.sizeOf349
 v146:=Tryz.zeroValue349
 t148:=Tryz.underlying351
 a148:=Tryz.isAgg351
 z148:=Tryz.sizeOf351
 v148:=Tryz.zeroValue351
 t164:=Tryz.underlying270
 a164:=Tryz.isAgg270
 z164:=Tryz.sizeOf270
 v164:=Tryz.zeroValue270 }
theorem Tryz.Builder_Extra_105:Builder.Extra Tryz.prog Tryz.lays105_ren:={
 sizeBuilder:=by kernel_rfl
 liesBuilder:=by kernel_rfl
 t5:=Tryz.underlying5
 a5:=Tryz.isAgg5
 z5:=Tryz.sizeOf5
 v5:=Tryz.zeroValue5
 infoByte:=by kernel_rfl
 cellsByte:=by kernel_rfl
 sizeByte:=by kernel_rfl
 neB5:=by decide }
open Go.RowKit Go.Lib in
theorem Tryz.strings_Repeat (s:ByteArray) (c:Nat) (w:World) (hc:c≤9223372036854775807) (hlen:s.size*c≤140737488355328) :
  Calls Tryz.prog 171 #[.string s,.int .i64 c] w fun e w'=>e = .returned (.string ⟨(Lib.repeatL s.data.toList c).toArray⟩)∧Below w.heap.size w w':=Any.strings_Repeat Tryz.lays105 Tryz.Builder_Extra_105 s c w hc hlen
end Go.Proofs
end

/-! ScA -/
section
namespace Go.HL
open Go Go.Proofs Go.RowKit
def Zha (F:Nat) (fr:Nat × Nat):Obj := .cells ⟨Lib.pow10Tab.map fun z=>Value.int .u64 z⟩ F fr
structure Sz (L:Zb):Prop where
 ml : ∃ m,Gl L 10 (iv m)
 tb : ∃ F fr,Has L 15 (Zha F fr)
 es : ∃ t v,Gl L 13 (.iface t v)
 er : ∃ t v,Gl L 14 (.iface t v)
theorem Sz.mono {L L':Zb} (h:Sz L) (hl : ∀ b o,Has L b o→Has L' b o):Sz L':=by
 obtain ⟨⟨m,h1⟩,⟨F,fr,h2⟩,⟨t,v,h3⟩,⟨u,x,h4⟩⟩:=h
 exact ⟨⟨m,h1.mono hl⟩,⟨F,fr,hl _ _ h2⟩,⟨t,v,h3.mono hl⟩,⟨u,x,h4.mono hl⟩⟩
theorem Sz.cons {L:Zb} (h:Sz L) (c:List Zm):Sz (c::L):=h.mono fun _ _ hb=>Zc hb
theorem Ziy {w:World} {L:Zb} (h : ∀ p∈L.flatten,w.heap[p.1]? = some p.2) {g:Nat} {v:Value} (hg:Gl L g v):w.cell? ⟨g,0,none⟩=some v:=by
 obtain ⟨l,E,fr,h1,h2⟩:=hg
 exact Zkz h h1 h2
theorem Zkg (w:World) (e:TypeId) (s:ByteArray):Below w.heap.size w (Lib.bytesWorld w e s):=Lib.bytesWorld_below w e s
theorem Zkh (w:World) (k:Nat) (os:Array Obj):Below w.heap.size w (Sort.grow (w.drewN k) os):=
 ⟨rfl,rfl,rfl,by show w.heap.size≤(w.heap++os).size;rw [Array.size_append];omega,fun j hj=>by
  show (w.heap++os)[j]? = _
  rw [Array.getElem?_append,if_pos hj]⟩
theorem Ww (n:Int) (h0 : -9223372036854775808≤n) (h1:n≤9223372036854775807) {F:Nat} {fr:Nat × Nat} (L:Zb) (ht:Has L 15 (Zha F fr)):HC Tryz.prog 242 [iv n] L (fun v L'=>v=bs (Lib.itoa n)∧L'=L):=by
 refine Zad (V:=fun v=>v=bs (Lib.itoa n)) (fun _ _=>Tryz.call242 _ _) fun w hw=>?_
 refine (Tryz.strconv_Itoa n h0 h1 w ?_).mono ?_
 ·show World.var? _ _ _=_
  have h9:=hw _ ht
  unfold Zha at h9
  simp only at h9
  have hg:Program.globalNamed Tryz.prog "internal/strconv.uint64pow10" = some 15:=by kernel_rfl
  simp [World.var?,hg,h9]
 ·rintro e w' ⟨rfl,k,os,rfl⟩
  exact ⟨_,rfl,rfl,Zkh w k os⟩
theorem Zb0 (n:Int) (h0 : -9223372036854775808≤n) (h1:n≤9223372036854775807) (L:Zb) (hS:Sz L):HC Tryz.prog 242 [iv n] L (fun v L'=>v=bs (Lib.itoa n)∧L'=L):=by
 obtain ⟨F,fr,ht⟩:=hS.tb
 exact Ww n h0 h1 L ht
def Zb2 (s:List UInt8):Option Int:=
 match Lib.atoiAll s with
 | .ok v=>if s.length≤5∧0≤v∧Lib.itoa v=s then some v else none
 | _=>none
theorem Zm9 (s:List UInt8) (hs:s.length≤1000000) (L:Zb) (hS:Sz L):HC Tryz.prog 276 [bs s] L (fun v L'=>(∃ k e,v = .tuple ⟨[iv k,e]⟩∧((Lib.atoiAll s = .ok k∧e = .nilIface)∨((∀ n,Lib.atoiAll s ≠ .ok n) ∧ ∃ t N,e = .iface t (pt N 0))))∧L'=L):=by
 obtain ⟨t1,v1,h1⟩:=hS.es
 obtain ⟨t2,v2,h2⟩:=hS.er
 have hz:(⟨⟨s⟩⟩:ByteArray).size≤1000000:=by simpa [ByteArray.size] using hs
 refine Zad (V:=fun v => ∃ k e,v = .tuple ⟨[iv k,e]⟩∧((Lib.atoiAll s = .ok k∧e = .nilIface)∨((∀ n,Lib.atoiAll s ≠ .ok n) ∧ ∃ t N,e = .iface t (pt N 0)))) (fun _ _=>Tryz.call276 _ _) fun w hw=>?_
 cases ha:Lib.atoiAll s with
 | ok k =>
  refine (Any.strconv_Atoi_ok Tryz.laysC172 ⟨⟨s⟩⟩ (by omega) k ha w).mono ?_
  rintro e w' ⟨rfl,hb⟩
  refine ⟨_,rfl,⟨k,_,rfl,.inl ⟨rfl,rfl⟩⟩,?_⟩
  rcases hb with rfl|⟨t,rfl⟩
  ·exact Below.refl _ _
  ·exact Zkg _ _ _
 | range =>
  refine (Any.strconv_Atoi_range Tryz.laysC172 ⟨⟨s⟩⟩ (by omega) ha _ w (Ziy hw h2) (.inr ⟨_,_,rfl⟩)).mono ?_
  rintro e w' ⟨N,rfl,-,-,hb⟩
  exact ⟨_,rfl,⟨_,_,rfl,.inr ⟨fun n h=>(by cases h),_,_,rfl⟩⟩,hb⟩
 | _ =>
  refine (Any.strconv_Atoi_syntax Tryz.laysC172 ⟨⟨s⟩⟩ (by omega) ha _ w (Ziy hw h1) (.inr ⟨_,_,rfl⟩)).mono ?_
  rintro e w' ⟨N,rfl,-,-,hb⟩
  exact ⟨_,rfl,⟨_,_,rfl,.inr ⟨fun n h=>(by cases h),_,_,rfl⟩⟩,hb⟩
def Ym:List UInt8→List (List UInt8)
 | []=>[[]]
 | c::r=>if c=32 then []::Ym r else match Ym r with
  | x::q=>(c::x)::q
  | []=>[[c]]
theorem Zd8 : ∀ s:List UInt8,Lib.split s [32]=Ym s
 | []=>by simp [Lib.split,Lib.count_miss (s:=[]) (sub:=[32]) rfl,Lib.splitK,Ym]
 | c :: r=>by
  have ih:=Zd8 r
  unfold Lib.split at *
  by_cases h:c=32
  ·subst h
   have hix:Lib.index (32::r) [32]=((0:Nat):Int):=by rw [Lib.index];simp [List.isPrefixOf]
   rw [Lib.count_cons_eq,Nat.add_comm,Lib.splitK,hix]
   simp [Ym,ih]
  ·rw [Lib.count_cons_ne c 32 r h]
   have hp:([32]:List UInt8).isPrefixOf (c::r)=false:=by simp [List.isPrefixOf,Ne.symm h]
   have hix:Lib.index (c::r) [32]=if Lib.index r [32] == -1 then -1 else Lib.index r [32]+1:=by rw [Lib.index,hp];simp
   simp only [Ym,if_neg h]
   rw [← ih]
   cases hk:Lib.count r [32] with
   | zero=>simp [Lib.splitK]
   | succ k =>
    simp only [Lib.splitK,hix]
    have hge:=Lib.index_ge r [32]
    by_cases hm:Lib.index r [32] = -1
    ·simp [hm]
    ·obtain ⟨j,hj⟩ : ∃ j:Nat,Lib.index r [32]=j:=⟨(Lib.index r [32]).toNat,by omega⟩
     have e1:((Lib.index r [32] == -1)=true)=False:=by simp [hm]
     have e2:((j:Int)+1 == -1)=false:=by
      rw [beq_eq_false_iff_ne]
      omega
     have e3:((j:Int)+1).toNat=j+1:=by omega
     have e4:((j:Int) == -1)=false:=by
      rw [beq_eq_false_iff_ne]
      omega
     simp [hj,e2,e3,e4]
theorem Zdl : ∀ s:List UInt8,(Ym s).length≤s.length+1 ∧ ∀ x∈Ym s,x.length≤s.length
 | []=>by simp [Ym]
 | c :: r=>by
  obtain ⟨h1,h2⟩:=Zdl r
  unfold Ym
  split
  ·refine ⟨by simp only [List.length_cons];omega,fun x hx=>?_⟩
   rcases List.mem_cons.1 hx with rfl|hx
   ·simp
   ·have:=h2 x hx
    simp only [List.length_cons];omega
  ·split
   ·rename_i x q hq
    rw [hq] at h1 h2
    refine ⟨by simp only [List.length_cons] at *;omega,fun y hy=>?_⟩
    rcases List.mem_cons.1 hy with rfl|hy
    ·have:=h2 x (List.mem_cons_self)
     simp only [List.length_cons];omega
    ·have:=h2 y (List.mem_cons_of_mem _ hy)
     simp only [List.length_cons];omega
   ·exact ⟨by simp,fun y hy=>by simp at hy;subst hy;simp⟩
def V1 (s:List UInt8):List Value:=[bs s]
theorem Xo (s:List UInt8):(V1 s).length=1:=rfl
theorem Za1 (s:List UInt8):(V1 s).all Value.oneCell'=true:=rfl
theorem Zd7 (s:List UInt8) (hs:s.length≤1000000) (L:Zb) (hS:Sz L):HC Tryz.prog 169 [bs s,bs [32]] L (fun v L' => ∃ b,v=sl b 0 (Ym s).length (Ym s).length∧L'=[(b,.cells ⟨((Ym s).map V1).flatten⟩ 9)]::L):=by
 obtain ⟨m,hm⟩:=hS.ml
 have hz:(⟨⟨s⟩⟩:ByteArray).size=s.length:=by simp [ByteArray.size]
 have e1:Lib.countB ⟨⟨s⟩⟩ ⟨⟨[32]⟩⟩=Lib.count s [32]:=rfl
 have e2:=Lib.splitB_data ⟨⟨[32]⟩⟩ 0 (Lib.count s [32]) ⟨⟨s⟩⟩
 have e3:Lib.splitK [32] 0 (Lib.count s [32]) s=Ym s:=Zd8 s
 have e4:(Lib.splitB ⟨⟨[32]⟩⟩ 0 (Lib.count s [32]) ⟨⟨s⟩⟩).length=Lib.count s [32]+1:=Lib.splitB_all ⟨⟨[32]⟩⟩ (by decide) 0 _ ⟨⟨s⟩⟩ rfl
 have e5:(Lib.splitB ⟨⟨[32]⟩⟩ 0 (Lib.count s [32]) ⟨⟨s⟩⟩).map (·.data.toList)=Ym s:=e2.trans e3
 have e6:(Ym s).length=Lib.count s [32]+1:=by rw [← e5,List.length_map,e4]
 have e7:(Lib.splitB ⟨⟨[32]⟩⟩ 0 (Lib.count s [32]) ⟨⟨s⟩⟩).map Value.string=((Ym s).map V1).flatten:=by
  rw [← e5,List.map_map]
  generalize Lib.splitB ⟨⟨[32]⟩⟩ 0 (Lib.count s [32]) ⟨⟨s⟩⟩=l
  induction l with
  | nil=>rfl
  | cons x l ih=>simp only [List.map_cons,List.flatten_cons,Function.comp,V1,List.singleton_append,ih]
 refine hc_alloc (V:=fun b=>sl b 0 (Ym s).length (Ym s).length) (fun _ _=>Tryz.call169 _ _) fun w hw=>?_
 refine (Tryz.strings_Split ⟨⟨s⟩⟩ ⟨⟨[32]⟩⟩ m w (by omega) (Ziy hw hm) (by decide)).mono ?_
 rintro e w' ⟨rfl,rfl⟩
 rw [e1,e6,e7]
 exact ⟨rfl,rfl⟩
theorem Zjn (k:Nat) (hk:k≤1000000) (L:Zb):HC Tryz.prog 171 [bs [110],iv k] L (fun v L'=>v=bs (List.replicate k 110)∧L'=L):=by
 refine Zad (V:=fun v=>v=bs (List.replicate k 110)) (fun _ _=>Tryz.call171 _ _) fun w hw=>?_
 refine (Tryz.strings_Repeat ⟨⟨[110]⟩⟩ k w (by omega) (by show 1*k≤_;omega)).mono ?_
 rintro e w' ⟨rfl,hb⟩
 refine ⟨_,rfl,?_,hb⟩
 have:=Lib.repeatL_replicate 110 1 k
 rw [show List.replicate 1 (110:UInt8)=[110] from rfl,Nat.mul_one] at this
 show Value.string ⟨⟨Lib.repeatL [110] k⟩⟩=_
 rw [this]
def Ub:List (List UInt8)→List UInt8
 | []=>[]
 | [x]=>x
 | x::y::r=>x++([44,32]++Ub (y::r))
theorem Zpl : ∀ l:List (List UInt8),Lib.join l [44,32]=Ub l
 | []=>rfl
 | [x]=>by simp [Lib.join,List.intercalate,Ub]
 | x::y::r=>by
  have ih:=Zpl (y::r)
  show [44,32].intercalate (x::y::r)=x++([44,32]++Ub (y::r))
  rw [← ih]
  simp [Lib.join,List.intercalate,List.intersperse]
theorem Zns (a:Option Addr) (cap:Nat) (l:List (List UInt8)) (L:Zb) (hR:Rd V1 1 L a l) (hl:l.length≤cap) (h1:l.length≤100000000) (h2:(Ub l).length≤100000000000):HC Tryz.prog 249 [.slice a l.length cap,bs [44,32]] L (fun v L'=>v=bs (Ub l)∧L'=L):=by
 have he:(l.map fun x=>(⟨⟨x⟩⟩:ByteArray)).map (·.data.toList)=l:=by
  rw [List.map_map]
  exact List.map_id' l
 have hj:Lib.join ((l.map fun x=>(⟨⟨x⟩⟩:ByteArray)).map (·.data.toList)) [44,32]=Ub l:=by rw [he,Zpl]
 rcases hR with rfl|⟨b,i,q,E,fr,rfl,hb,hg⟩
 ·refine Zad (V:=fun v=>v=bs (Ub [])) (fun _ _=>Tryz.call249 _ _) fun w hw=>?_
  refine (Any.strings_Join_none Tryz.lays156 Tryz.Builder_Extra_156 a cap ⟨⟨[44,32]⟩⟩ w).mono ?_
  rintro e w' ⟨rfl,rfl⟩
  exact ⟨_,rfl,rfl,Below.refl _ _⟩
 ·refine Zad (V:=fun v=>v=bs (Ub l)) (fun _ _=>Tryz.call249 _ _) fun w hw=>?_
  have hlen:(l.map fun x=>(⟨⟨x⟩⟩:ByteArray)).length=l.length:=by rw [List.length_map]
  rw [← hlen]
  refine (Tryz.strings_Join b i cap (l.map fun x=>(⟨⟨x⟩⟩:ByteArray)) ⟨⟨[44,32]⟩⟩ w ?_ (Zhv hw hb) (by rw [hlen];omega) (by rw [hlen];exact hl) ?_).mono ?_
  ·intro j x hx
   rw [List.getElem?_map,Option.map_eq_some_iff] at hx
   obtain ⟨y,hy,rfl⟩:=hx
   refine Zkz hw hb ?_
   have h9:=hg j y hy
   rw [Nat.mul_one] at h9
   exact h9.at0 rfl
  ·show (Lib.join _ [44,32]).length≤_
   rw [hj]
   omega
  ·rintro e w' ⟨rfl,hb⟩
   refine ⟨_,rfl,?_,hb⟩
   show Value.string ⟨⟨Lib.join _ [44,32]⟩⟩=_
   rw [hj]
end Go.HL
end
