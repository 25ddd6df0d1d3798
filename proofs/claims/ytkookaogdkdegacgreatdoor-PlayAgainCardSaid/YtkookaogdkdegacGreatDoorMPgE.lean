/- Texts laid into one, without what the claim does not use. Conditions: none. -/
import Derived.Test.YtkookaogdkdegacGreatDoorMPgD
set_option linter.unusedVariables false
set_option linter.unusedSimpArgs false
/-! LdB -/
section
namespace Go.HL
open Go Go.Proofs
theorem Rd.inn {α:Type} {enc:α→List Value} {sz:Nat} {L:Zb} {c:List Zo} {a:Option Addr} {xs:List α} (e:Zo) (h:Rd enc sz (c::L) a xs):Rd enc sz ((e::c)::L) a xs:=by
 rcases h with h|⟨b,i,l,E,fr,h1,h2,h3⟩
 ·exact .inl h
 ·exact .inr ⟨b,i,l,E,fr,h1,X4 h2,h3⟩
theorem bit_iff0 (n k:Nat):(((((n:Int) / 2 ^ k).toNat &&& Int.toNat 1:Nat):Int)=0)↔n / 2 ^ k % 2=0:=by
 have e:((n:Int) / 2 ^ k).toNat=n / 2 ^ k:=by
  have:((n:Int) / 2 ^ k)=((n / 2 ^ k:Nat):Int):=by simp
  rw [this];rfl
 rw [e,show Int.toNat 1=1 from rfl,Nat.and_one_is_mod]
 omega
def W0 (m:Ld) (f:Fr):Prop:=f.kd=m.wait∧f.dl=m.deal∧f.att=m.att∧f.to=m.id∧0≤f.fr∧f.fr<m.w.length∧m.heard / 2 ^ f.fr.toNat % 2=0
instance (m:Ld) (f:Fr):Decidable (W0 m f):=by unfold W0;infer_instance
def Zhd (m:Ld) (i:Nat):List St:=if m.heard / 2 ^ i % 2=1 then [m.told.getD i Wu] else []
def Wl (m:Ld):List St:=(List.range m.w.length).flatMap (Zhd m)
def Ze7 (m:Ld) (f:Fr):Ld:=if f.kd=2 then m else { m with seen:=max m.seen f.s.pr }
def Zdt (m:Ld) (f:Fr):Ld:={ Ze7 m f with heard:=m.heard ||| 2 ^ f.fr.toNat,told:=m.told.set f.fr.toNat f.s }
def Zc7 (m:Ld) (p:Int):Ld × List Fr:=(Vu m,Zcj (Vu m) 7 p)
def Zkf (m:Ld) (p:Int):Ld × List Fr:=(Q6 m p,Zcj (Q6 m p) 5 p)
def Xf (m:Ld):Ld × List Fr:=
 if m.wait=2∧m.heard=2 ^ m.w.length-1 then Zkf m 4 else
 if m.wait=2∨(Xi m.w m.heard).1=false then (m,[]) else
 if m.wait=6 then Zc7 m (W4 m.phase) else
 if (Yv (Wl m)).2 then Zc7 m (Yv (Wl m)).1 else Zkf m (Yv (Wl m)).1
def Z7 (m:Ld) (f:Fr):Ld × List Fr:=
 if m.wait=0 ∨ ¬ W0 m f then (m,[]) else
 if f.yes=false then noM (Ze7 m f) else Xf (Zdt m f)
theorem Qd (f:Nat→List St) (i:Nat):(List.range (i+1)).flatMap f=(List.range i).flatMap f++f i:=by
 rw [List.range_succ,List.flatMap_append];simp
theorem Ul (f:Nat→List St) (hf : ∀ i,(f i).length≤1) : ∀ i,((List.range i).flatMap f).length≤i
 | 0=>by simp
 | i+1=>by rw [Qd,List.length_append];have:=Ul f hf i;have:=hf i;omega
theorem Zl1 (m:Ld) (i:Nat):(Zhd m i).length≤1:=by unfold Zhd;split<;>simp
theorem Zde {a:Nat} {k n:Nat} (h:a<2 ^ n) (hk:k<n):a ||| 2 ^ k<2 ^ n:=Nat.or_lt_two_pow h (Nat.pow_lt_pow_right (by decide) hk)
set_option maxHeartbeats 2000000 attribute [local irreducible] HW HO HQ HD HC QOp Has Upd Zq Gets Yj Ya Zv Wf Yg Zp Wq Z5
attribute [local irreducible] Yt
theorem Zhe (lp:Nat) (wv:Value) (wc:List Zo) (m:Ld) (L:Zb) (hm:LdOk wv wc m) (hh:m.heard<128):HC Tryz.prog 133 [pt lp 0] (W6 lp wv wc m::L)
  (fun v L' => ∃ c,Vec 43 3 sc v (Wl m) c∧L'=c::W6 lp wv wc m::L):=by
 obtain ⟨a,cap,rfl,hcap,hR⟩:=hm.vec.rd Yh
 have hlen:=hm.len
 have htl:=hm.told
 generalize hwv:Value.slice a m.w.length cap=wv at *
 have g3:(Yt wv m)[0+3]? = some (.slice a m.w.length cap):=by rw [hwv];exact Yl rfl
 have g6:(Yt wv m)[0+6]? = some (iv m.heard):=Yl rfl
 refine Za (fun _ _=>Tryz.call133 _ _) Tryz.func133 rfl Tryz.ntmps133 (Nat.le_of_ble_eq_true rfl) ?_;simp only [Zd,Nat.reduceAdd]
 repeat' (first|refine uN ?_|(refine uB ?_;intro b)|(refine uP ?_ ?_<;>(intro h;((try simp only [zs,zq,reduceCtorEq] at h);try exact zx)))|fail)
 refine Zlg ?_
 refine Z2 (σ:=Nat × Value × List Zo) (fun q=>[(0,pt lp 0),(3,q.2.1),(9,iv m.w.length),(10,iv q.1)]) (fun q=>q.2.2::W6 lp wv wc m::L) (fun q=>q.1≤m.w.length∧Vec 43 3 sc q.2.1 ((List.range q.1).flatMap (Zhd m)) q.2.2) (fun q=>m.w.length-q.1) (0,Vr,[]) uS (List.Sublist.refl _) ⟨by simp,Yk⟩ ?_
 rintro ⟨i,v,c⟩ ⟨hi,hv⟩
 simp only at hi hv ⊢
 have hle:=Ul (Zhd m) (Zl1 m) i
 by_cases hlt:i<m.w.length
 ·have hb1:=Zjk m.heard (i:Int).toNat (by omega)
  have hb2:=Zk2 m.heard (i:Int).toNat
  have ht:m.told[i]? = some (m.told.getD i Wu):=by rw [List.getD,List.getElem?_eq_getElem (by omega)];rfl
  have gt:=ld_told (wv:=wv) ht
  by_cases hbit:m.heard / 2 ^ i % 2=1
  ·have e:Zhd m i=[m.told.getD i Wu]:=if_pos hbit
   have hb3:=hb2.2 hbit
   repeat' (first|refine uN ?_|refine X5 S ?_|(refine uB ?_;intro b)|(refine uP ?_ ?_<;>(intro h;((try simp only [zs,zq,reduceCtorEq] at h);try exact zx)))|refine da 101 ?_|fail)
   refine fo 1 ?_
   refine wp1 S (m.told.getD i Wu) hv Zbq sc_one ?_
   intro v' c' hv'
   repeat' (first|refine uN ?_|refine X5 S ?_|(refine uB ?_;intro b)|(refine uP ?_ ?_<;>(intro h;((try simp only [zs,zq,reduceCtorEq] at h);try exact zx)))|refine da 101 ?_|fail)
   refine Zi (i+1,v',c') uS (.cons_cons _ (.cons _ (.refl _))) ⟨by simp only;omega,?_⟩ (by simp only;omega)
   simp only
   rw [Qd,e]
   exact hv'
  ·have e:Zhd m i=[]:=if_neg hbit
   have hb3 : ¬ _:=fun h=>hbit (hb2.1 h)
   repeat' (first|refine uN ?_|refine X5 S ?_|(refine uB ?_;intro b)|(refine uP ?_ ?_<;>(intro h;((try simp only [zs,zq,reduceCtorEq] at h);try exact zx)))|refine da 101 ?_|fail)
   refine Zi (i+1,v,c) uS (List.Sublist.refl _) ⟨by simp only;omega,?_⟩ (by simp only;omega)
   simp only
   rw [Qd,e,List.append_nil]
   exact hv
 ·repeat' (first|refine uN ?_|refine X5 S ?_|(refine uB ?_;intro b)|(refine uP ?_ ?_<;>(intro h;((try simp only [zs,zq,reduceCtorEq] at h);try exact zx)))|refine da 101 ?_|fail)
  have hi2:i=m.w.length:=by omega
  subst hi2
  exact Xb (LS.refl _) ⟨c,hv,rfl⟩
theorem Zaf (lp:Nat) (wv:Value) (wc:List Zo) (m:Ld) (f:Fr) (L:Zb) (hm:LdOk wv wc m) (hh:m.heard<128):HC Tryz.prog 126 [pt lp 0,.agg ⟨fc f⟩] (W6 lp wv wc m::L)
  (fun v L'=>v = .bool (decide (W0 m f))∧L'=W6 lp wv wc m::L):=by
 obtain ⟨a,cap,rfl,hcap,hR⟩:=hm.vec.rd Yh
 have hlen:=hm.len
 generalize hwv:Value.slice a m.w.length cap=wv at *
 have g0:(Yt wv m)[0+0]? = some (iv m.id):=Yl rfl
 have g1:(Yt wv m)[0+1]? = some (iv m.deal):=Yl rfl
 have g2:(Yt wv m)[0+2]? = some (iv m.att):=Yl rfl
 have g3:(Yt wv m)[0+3]? = some (.slice a m.w.length cap):=by rw [hwv];exact Yl rfl
 have g5:(Yt wv m)[0+5]? = some (iv m.wait):=Yl rfl
 have g6:(Yt wv m)[0+6]? = some (iv m.heard):=Yl rfl
 have hb1:=Zjk m.heard f.fr.toNat (by omega)
 have hb2:=bit_iff0 m.heard f.fr.toNat
 refine Za (fun _ _=>Tryz.call126 _ _) Tryz.func126 rfl Tryz.ntmps126 (Nat.le_of_ble_eq_true rfl) ?_;simp only [Zd,Nat.reduceAdd]
 repeat' (first|refine uN ?_|refine Z8 S ?_|(refine uB ?_;intro b)|(refine uP ?_ ?_<;>(intro h;((try simp only [zs,zq,reduceCtorEq] at h);try exact zx)))|fail)
 all_goals refine Xb (LS.skip _ (LS.refl _)) ⟨congrArg Value.bool ?_,rfl⟩
 all_goals first
  | (refine (decide_eq_false (fun h=>?_)).symm;obtain ⟨h1,h2,h3,h4,h5,h6,h7⟩:=h;omega)
  | (refine decide_eq_decide.2 ⟨fun h=>⟨?_,?_,?_,?_,?_,?_,hb2.1 h⟩,fun h=>hb2.2 h.2.2.2.2.2.2⟩<;>assumption)
theorem Zmv {m:Ld} {f:Fr} (h:m.wait=0 ∨ ¬ W0 m f):Z7 m f=(m,[]):=if_pos h
theorem LdOk.m1 {wv:Value} {wc:List Zo} {m:Ld} (h:LdOk wv wc m) (f:Fr):LdOk wv wc (Ze7 m f):=by
 unfold Ze7;split
 ·exact h
 ·exact h.of rfl rfl
theorem LdOk.m2 {wv:Value} {wc:List Zo} {m:Ld} (h:LdOk wv wc m) (f:Fr):LdOk wv wc (Zdt m f):=by
 refine h.of ?_ ?_
 ·unfold Zdt Ze7;split<;>rfl
 ·simp [Zdt]
theorem Zb4 {m:Ld} {f:Fr} (h:W0 m f):0≤f.fr∧f.fr<m.w.length∧f.kd=m.wait:=⟨h.2.2.2.2.1,h.2.2.2.2.2.1,h.1⟩
theorem or_int (a k:Nat):(((a:Int).toNat ||| ((1:Int)*2 ^ (k:Int).toNat).toNat:Nat):Int)=((a ||| 2 ^ k:Nat):Int):=by
 have:((1:Int)*2 ^ (k:Int).toNat)=((2 ^ k:Nat):Int):=by simp
 rw [this];rfl
theorem or_ok {a k:Nat} (ha:a<128) (hk:k<7):0≤(a:Int)∧(a:Int)≤Qy .i64∧0≤(1:Int)*2 ^ (k:Int).toNat∧(1:Int)*2 ^ (k:Int).toNat≤Qy .i64:=by
 have e:((1:Int)*2 ^ (k:Int).toNat)=((2 ^ k:Nat):Int):=by simp
 have:2 ^ k<2 ^ 7:=Nat.pow_lt_pow_right (by decide) hk
 rw [e]
 simp only [Qy]
 generalize 2 ^ k=q at *
 omega
theorem full_int (n:Nat):((1:Int)*2 ^ (n:Int).toNat-1)=((2 ^ n-1:Nat):Int):=by
 have e:((1:Int)*2 ^ (n:Int).toNat)=((2 ^ n:Nat):Int):=by simp
 have:=Nat.two_pow_pos n
 rw [e];generalize 2 ^ n=q at *;omega
theorem shl_le {n:Nat} (h:n≤7):1≤(1:Int)*2 ^ (n:Int).toNat∧(1:Int)*2 ^ (n:Int).toNat≤128:=by
 have e:((1:Int)*2 ^ (n:Int).toNat)=((2 ^ n:Nat):Int):=by simp
 have:=Nat.two_pow_pos n
 have:2 ^ n≤2 ^ 7:=Nat.pow_le_pow_right (by decide) h
 rw [e];generalize 2 ^ n=q at *;omega
end Go.HL
end

/-! LdC -/
section
namespace Go.HL
open Go Go.Proofs
set_option maxHeartbeats 2000000 attribute [local irreducible] HW HO HQ HD HC QOp Has Upd Zq Gets Yj Ya Zv Wf Yg Zp Wq Z5
attribute [local irreducible] Yt
theorem Zgj (T:Nat) (E:Nat→Addr) (lp:Nat) (wv:Value) (wc:List Zo) (m:Ld) (f:Fr) (L:Zb) (hG:Er T E [2,3,4] L) (hm:LdOk wv wc m) (hh:m.heard<2 ^ m.w.length) (hw:m.wait≠0) (hfit:W0 m f) (hy:f.yes=true) (hkd:f.kd=2) :
  HC Tryz.prog 74 [pt lp 0,.agg ⟨fc f⟩] (W6 lp wv wc m::L) (fun v L' => ∃ c,Y9 v (Xf (Zdt m f)).2 c∧L'=c::W6 lp wv wc (Xf (Zdt m f)).1::L):=by
 have hm2:=hm.m2 f
 have hlen:=hm.len
 have htl:=hm.told
 have hh7:m.heard<128:=Nat.lt_of_lt_of_le hh (Nat.pow_le_pow_right (by decide) hlen)
 have kf : ∀ L,_:=fun L=>Zaf lp wv wc m f L hm hh7
 obtain ⟨a,cap,rfl,hcap,hR⟩:=hm.vec.rd Yh
 generalize hwv:Value.slice a m.w.length cap=wv at *
 obtain ⟨hfr,hfr2,hk0⟩:=Zb4 hfit
 rw [decide_eq_true hfit] at kf
 clear hfit
 obtain ⟨fr,to,dl0,kd,att,yes,s⟩:=f
 simp only at hy hfr hfr2 hkd hk0
 subst hy hkd
 obtain ⟨k,rfl⟩:=Int.eq_ofNat_of_zero_le hfr
 have hk7:k<m.w.length:=by omega
 generalize hM:Zdt m ⟨k,to,dl0,2,att,true,s⟩=M at *
 have eM:M={ m with heard:=m.heard ||| 2 ^ k,told:=m.told.set k s }:=by rw [← hM];rfl
 have e1:M.w=m.w:=by rw [eM]
 have e2:M.wait=2:=by rw [eM];exact hk0.symm
 have e3:M.heard<128:=by rw [eM];exact Zde (n:=7) hh7 (by omega)
 have g3:(Yt wv M)[0+3]? = some (.slice a m.w.length cap):=by rw [hwv];exact Yl rfl
 have g5:(Yt wv m)[0+5]? = some (iv m.wait):=Yl rfl
 have g5':(Yt wv M)[0+5]? = some (iv 2):=by rw [← e2];exact Yl rfl
 have g6:(Yt wv m)[0+6]? = some (iv m.heard):=Yl rfl
 have g6':(Yt wv M)[0+6]? = some (iv M.heard):=Yl rfl
 have p6:Zq (Yt wv m) (0+6) [iv (((m.heard:Int).toNat ||| ((1:Int)*2 ^ (k:Int).toNat).toNat:Nat):Int)] (Yt wv { m with heard:=m.heard ||| 2 ^ k }):=by
  rw [or_int];exact Vd rfl (by decide) rfl rfl rfl
 have pT:Zq (Yt wv { m with heard:=m.heard ||| 2 ^ k }) (0+7+(k:Int).toNat*3) (sc s) (Yt wv M):=by
  rw [eM];exact Zll (m:={ m with heard:=m.heard ||| 2 ^ k }) s (by show k<m.told.length;omega)
 have hsh:=Zcx (k:=k) (by omega)
 have hor:=or_ok hh7 (show k<7 by omega)
 have hsh2:=Zcx (k:=m.w.length) (by omega)
 have hsh3:=shl_le hlen
 have hfull:=full_int m.w.length
 have ke : ∀ b o,HC Tryz.prog 128 [.slice a m.w.length cap,iv M.heard] ([(b,o)]::W6 lp wv wc M::L) (fun v L'=>v = .tuple ⟨[.bool (Xi m.w M.heard).1,eV T E (Xi m.w M.heard).2]⟩∧L'=[(b,o)]::W6 lp wv wc M::L):=fun b o =>
  Zar T E a cap m.w M.heard _ ((hG.cons _).cons _) (((hR L).inn _).cons _) (by omega) (by omega)
 have kp:=Q7 lp wv wc M 4
 have hc1:M.heard=2 ^ M.w.length-1→Xf M=Zkf M 4:=fun h=>if_pos ⟨e2,h⟩
 have hc2 : ¬ M.heard=2 ^ M.w.length-1→Xf M=(M,[]):=fun h=>by unfold Xf;rw [if_neg (fun h2=>h h2.2),if_pos (.inl e2)]
 clear eM hM
 refine Za (fun _ _=>Tryz.call74 _ _) Tryz.func74 rfl Tryz.ntmps74 (Nat.le_of_ble_eq_true rfl) ?_;simp only [Zd,Nat.reduceAdd]
 repeat' (first|refine uN ?_|refine Z8 S ?_|refine Yq S ?_|refine Vc (qC (Vf kf 1)) ?_|refine Zcm (qC (Vf kf 1)) ?_|refine uC (ke _ _) ?_|refine Yy (fun _=>Vf kf 1) ?_|refine Yz (fun _=>Vf kf 1) ?_|refine Y0 (fun _=>Vf kf 1) ?_|refine Y1 (fun _=>Vf kf 1) ?_|refine Yy (fun _=>ke _ _) ?_|refine Yz (fun _=>ke _ _) ?_|refine Y0 (fun _=>ke _ _) ?_|refine Y1 (fun _=>ke _ _) ?_|(refine uB ?_;intro b)|(refine uP ?_ ?_<;>(intro h;((try simp only [zs,zq,reduceCtorEq] at h);try exact zx)))|refine da 101 ?_|fail)
 ·rw [hc1 (by rw [e1];omega)]
  refine fo 1 ?_
  refine gc (kp _ hm2) ?_
  rintro v L' ⟨c,hv,rfl⟩
  repeat' (first|refine uN ?_|refine Z8 S ?_|refine Yq S ?_|(refine uB ?_;intro b)|(refine uP ?_ ?_<;>(intro h;((try simp only [zs,zq,reduceCtorEq] at h);try exact zx)))|refine da 101 ?_|fail)
  exact Xb uZ ⟨c,hv,rfl⟩
 ·rw [hc2 (by rw [e1];omega)]
  exact Xb (L':=[]::W6 lp wv wc M::L) (LS.skip _ (LS.refl _)) ⟨[],Yk,rfl⟩
theorem Zgi (T:Nat) (E:Nat→Addr) (lp:Nat) (wv:Value) (wc:List Zo) (m:Ld) (f:Fr) (L:Zb) (hG:Er T E [2,3,4] L) (hm:LdOk wv wc m) (hh:m.heard<2 ^ m.w.length) (hw:m.wait≠0) (hfit:W0 m f) (hy:f.yes=true) (hkd:f.kd≠2) :
  HC Tryz.prog 74 [pt lp 0,.agg ⟨fc f⟩] (W6 lp wv wc m::L) (fun v L' => ∃ c,Y9 v (Xf (Zdt m f)).2 c∧L'=c::W6 lp wv wc (Xf (Zdt m f)).1::L):=by
 have hm2:=hm.m2 f
 have hlen:=hm.len
 have htl:=hm.told
 have hh7:m.heard<128:=Nat.lt_of_lt_of_le hh (Nat.pow_le_pow_right (by decide) hlen)
 have kf : ∀ L,_:=fun L=>Zaf lp wv wc m f L hm hh7
 obtain ⟨a,cap,rfl,hcap,hR⟩:=hm.vec.rd Yh
 generalize hwv:Value.slice a m.w.length cap=wv at *
 obtain ⟨hfr,hfr2,hk0⟩:=Zb4 hfit
 rw [decide_eq_true hfit] at kf
 clear hfit
 obtain ⟨fr,to,dl0,kd,att,yes,s⟩:=f
 simp only at hy hfr hfr2 hkd hk0
 subst hy
 obtain ⟨k,rfl⟩:=Int.eq_ofNat_of_zero_le hfr
 have hk7:k<m.w.length:=by omega
 generalize hM:Zdt m ⟨k,to,dl0,kd,att,true,s⟩=M at *
 have eM:M={ m with seen:=max m.seen s.pr,heard:=m.heard ||| 2 ^ k,told:=m.told.set k s }:=by rw [← hM];simp only [Zdt,Ze7,if_neg hkd];rfl
 have e1:M.w=m.w:=by rw [eM]
 have e2:M.wait=kd:=by rw [eM];exact hk0.symm
 have e3:M.heard<128:=by rw [eM];exact Zde (n:=7) hh7 (by omega)
 have g3:(Yt wv M)[0+3]? = some (.slice a m.w.length cap):=by rw [hwv];exact Yl rfl
 have g5:(Yt wv m)[0+5]? = some (iv m.wait):=Yl rfl
 have g5':(Yt wv M)[0+5]? = some (iv kd):=by rw [← e2];exact Yl rfl
 have g6:(Yt wv { m with seen:=max m.seen s.pr })[0+6]? = some (iv m.heard):=Yl rfl
 have g6':(Yt wv M)[0+6]? = some (iv M.heard):=Yl rfl
 have g8':(Yt wv M)[0+28]? = some (iv M.phase):=ld_phase hm2.told
 have g9:(Yt wv m)[0+29]? = some (iv m.seen):=Zgw htl
 have p9:Zq (Yt wv m) (0+29) [iv (max m.seen s.pr)] (Yt wv { m with seen:=max m.seen s.pr }):=Zic htl _
 have p6:Zq (Yt wv { m with seen:=max m.seen s.pr }) (0+6) [iv (((m.heard:Int).toNat ||| ((1:Int)*2 ^ (k:Int).toNat).toNat:Nat):Int)] (Yt wv { m with seen:=max m.seen s.pr,heard:=m.heard ||| 2 ^ k }):=by
  rw [or_int];exact Vd rfl (by decide) rfl rfl rfl
 have pT:Zq (Yt wv { m with seen:=max m.seen s.pr,heard:=m.heard ||| 2 ^ k }) (0+7+(k:Int).toNat*3) (sc s) (Yt wv M):=by
  rw [eM];exact Zll (m:={ m with seen:=max m.seen s.pr,heard:=m.heard ||| 2 ^ k }) s (by show k<m.told.length;omega)
 have hsh:=Zcx (k:=k) (by omega)
 have hor:=or_ok hh7 (show k<7 by omega)
 have ke : ∀ b o,HC Tryz.prog 128 [.slice a m.w.length cap,iv M.heard] ([(b,o)]::W6 lp wv wc M::L) (fun v L'=>v = .tuple ⟨[.bool (Xi m.w M.heard).1,eV T E (Xi m.w M.heard).2]⟩∧L'=[(b,o)]::W6 lp wv wc M::L):=fun b o =>
  Zar T E a cap m.w M.heard _ ((hG.cons _).cons _) (((hR L).inn _).cons _) (by omega) (by omega)
 have kd1:=Ui lp wv wc M (W4 M.phase)
 have kd2:=Ui lp wv wc M (Yv (Wl M)).1
 have kp:=Q7 lp wv wc M (Yv (Wl M)).1
 have ks:=fun L=>Zhe lp wv wc M L hm2 e3
 have hst:(Wl M).length≤7:=by
  have:=Ul (Zhd M) (Zl1 M) M.w.length
  have e9:M.w.length=m.w.length:=by rw [e1]
  show ((List.range M.w.length).flatMap (Zhd M)).length≤7
  omega
 have hc0 : ¬ (M.wait=2∧M.heard=2 ^ M.w.length-1):=by rw [e2];exact fun h=>hkd h.1
 have hc1:(Xi m.w M.heard).1=false→Xf M=(M,[]):=fun h=>by unfold Xf;rw [if_neg hc0,e1,if_pos (.inr h)]
 have hc2:(Xi m.w M.heard).1=true→kd=6→Xf M=Zc7 M (W4 M.phase):=fun h h6=>by unfold Xf;rw [if_neg hc0,e1,if_neg (by rw [h,e2];simp [hkd]),e2,if_pos h6]
 have hc3:(Xi m.w M.heard).1=true→kd≠6→Xf M=if (Yv (Wl M)).2 then Zc7 M (Yv (Wl M)).1 else Zkf M (Yv (Wl M)).1:=fun h h6=>by unfold Xf;rw [if_neg hc0,e1,if_neg (by rw [h,e2];simp [hkd]),e2,if_neg h6]
 generalize (Xi m.w M.heard).1=en at *
 clear eM hM hc0
 refine Za (fun _ _=>Tryz.call74 _ _) Tryz.func74 rfl Tryz.ntmps74 (Nat.le_of_ble_eq_true rfl) ?_;simp only [Zd,Nat.reduceAdd]
 repeat' (first|refine uN ?_|refine Z8 S ?_|refine Yq S ?_|refine Vc (qC (Vf kf 1)) ?_|refine Zcm (qC (Vf kf 1)) ?_|refine uC (ke _ _) ?_|refine uC (Z4 _ _) ?_|refine Yy (fun _=>Vf kf 1) ?_|refine Yz (fun _=>Vf kf 1) ?_|refine Y0 (fun _=>Vf kf 1) ?_|refine Y1 (fun _=>Vf kf 1) ?_|refine Yy (fun _=>ke _ _) ?_|refine Yz (fun _=>ke _ _) ?_|refine Y0 (fun _=>ke _ _) ?_|refine Y1 (fun _=>ke _ _) ?_|refine Yy (fun _=>Z4 _ _) ?_|refine Yz (fun _=>Z4 _ _) ?_|refine Y0 (fun _=>Z4 _ _) ?_|refine Y1 (fun _=>Z4 _ _) ?_|(refine uB ?_;intro b)|(refine uP ?_ ?_<;>(intro h;((try simp only [zs,zq,reduceCtorEq] at h);try exact zx)))|refine da 101 ?_|fail)
 ·rw [hc1 h]
  exact Xb (L':=[]::W6 lp wv wc M::L) (LS.skip _ (LS.refl _)) ⟨[],Yk,rfl⟩
 ·rename_i hen
  rw [hc2 hen h]
  refine fo 1 ?_
  refine gc (kd1 _ hm2) ?_
  rintro v L' ⟨c,hv,rfl⟩
  repeat' (first|refine uN ?_|refine Z8 S ?_|refine Yq S ?_|(refine uB ?_;intro b)|(refine uP ?_ ?_<;>(intro h;((try simp only [zs,zq,reduceCtorEq] at h);try exact zx)))|refine da 101 ?_|fail)
  exact Xb uZ ⟨c,hv,rfl⟩
 ·rename_i hen
  rw [hc3 hen h]
  refine fo 1 ?_
  refine gc (ks _) ?_
  rintro v L' ⟨c,hv,rfl⟩
  obtain ⟨a2,cap2,rfl,hcap2,hR2⟩:=hv.rd Zbq
  have kc:=fun L=>Zge a2 cap2 (Wl M) (c::L) (hR2 L) (by omega)
  repeat' (first|refine uN ?_|refine Z8 S ?_|refine Yq S ?_|refine uC (kc _) ?_|refine Yy (fun _=>kc _) ?_|refine Yz (fun _=>kc _) ?_|refine Y0 (fun _=>kc _) ?_|refine Y1 (fun _=>kc _) ?_|(refine uB ?_;intro b)|(refine uP ?_ ?_<;>(intro h;((try simp only [zs,zq,reduceCtorEq] at h);try exact zx)))|refine da 101 ?_|fail)
  ·rename_i hfin
   rw [if_pos h]
   refine fo 1 ?_
   refine gc (kd2 _ hm2) ?_
   rintro v L' ⟨c3,hv3,rfl⟩
   repeat' (first|refine uN ?_|refine Z8 S ?_|refine Yq S ?_|(refine uB ?_;intro b)|(refine uP ?_ ?_<;>(intro h;((try simp only [zs,zq,reduceCtorEq] at h);try exact zx)))|refine da 101 ?_|fail)
   exact Xb uZ ⟨c3,hv3,rfl⟩
  ·rename_i hfin
   rw [if_neg (by simp [h])]
   refine fo 1 ?_
   refine gc (kp _ hm2) ?_
   rintro v L' ⟨c3,hv3,rfl⟩
   repeat' (first|refine uN ?_|refine Z8 S ?_|refine Yq S ?_|(refine uB ?_;intro b)|(refine uP ?_ ?_<;>(intro h;((try simp only [zs,zq,reduceCtorEq] at h);try exact zx)))|refine da 101 ?_|fail)
   exact Xb uZ ⟨c3,hv3,rfl⟩
theorem Zdd (T:Nat) (E:Nat→Addr) (lp:Nat) (wv:Value) (wc:List Zo) (m:Ld) (f:Fr) (L:Zb) (hG:Er T E [2,3,4] L) (hm:LdOk wv wc m) (hh:m.heard<2 ^ m.w.length) :
  HC Tryz.prog 74 [pt lp 0,.agg ⟨fc f⟩] (W6 lp wv wc m::L) (fun v L' => ∃ c,Y9 v (Z7 m f).2 c∧L'=c::W6 lp wv wc (Z7 m f).1::L):=by
 have hh7:m.heard<128:=Nat.lt_of_lt_of_le hh (Nat.pow_le_pow_right (by decide) hm.len)
 have kf : ∀ L,_:=fun L=>Zaf lp wv wc m f L hm hh7
 have g5:(Yt wv m)[0+5]? = some (iv m.wait):=Yl rfl
 by_cases hw:m.wait=0 ∨ ¬ W0 m f
 ·rw [Zmv hw]
  by_cases h0:m.wait=0
  ·refine Za (fun _ _=>Tryz.call74 _ _) Tryz.func74 rfl Tryz.ntmps74 (Nat.le_of_ble_eq_true rfl) ?_;simp only [Zd,Nat.reduceAdd]
   repeat' (first|refine uN ?_|refine Z8 S ?_|refine Yq S ?_|(refine uB ?_;intro b)|(refine uP ?_ ?_<;>(intro h;((try simp only [zs,zq,reduceCtorEq] at h);try exact zx)))|refine da 101 ?_|fail)
   exact Xb (L':=[]::W6 lp wv wc m::L) (LS.skip _ (LS.refl _)) ⟨[],Yk,rfl⟩
  ·rw [decide_eq_false (by rcases hw with h|h;exact absurd h h0;exact h)] at kf
   refine Za (fun _ _=>Tryz.call74 _ _) Tryz.func74 rfl Tryz.ntmps74 (Nat.le_of_ble_eq_true rfl) ?_;simp only [Zd,Nat.reduceAdd]
   repeat' (first|refine uN ?_|refine Z8 S ?_|refine Yq S ?_|refine Vc (qC (Vf kf 1)) ?_|refine Zcm (qC (Vf kf 1)) ?_|refine Yy (fun _=>Vf kf 1) ?_|refine Yz (fun _=>Vf kf 1) ?_|refine Y0 (fun _=>Vf kf 1) ?_|refine Y1 (fun _=>Vf kf 1) ?_|(refine uB ?_;intro b)|(refine uP ?_ ?_<;>(intro h;((try simp only [zs,zq,reduceCtorEq] at h);try exact zx)))|refine da 101 ?_|fail)
   exact Xb (L':=[]::W6 lp wv wc m::L) (LS.skip _ (LS.refl _)) ⟨[],Yk,rfl⟩
 ·have hfit:W0 m f:=by
   by_cases h:W0 m f
   ·exact h
   ·exact absurd (.inr h) hw
  have hw0:m.wait≠0:=fun h=>hw (.inl h)
  by_cases hy:f.yes=true
  ·have e:Z7 m f=Xf (Zdt m f):=by unfold Z7;rw [if_neg hw,if_neg (by simp [hy])]
   rw [e]
   by_cases hkd:f.kd=2
   ·exact Zgj T E lp wv wc m f L hG hm hh hw0 hfit hy hkd
   ·exact Zgi T E lp wv wc m f L hG hm hh hw0 hfit hy hkd
  ·have hy':f.yes=false:=by simpa using hy
   have e:Z7 m f=noM (Ze7 m f):=by unfold Z7;rw [if_neg hw,if_pos hy']
   rw [e]
   rw [decide_eq_true hfit] at kf
   clear hw hfit e
   have kn:=no_calls lp wv wc (Ze7 m f)
   have hm1:=hm.m1 f
   have g9:(Yt wv m)[0+29]? = some (iv m.seen):=Zgw hm.told
   by_cases hkd:f.kd=2
   ·have e1:Ze7 m f=m:=if_pos hkd
    rw [e1] at kn hm1 ⊢
    refine Za (fun _ _=>Tryz.call74 _ _) Tryz.func74 rfl Tryz.ntmps74 (Nat.le_of_ble_eq_true rfl) ?_;simp only [Zd,Nat.reduceAdd]
    repeat' (first|refine uN ?_|refine Z8 S ?_|refine Yq S ?_|refine Vc (qC (Vf kf 1)) ?_|refine Zcm (qC (Vf kf 1)) ?_|refine Yy (fun _=>Vf kf 1) ?_|refine Yz (fun _=>Vf kf 1) ?_|refine Y0 (fun _=>Vf kf 1) ?_|refine Y1 (fun _=>Vf kf 1) ?_|(refine uB ?_;intro b)|(refine uP ?_ ?_<;>(intro h;((try simp only [zs,zq,reduceCtorEq] at h);try exact zx)))|refine da 101 ?_|fail)
    refine fo 1 ?_
    refine gc (kn _ hm1) ?_
    rintro v L' ⟨c,hv,rfl⟩
    repeat' (first|refine uN ?_|refine Z8 S ?_|refine Yq S ?_|(refine uB ?_;intro b)|(refine uP ?_ ?_<;>(intro h;((try simp only [zs,zq,reduceCtorEq] at h);try exact zx)))|refine da 101 ?_|fail)
    exact Xb uZ ⟨c,hv,rfl⟩
   ·have p9:Zq (Yt wv m) (0+29) [iv (max m.seen f.s.pr)] (Yt wv (Ze7 m f)):=by
     unfold Ze7;rw [if_neg hkd];exact Zic hm.told _
    refine Za (fun _ _=>Tryz.call74 _ _) Tryz.func74 rfl Tryz.ntmps74 (Nat.le_of_ble_eq_true rfl) ?_;simp only [Zd,Nat.reduceAdd]
    repeat' (first|refine uN ?_|refine Z8 S ?_|refine Yq S ?_|refine Vc (qC (Vf kf 1)) ?_|refine Zcm (qC (Vf kf 1)) ?_|refine Yy (fun _=>Vf kf 1) ?_|refine Yz (fun _=>Vf kf 1) ?_|refine Y0 (fun _=>Vf kf 1) ?_|refine Y1 (fun _=>Vf kf 1) ?_|(refine uB ?_;intro b)|(refine uP ?_ ?_<;>(intro h;((try simp only [zs,zq,reduceCtorEq] at h);try exact zx)))|refine da 101 ?_|fail)
    refine fo 1 ?_
    refine gc (kn _ hm1) ?_
    rintro v L' ⟨c,hv,rfl⟩
    repeat' (first|refine uN ?_|refine Z8 S ?_|refine Yq S ?_|(refine uB ?_;intro b)|(refine uP ?_ ?_<;>(intro h;((try simp only [zs,zq,reduceCtorEq] at h);try exact zx)))|refine da 101 ?_|fail)
    exact Xb uZ ⟨c,hv,rfl⟩
end Go.HL
end

/-! WgC -/
section
namespace Go.HL
open Go Go.Proofs
set_option maxHeartbeats 2000000 attribute [local irreducible] HW HO HQ HD HC QOp Has Upd Zq Gets Yj Ya Zv Wf Yg Zp Wq Z5

theorem Wz (a:Option Addr) (cap:Nat) (xs:List Int) (L:Zb) (hR:Rd ic 1 L a xs) (hl:xs.length≤1000000) :
  HC Tryz.prog 18 [.slice a xs.length cap] L (fun v L' => ∃ c,Own 3 1 v xs.length (xs.map ic).flatten c∧L'=c::L):=by
 refine Za (fun _ _=>Tryz.call18 _ _) Tryz.func18 rfl Tryz.ntmps18 (Nat.le_of_ble_eq_true rfl) ?_;simp only [Zd,Nat.reduceAdd]
 repeat' (first|refine uN ?_)
 refine Zla ?_
 (apply Zd0 S;(case hx=>exact rfl);(case hy=>exact rfl);(case ht=>exact rfl);(case he=>exact rfl);(case hz=>exact rfl);(case hzs=>exact rfl);(case hzl=>exact rfl);(case hn=>exact rfl))
 (case ho=>exact Zlw)
 (case hs=>exact Zbs (fun _=>rfl) (hR.cons _))
 (case h1=>exact Uh (fun _=>rfl) xs)
 (case hby=>omega)
 (case hmax=>omega)
 intro v' c' ho
 repeat' (first|refine uN ?_)
 refine Ye rfl rfl (List.Sublist.refl _) ⟨c',by simpa using ho,rfl⟩
end Go.HL
end

/-! LdD -/
section
namespace Go.HL
open Go Go.Proofs
def Zh (id deal:Int) (w:List Int) (att wait:Int):Ld:=⟨id,deal,att,w,Zhb,wait,0,List.replicate 7 Wu,0,0⟩
def Qa (id deal:Int) (w:List Int) (att:Int):Option Nat:=match Yo w with
 | some e=>some e
 | none=>if id<0∨w.length≤id∨deal<0∨6≤deal∨1048576<att then some 2 else none
def LdRes (T:Nat) (E:Nat→Addr) (e:Option Nat) (m:Ld) (L:Zb) (v:Value) (L':Zb):Prop:=match e with
 | some x=>v = .tuple ⟨[.pointer none,eV T E (some x)]⟩∧L'=L
 | none => ∃ lp wv wc,v = .tuple ⟨[pt lp 0,.nilIface]⟩∧LdOk wv wc m∧L'=W6 lp wv wc m::L
def tryE (id deal:Int) (w:List Int) (att:Int):Option Nat:=match Qa id deal w att with
 | some e=>some e
 | none=>if att<1 then some 2 else none
set_option maxHeartbeats 2000000 attribute [local irreducible] HW HO HQ HD HC QOp Has Upd Zq Gets Yj Ya Zv Wf Yg Zp Wq Z5
theorem Zdp (T:Nat) (E:Nat→Addr) (id deal:Int) (a:Option Addr) (cap:Nat) (w:List Int) (att wait:Int) (L:Zb) (hG:Er T E [2,3,4] L) (hR:Rd ic 1 L a w) (hl:w.length≤1000000) :
  HC Tryz.prog 124 [iv id,iv deal,.slice a w.length cap,iv att,iv wait] L (LdRes T E (Qa id deal w att) (Zh id deal w att wait) L):=by
 have kc:=U5 T E a cap w L hG hR hl
 cases hc:Yo w with
 | some e =>
  rw [hc] at kc
  rw [show Qa id deal w att=some e by unfold Qa;rw [hc]]
  refine Za (fun _ _=>Tryz.call124 _ _) Tryz.func124 rfl Tryz.ntmps124 (Nat.le_of_ble_eq_true rfl) ?_;simp only [Zd,Nat.reduceAdd]
  repeat' (first|refine uN ?_|refine X5 S ?_|refine uC (kc) ?_|refine Yy (fun _=>kc) ?_|refine Yz (fun _=>kc) ?_|refine Y0 (fun _=>kc) ?_|refine Y1 (fun _=>kc) ?_|(refine uB ?_;intro b)|refine dg S 100 (fun _ _=>?_)|(refine uP ?_ ?_<;>(intro h;((try simp only [zs,zq,reduceCtorEq] at h);try exact zx)))|refine da 101 ?_|fail)
  exact Q9 (LS.refl _) ⟨rfl,rfl⟩
 | none =>
  rw [hc] at kc
  obtain ⟨c1,c2,c3,c4⟩:=Wv hc
  have hle:Qa id deal w att=if id<0∨w.length≤id∨deal<0∨6≤deal∨1048576<att then some 2 else none:=by unfold Qa;rw [hc]
  refine Za (fun _ _=>Tryz.call124 _ _) Tryz.func124 rfl Tryz.ntmps124 (Nat.le_of_ble_eq_true rfl) ?_;simp only [Zd,Nat.reduceAdd]
  repeat' (first|refine uN ?_|refine X5 S ?_|refine uC (kc) ?_|refine Yy (fun _=>kc) ?_|refine Yz (fun _=>kc) ?_|refine Y0 (fun _=>kc) ?_|refine Y1 (fun _=>kc) ?_|(refine uB ?_;intro b)|refine dg S 100 (fun _ _=>?_)|(refine uP ?_ ?_<;>(intro h;((try simp only [zs,zq,reduceCtorEq] at h);try exact zx)))|refine da 101 ?_|fail)
  all_goals first|(rw [hle,if_pos (by omega)];exact Q9 (LS.refl _) ⟨rfl,rfl⟩;done)|skip
  rw [hle,if_neg (by omega)]
  refine Zla ?_
  refine wpA S (enc:=ic) (xs:=[]) (ys:=w) Yk ((hR.cons _).cons _) Yh Zdi ?_ (by rfl) (by rfl) (by rfl) (by rfl) (by rfl) (by rfl) (by rfl) (by rfl) (by rfl) (by simp only [List.length_nil];omega) (by simp only [List.length_nil];omega)
  intro v' c' hv
  rw [List.nil_append] at hv
  obtain ⟨a',cap',rfl,-⟩:=hv.rd Yh
  repeat' (first|refine uN ?_|refine X5 S ?_|refine uC (kc) ?_|refine Yy (fun _=>kc) ?_|refine Yz (fun _=>kc) ?_|refine Y0 (fun _=>kc) ?_|refine Y1 (fun _=>kc) ?_|(refine uB ?_;intro b)|refine dg S 100 (fun _ _=>?_)|(refine uP ?_ ?_<;>(intro h;((try simp only [zs,zq,reduceCtorEq] at h);try exact zx)))|refine da 101 ?_|fail)
  refine Q9 (L':=W6 b (.slice a' w.length cap') c' (Zh id deal w att wait)::L) ?_ ⟨_,_,_,rfl,⟨hv,rfl,c2⟩,rfl⟩
  refine LS.of_perm ?_
  simp only [W6,List.flatten_cons,List.cons_append,List.nil_append]
  exact List.perm_middle.symm
theorem Zho (T:Nat) (E:Nat→Addr) (id deal:Int) (a:Option Addr) (cap:Nat) (w:List Int) (L:Zb) (hG:Er T E [2,3,4] L) (hR:Rd ic 1 L a w) (hl:w.length≤1000000) :
  HC Tryz.prog 69 [iv id,iv deal,.slice a w.length cap] L (LdRes T E (Qa id deal w 0) (Zh id deal w 0 2) L):=by
 have kc:=Zdp T E id deal a cap w 0 2 L hG hR hl
 cases hc:Qa id deal w 0 with
 | some e =>
  rw [hc] at kc
  refine Za (fun _ _=>Tryz.call69 _ _) Tryz.func69 rfl Tryz.ntmps69 (Nat.le_of_ble_eq_true rfl) ?_;simp only [Zd,Nat.reduceAdd]
  repeat' (first|refine uN ?_)
  refine gc kc ?_
  rintro v L' ⟨rfl,rfl⟩
  repeat' (first|refine uN ?_)
  exact Q9 (LS.refl _) ⟨rfl,rfl⟩
 | none =>
  rw [hc] at kc
  refine Za (fun _ _=>Tryz.call69 _ _) Tryz.func69 rfl Tryz.ntmps69 (Nat.le_of_ble_eq_true rfl) ?_;simp only [Zd,Nat.reduceAdd]
  repeat' (first|refine uN ?_)
  refine gc kc ?_
  rintro v L' ⟨lp,wv,wc,rfl,hv,rfl⟩
  repeat' (first|refine uN ?_)
  exact Q9 (LS.refl _) ⟨_,_,_,rfl,hv,rfl⟩
theorem Znv (T:Nat) (E:Nat→Addr) (id deal:Int) (a:Option Addr) (cap:Nat) (w:List Int) (att:Int) (L:Zb) (hG:Er T E [2,3,4] L) (hR:Rd ic 1 L a w) (hl:w.length≤1000000) :
  HC Tryz.prog 192 [iv id,iv deal,.slice a w.length cap,iv att] L (LdRes T E (tryE id deal w att) (Zh id deal w att 4) L):=by
 have kc:=Zdp T E id deal a cap w att 4 L hG hR hl
 unfold tryE
 cases hc:Qa id deal w att with
 | some e =>
  rw [hc] at kc
  refine Za (fun _ _=>Tryz.call192 _ _) Tryz.func192 rfl Tryz.ntmps192 (Nat.le_of_ble_eq_true rfl) ?_;simp only [Zd,Nat.reduceAdd]
  repeat' (first|refine uN ?_|refine Z8 S ?_|(refine uP ?_ ?_<;>(intro h;((try simp only [zs,zq,reduceCtorEq] at h);try exact zx)))|fail)
  refine gc kc ?_
  rintro v L' ⟨rfl,rfl⟩
  repeat' (first|refine uN ?_|refine X5 S ?_|refine dg S 100 (fun _ _=>?_)|(refine uP ?_ ?_<;>(intro h;((try simp only [zs,zq,reduceCtorEq] at h);try exact zx)))|refine da 101 ?_|fail)
  exact Q9 (LS.refl _) ⟨rfl,rfl⟩
 | none =>
  rw [hc] at kc
  refine Za (fun _ _=>Tryz.call192 _ _) Tryz.func192 rfl Tryz.ntmps192 (Nat.le_of_ble_eq_true rfl) ?_;simp only [Zd,Nat.reduceAdd]
  repeat' (first|refine uN ?_|refine Z8 S ?_|(refine uP ?_ ?_<;>(intro h;((try simp only [zs,zq,reduceCtorEq] at h);try exact zx)))|fail)
  refine gc kc ?_
  rintro v L' ⟨lp,wv,wc,rfl,hv,rfl⟩
  have hG2:=hG.cons (W6 lp wv wc (Zh id deal w att 4))
  repeat' (first|refine uN ?_|refine X5 S ?_|refine dg S 100 (fun _ _=>?_)|(refine uP ?_ ?_<;>(intro h;((try simp only [zs,zq,reduceCtorEq] at h);try exact zx)))|refine da 101 ?_|fail)
  ·rw [if_pos h]
   exact Q9 (LS.skips _ (LS.refl _)) ⟨rfl,rfl⟩
  ·rw [if_neg h]
   exact Q9 (LS.refl _) ⟨_,_,_,rfl,hv,rfl⟩
end Go.HL
end

/-! WoC -/
section
namespace Go.HL
open Go Go.Proofs
structure Nd where
 pl:Pl
 site:Option (Jn × (Int→Bool))
 leads:List (Option Ld)
 done:List Bool
structure Wm where
 w:List Int
 n:List Nd
 br:Int × Int→Bool
 l:List Fr
 ev:List Evt
structure NdG where
 np:Nat
 bp:Nat
 ba:Nat
 sp:Nat
 bj:Nat
 mb:Nat
 es:List MapEntry
 ck:Nat
 ld:List (Nat × Value × List Zo)
def Zlk:Option Ld→Nat × Value × List Zo→Value
 | none,_ => .pointer none
 | some _,g=>pt g.1 0
def ldB:Option Ld→Nat × Value × List Zo→List Zo
 | none,_=>[]
 | some m,g=>W6 g.1 g.2.1 g.2.2 m
def Zcc (g:NdG):Option (Jn × (Int→Bool))→Value
 | none => .pointer none
 | some _=>pt g.sp 0
def siB (g:NdG) (i:Int):Option (Jn × (Int→Bool))→List Zo
 | none=>[]
 | some (j,_)=>Zcp g.sp g.bj g.mb i++Zcv g.mb g.es g.ck++jC g.bj g.bp j
def Xt (sv:Value) (bp:Nat) (lv:List Value) (dn:List Bool):List Value:=[sv,pt bp 0]++lv++dn.map Value.bool
def Yd (g:NdG) (m:Nd):List Value:=List.zipWith Zlk m.leads g.ld
def Un (g:NdG) (m:Nd):List Zo:=(List.zipWith ldB m.leads g.ld).flatten
def Uw (g:NdG) (m:Nd):Obj := .cells ⟨Xt (Zcc g m.site) g.bp (Yd g m) m.done⟩ 122
def U0 (g:NdG) (m:Nd):List Zo:=[(g.np,Uw g m)]
def Ze0 (g:NdG) (i:Int) (m:Nd):List Zo:=U0 g m++Yf g.bp g.ba m.pl++siB g i m.site++Un g m
def Wx:List NdG→List Nd→Nat→List Zo
 | g::gs,m::ms,i=>Ze0 g i m++Wx gs ms (i+1)
 | _,_,_=>[]
def Xs:List NdG→List Nd→Nat→Nat→List Zo
 | g::gs,m::ms,i,0=>Wx gs ms (i+1)
 | g::gs,m::ms,i,s+1=>Ze0 g i m++Xs gs ms (i+1) s
 | _,_,_,_=>[]
theorem Zdw : ∀ {gs:List NdG} {ms:List Nd} {i s:Nat} {g:NdG} {m:Nd},gs[s]? = some g→ms[s]? = some m→List.Perm (Wx gs ms i) (Ze0 g ((i+s:Nat):Int) m++Xs gs ms i s)
 | [],_,_,_,_,_,h,_=>by simp at h
 | _::_,[],_,_,_,_,_,h=>by simp at h
 | g0::gs,m0::ms,i,0,g,m,h,h2=>by
  simp at h h2;subst h;subst h2
  exact .refl _
 | g0::gs,m0::ms,i,s+1,g,m,h,h2=>by
  have ih:=Zdw (gs:=gs) (ms:=ms) (i:=i+1) (s:=s) (g:=g) (m:=m) (by simpa using h) (by simpa using h2)
  simp only [Wx,Xs]
  rw [show i+(s+1)=i+1+s by omega]
  refine (ih.append_left _).trans ?_
  rw [← List.append_assoc,← List.append_assoc]
  exact List.perm_append_comm.append_right _
theorem Zlp : ∀ {gs:List NdG} {ms:List Nd} {i s:Nat} {g:NdG} {m:Nd},Xs (gs.set s g) (ms.set s m) i s=Xs gs ms i s
 | [],_,_,_,_,_=>by simp [Xs]
 | _::_,[],_,s,_,_=>by cases s<;>simp [Xs]
 | g0::gs,m0::ms,i,0,g,m=>rfl
 | g0::gs,m0::ms,i,s+1,g,m=>by
  simp only [List.set_cons_succ,Xs]
  rw [Zlp]
structure WdG where
 wp:Nat
 wv:Value
 wc:List Zo
 nv:Value
 nc:List Zo
 mb:Nat
 es:List MapEntry
 ck:Nat
 lv:Value
 lc:List Zo
 ev:Value
 ec:List Zo
 nd:List NdG
def V1 (G:WdG):Obj := .cells ⟨[G.wv,G.nv,.map (some G.mb),G.lv,G.ev]⟩ 110
def pc (p:Nat):List Value:=[pt p 0]
theorem Zd5 (p:Nat):(pc p).length=1:=rfl
theorem pc_one (p:Nat):(pc p).all Value.oneCell'=true:=rfl
def Zan (G:WdG):Zb:=[[(G.wp,V1 G)],G.wc,G.nc,[(G.mb,.map ⟨G.es⟩ G.ck)],G.lc,G.ec]
def Z9 (G:WdG) (M:Wm):Zb:=Zan G++[Wx G.nd M.n 0]
structure LdI (w:List Int) (s d:Nat) (x:Ld):Prop where
 ww:x.w=w
 id:x.id=s
 deal:x.deal=d
 att0:0≤x.att
 att1:x.att≤1048576
 told:x.told.length=7
 tok : ∀ t∈x.told,0≤t.ph∧t.ph≤5
 heard:x.heard<2 ^ w.length
 ph0:0≤x.phase
 ph1:x.phase≤5
 seen0:0≤x.seen
 seen1:x.seen≤1048576
structure NdI (w:List Int) (s:Nat) (m:Nd):Prop where
 leads:m.leads.length=6
 done:m.done.length=6
 b512:m.pl.b.length=512
 si:SI m.pl ⟨Zt m.pl.b,m.pl.off⟩
 up : ∀ j ref,m.site=some (j,ref)→j=⟨Zt m.pl.b,false⟩∧m.pl.off=false
 dn:m.site=none→m.pl.off=true
 ldi : ∀ (d:Nat) x,m.leads[d]? = some (some x)→LdI w s d x
structure NdOk (g:NdG) (m:Nd):Prop where
 ld:g.ld.length=6
 lok : ∀ (d:Nat) x,m.leads[d]? = some (some x) → ∀ q,g.ld[d]? = some q→LdOk q.2.1 q.2.2 x
 map : ∀ j ref,m.site=some (j,ref)→Z5 iv g.es ref
theorem NdI.pl {w:List Int} {s:Nat} {m:Nd} (h:NdI w s m):PlOk m.pl:=h.si.ji.pl
theorem NdI.jn {w:List Int} {s:Nat} {m:Nd} (h:NdI w s m) {j:Jn} {ref:Int→Bool} (hs:m.site=some (j,ref)):SI m.pl j:=by
 obtain ⟨e1,e2⟩:=h.up j ref hs
 have:=h.si
 rw [e2] at this
 rw [e1]
 exact this
structure WI (M:Wm):Prop where
 w0:Yo M.w=none
 wl:M.w.length≤7
 w1:1≤M.w.length
 wn:M.n.length=M.w.length
 fr : ∀ f∈M.l,¬ Wg f∧f.to<M.w.length∧f.fr<M.w.length
 evl:M.ev.length≤500
 nd : ∀ (s:Nat) m,M.n[s]? = some m→NdI M.w s m
structure WdOk (G:WdG) (M:Wm):Prop where
 w:Vec 3 1 ic G.wv M.w G.wc
 nodes:Vec 117 1 pc G.nv (G.nd.map (·.np)) G.nc
 ndl:G.nd.length=M.n.length
 br:Z5 pk G.es M.br
 l:Y9 G.lv M.l G.lc
 ev:Vec 81 3 ec G.ev M.ev G.ec
 nd : ∀ (s:Nat) g m,G.nd[s]? = some g→M.n[s]? = some m→NdOk g m
end Go.HL
end

/-! WoD -/
section
namespace Go.HL
open Go Go.Proofs
structure WdIn (L:Zb) (G:WdG) (M:Wm):Prop where
 wp:Has L G.wp (V1 G)
 ns : ∃ a cap,G.nv = .slice a M.n.length cap∧Rd pc 1 L a (G.nd.map (·.np))
 ws : ∃ a cap,G.wv = .slice a M.w.length cap∧Rd ic 1 L a M.w
 ls : ∃ a cap,G.lv = .slice a M.l.length cap∧Rd fc 9 L a M.l
 es : ∃ a cap,G.ev = .slice a M.ev.length cap
theorem Rd.mono {α:Type} {enc:α→List Value} {sz:Nat} {L L':Zb} {a:Option Addr} {xs:List α} (h:Rd enc sz L a xs) (hl : ∀ b o,Has L b o→Has L' b o):Rd enc sz L' a xs:=by
 rcases h with h|⟨b,i,l,E,fr,h1,hb,hg⟩
 ·exact .inl h
 ·exact .inr ⟨b,i,l,E,fr,h1,hl _ _ hb,hg⟩
theorem wdIn {L:Zb} {G:WdG} {M:Wm} (h:WdOk G M) (hl : ∀ b o,Has (Zan G) b o→Has L b o):WdIn L G M:=by
 refine ⟨hl _ _ Zj,?_,?_,?_,?_⟩
 ·obtain ⟨a,cap,e,-,hR⟩:=h.nodes.rd Zd5
  refine ⟨a,cap,by rw [e,List.length_map,h.ndl],(hR []).mono fun b o hb=>hl b o ?_⟩
  simp only [Has,List.flatten_cons,List.flatten_nil,List.append_nil,Zan] at hb ⊢
  simp [hb]
 ·obtain ⟨a,cap,e,-,hR⟩:=h.w.rd Yh
  refine ⟨a,cap,e,(hR []).mono fun b o hb=>hl b o ?_⟩
  simp only [Has,List.flatten_cons,List.flatten_nil,List.append_nil,Zan] at hb ⊢
  simp [hb]
 ·obtain ⟨a,cap,e,-,hR⟩:=h.l.rd Zl
  refine ⟨a,cap,e,(hR []).mono fun b o hb=>hl b o ?_⟩
  simp only [Has,List.flatten_cons,List.flatten_nil,List.append_nil,Zan] at hb ⊢
  simp [hb]
 ·obtain ⟨a,cap,e,-,hR⟩:=h.ev.rd Wi
  exact ⟨a,cap,e⟩
def Xu (M:Wm) (s:Int):Option Nat:=if s<0∨M.n.length≤s then some 2 else none
def Zf (M:Wm) (s:Int):Nd:=M.n.getD s.toNat ⟨⟨[],false,0⟩,none,[],[]⟩
def Zcf (M:Wm) (s:Int):Option Nat:=match Xu M s with
 | some e=>some e
 | none=>if (Zf M s).site.isNone then some 6 else none
def Zg (G:WdG) (s:Int):NdG:=G.nd.getD s.toNat ⟨0,0,0,0,0,0,[],0,[]⟩
theorem Zai {M:Wm} {s:Int} (h:Xu M s=none):0≤s∧s<M.n.length:=by
 unfold Xu at h
 split at h
 ·cases h
 ·omega
theorem Zdy {M:Wm} {s:Int} (h0:0≤s) (h1:s<M.n.length):Xu M s=none:=if_neg (by omega)
theorem getD_some {α:Type} {l:List α} {i:Nat} {x:α} (h:i<l.length):l[i]? = some (l.getD i x):=by simp [List.getD,h]
theorem wd_np {L:Zb} {G:WdG} {M:Wm} {s:Int} (hI:WdIn L G M) (hl:G.nd.length=M.n.length) (h0:0≤s) (h1:s<M.n.length) : ∃ b i l F fr cap,G.nv=sl b i M.n.length cap∧Has L b (.cells ⟨l⟩ F fr)∧l[i+s.toNat]? = some (pt (Zg G s).np 0):=by
 obtain ⟨a,cap,hnv,hR⟩:=hI.ns
 obtain ⟨b,i,l,F,fr,rfl,hb,hg⟩:=hR.at1 (j:=s) h0 (by simp;omega)
 refine ⟨b,i,l,F,fr,cap,hnv,hb,?_⟩
 have e:(G.nd.map (·.np))[s.toNat]'(by simp;omega)=(Zg G s).np:=by
  rw [List.getElem_map]
  unfold Zg
  rw [List.getD,List.getElem?_eq_getElem (by omega)]
  rfl
 rw [e] at hg
 exact hg 0 _ rfl
theorem Xg {sv:Value} {bp:Nat} {lv:List Value} {dn:List Bool} {k:Nat} {v:Value} (h:[sv,pt bp 0][k]? = some v):(Xt sv bp lv dn)[0+k]? = some v:=by
 have hlt:k<[sv,pt bp 0].length:=(List.getElem?_eq_some_iff.1 h).1
 rw [Nat.zero_add,Xt,List.append_assoc,List.getElem?_append_left hlt,h]
theorem Wy {M:Wm} (s:Int):(Xu M s=some 2)∨(Xu M s=none∧0≤s∧s<M.n.length):=by
 by_cases h:s<0∨M.n.length≤s
 ·exact .inl (if_pos h)
 ·exact .inr ⟨if_neg h,by omega,by omega⟩
set_option maxHeartbeats 2000000 attribute [local irreducible] HW HO HQ HD HC QOp Has Upd Zq Gets Yj Ya Zv Wf Yg Zp Wq Z5
attribute [local irreducible] Xt
theorem We (T:Nat) (E:Nat→Addr) (G:WdG) (M:Wm) (s:Int) (L:Zb) (hG:Er T E [2] L) (hI:WdIn L G M) (hl:G.nd.length=M.n.length):HC Tryz.prog 76 [pt G.wp 0,iv s] L (fun v L'=>v=(match Xu M s with
  | some e => .tuple ⟨[.pointer none,eV T E (some e)]⟩
  | none => .tuple ⟨[pt (Zg G s).np 0,.nilIface]⟩)∧L'=L):=by
 have hw:=hI.wp
 unfold V1 at hw
 by_cases h:s<0∨M.n.length≤s
 ·have e:Xu M s=some 2:=if_pos h
  obtain ⟨a,cap,hnv,hR⟩:=hI.ns
  rw [hnv] at hw
  simp only [e]
  by_cases h0:s<0
  ·refine Za (fun _ _=>Tryz.call76 _ _) Tryz.func76 rfl Tryz.ntmps76 (Nat.le_of_ble_eq_true rfl) ?_;simp only [Zd,Nat.reduceAdd]
   repeat' (first|refine uN ?_|refine Z8 S ?_|(refine uP ?_ ?_<;>(intro h;((try simp only [zs,zq,reduceCtorEq] at h);try exact zx)))|fail)
   exact Zjh rfl ⟨rfl,rfl⟩
  ·refine Za (fun _ _=>Tryz.call76 _ _) Tryz.func76 rfl Tryz.ntmps76 (Nat.le_of_ble_eq_true rfl) ?_;simp only [Zd,Nat.reduceAdd]
   repeat' (first|refine uN ?_|refine Z8 S ?_|(refine uP ?_ ?_<;>(intro h;((try simp only [zs,zq,reduceCtorEq] at h);try exact zx)))|fail)
   exact Zjh rfl ⟨rfl,rfl⟩
 ·have e:Xu M s=none:=if_neg h
  simp only [e]
  obtain ⟨b,i,l,F,fr,cap,hnv,hb,hg⟩:=wd_np hI hl (s:=s) (by omega) (by omega)
  rw [hnv] at hw
  refine Za (fun _ _=>Tryz.call76 _ _) Tryz.func76 rfl Tryz.ntmps76 (Nat.le_of_ble_eq_true rfl) ?_;simp only [Zd,Nat.reduceAdd]
  repeat' (first|refine uN ?_|refine Z8 S ?_|(refine uP ?_ ?_<;>(intro h;((try simp only [zs,zq,reduceCtorEq] at h);try exact zx)))|fail)
  exact Zjh rfl ⟨rfl,rfl⟩
theorem Zn0 (T:Nat) (E:Nat→Addr) (G:WdG) (M:Wm) (s:Int) (L:Zb) (hG:Er T E [2,6] L) (hI:WdIn L G M) (hl:G.nd.length=M.n.length) (hN:Xu M s=none→Has L (Zg G s).np (Uw (Zg G s) (Zf M s))):HC Tryz.prog 66 [pt G.wp 0,iv s] L (fun v L'=>v=(match Xu M s with
  | some e => .tuple ⟨[.pointer none,eV T E (some e)]⟩
  | none => .tuple ⟨[pt (Zg G s).np 0,eV T E (Zcf M s)]⟩)∧L'=L):=by
 have kn:=We T E G M s L hG.sub hI hl
 rcases Wy (M:=M) s with he|⟨he,h0,h1⟩
 ·simp only [he] at kn ⊢
  refine Za (fun _ _=>Tryz.call66 _ _) Tryz.func66 rfl Tryz.ntmps66 (Nat.le_of_ble_eq_true rfl) ?_;simp only [Zd,Nat.reduceAdd]
  repeat' (first|refine uN ?_|refine uC (kn) ?_|(refine uP ?_ ?_<;>(intro h;((try simp only [zs,zq,reduceCtorEq] at h);try exact zx)))|fail)
  exact Zjh rfl ⟨rfl,rfl⟩
 ·have hN':=hN he
  have hu:Zcf M s=if (Zf M s).site.isNone then some 6 else none:=by unfold Zcf;rw [he]
  simp only [he] at kn ⊢
  unfold Uw at hN'
  cases hs:(Zf M s).site with
  | none =>
   rw [hs] at hN' hu
   rw [hu]
   have g0:(Xt (.pointer none) (Zg G s).bp (Yd (Zg G s) (Zf M s)) (Zf M s).done)[0+0]? = some (.pointer none):=Xg rfl
   refine Za (fun _ _=>Tryz.call66 _ _) Tryz.func66 rfl Tryz.ntmps66 (Nat.le_of_ble_eq_true rfl) ?_;simp only [Zd,Nat.reduceAdd]
   repeat' (first|refine uN ?_|refine uC (kn) ?_|(refine uP ?_ ?_<;>(intro h;((try simp only [zs,zq,reduceCtorEq] at h);try exact zx)))|fail)
   exact Zjh rfl ⟨rfl,rfl⟩
  | some q =>
   rw [hs] at hN' hu
   rw [hu]
   have g0:(Xt (pt (Zg G s).sp 0) (Zg G s).bp (Yd (Zg G s) (Zf M s)) (Zf M s).done)[0+0]? = some (pt (Zg G s).sp 0):=Xg rfl
   obtain ⟨q1,q2⟩:=q
   refine Za (fun _ _=>Tryz.call66 _ _) Tryz.func66 rfl Tryz.ntmps66 (Nat.le_of_ble_eq_true rfl) ?_;simp only [Zd,Nat.reduceAdd]
   repeat' (first|refine uN ?_|refine uC (kn) ?_|(refine uP ?_ ?_<;>(intro h;((try simp only [zs,zq,reduceCtorEq] at h);try exact zx)))|fail)
   exact Zjh rfl ⟨rfl,rfl⟩
def Znx (M:Wm) (k:Int):Option Nat:=if k<0∨M.l.length≤k then some 4 else none
theorem Qt (T:Nat) (E:Nat→Addr) (G:WdG) (M:Wm) (k:Int) (L:Zb) (hG:Er T E [4] L) (hI:WdIn L G M):HC Tryz.prog 72 [pt G.wp 0,iv k] L (fun v L'=>v=eV T E (Znx M k)∧L'=L):=by
 have hw:=hI.wp
 unfold V1 at hw
 obtain ⟨a,cap,hlv,-⟩:=hI.ls
 rw [hlv] at hw
 unfold Znx
 by_cases h0:k<0
 ·rw [if_pos (.inl h0)]
  refine Za (fun _ _=>Tryz.call72 _ _) Tryz.func72 rfl Tryz.ntmps72 (Nat.le_of_ble_eq_true rfl) ?_;simp only [Zd,Nat.reduceAdd]
  repeat' (first|refine uN ?_|(refine uP ?_ ?_<;>(intro h;((try simp only [zs,zq,reduceCtorEq] at h);try exact zx)))|fail)
  exact U3 rfl ⟨rfl,rfl⟩
 ·by_cases h1:M.l.length≤k
  ·rw [if_pos (.inr h1)]
   refine Za (fun _ _=>Tryz.call72 _ _) Tryz.func72 rfl Tryz.ntmps72 (Nat.le_of_ble_eq_true rfl) ?_;simp only [Zd,Nat.reduceAdd]
   repeat' (first|refine uN ?_|(refine uP ?_ ?_<;>(intro h;((try simp only [zs,zq,reduceCtorEq] at h);try exact zx)))|fail)
   exact U3 rfl ⟨rfl,rfl⟩
  ·rw [if_neg (by omega)]
   refine Za (fun _ _=>Tryz.call72 _ _) Tryz.func72 rfl Tryz.ntmps72 (Nat.le_of_ble_eq_true rfl) ?_;simp only [Zd,Nat.reduceAdd]
   repeat' (first|refine uN ?_|(refine uP ?_ ?_<;>(intro h;((try simp only [zs,zq,reduceCtorEq] at h);try exact zx)))|fail)
   exact U3 rfl ⟨rfl,rfl⟩
end Go.HL
end

/-! WoE -/
section
namespace Go.HL
open Go Go.Proofs
def Vy (s:Int) (ph:Nat→Int) (q:List Bool × List Evt) (d:Nat):List Bool × List Evt:=
 if q.1.getD d true=true∨(ph d≠2∧ph d≠3) then q else (q.1.set d true,if q.2.length<500 then q.2++[⟨s,d,ph d⟩] else q.2)
def Qc (s:Int) (ph:Nat→Int) (q:List Bool × List Evt) (k:Nat):List Bool × List Evt:=(List.range k).foldl (Vy s ph) q
def V9 (j:Jn) (d:Nat):Int:=(j.l.getD d Zk).s.ph
def Wt (s:Int) (m:Nd) (ev:List Evt):List Bool × List Evt:=match m.site with
 | none=>(m.done,ev)
 | some (j,_)=>Qc s (V9 j) (m.done,ev) 6
theorem Zaj (s:Int) (ph:Nat→Int) (q:List Bool × List Evt) (k:Nat):Qc s ph q (k+1)=Vy s ph (Qc s ph q k) k:=by
 unfold Qc
 rw [List.range_succ,List.foldl_append]
 rfl
theorem Znc {s:Int} {ph:Nat→Int} {q:List Bool × List Evt} {d:Nat}:(Vy s ph q d).1.length=q.1.length:=by
 unfold Vy;split<;>simp
theorem noteD_ev {s:Int} {ph:Nat→Int} {q:List Bool × List Evt} {d:Nat} (h:q.2.length≤500):(Vy s ph q d).2.length≤500:=by
 unfold Vy
 split
 ·exact h
 ·simp only
  split
  ·simp;omega
  ·exact h
theorem Zbj {s:Int} {ph:Nat→Int} {q:List Bool × List Evt} : ∀ k,(Qc s ph q k).1.length=q.1.length
 | 0=>rfl
 | k+1=>by rw [Zaj,Znc,Zbj k]
theorem Zdz {s:Int} {ph:Nat→Int} {q:List Bool × List Evt} (h:q.2.length≤500) : ∀ k,(Qc s ph q k).2.length≤500
 | 0=>h
 | k+1=>by rw [Zaj];exact noteD_ev (Zdz h k)
theorem Zaw {sv:Value} {bp:Nat} {lv:List Value} {dn:List Bool} (h:lv.length=6):([sv,pt bp 0]++lv).length=8:=by simp [h]
theorem ndL_done {sv:Value} {bp:Nat} {lv:List Value} {dn:List Bool} {d:Nat} {b:Bool} (hl:lv.length=6) (h:dn[d]? = some b):(Xt sv bp lv dn)[0+8+(d:Int).toNat*1]? = some (.bool b):=by
 rw [Xt,List.getElem?_append_right (by rw [Zaw (dn:=dn) (bp:=bp) (sv:=sv) hl];omega),Zaw (dn:=dn) (bp:=bp) (sv:=sv) hl]
 rw [show 0+8+(d:Int).toNat*1-8=d by omega,List.getElem?_map,h]
 rfl
theorem ndL_putD {sv:Value} {bp:Nat} {lv:List Value} {dn:List Bool} {d:Nat} (b:Bool) (hl:lv.length=6) (h:d<dn.length):Zq (Xt sv bp lv dn) (0+8+(d:Int).toNat*1) [.bool b] (Xt sv bp lv (dn.set d b)):=by
 have e:Xt sv bp lv (dn.set d b)=(Xt sv bp lv dn).set (0+8+(d:Int).toNat*1) (.bool b):=by
  rw [Xt,Xt,List.set_append_right _ _ (by rw [Zaw (dn:=dn) (bp:=bp) (sv:=sv) hl];omega),Zaw (dn:=dn) (bp:=bp) (sv:=sv) hl,List.map_set]
  rw [show 0+8+(d:Int).toNat*1-8=d by omega]
 rw [e]
 refine Wk ?_
 rw [Xt,List.length_append,Zaw (dn:=dn) (bp:=bp) (sv:=sv) hl,List.length_map]
 omega
set_option maxHeartbeats 2000000 attribute [local irreducible] HW HO HQ HD HC QOp Has Upd Zq Gets Yj Ya Zv Wf Yg Zp Wq Z5
attribute [local irreducible] Xt Zw Vy
theorem Zaa (sp bj mb bp:Nat) (id:Int) (j:Jn) (d:Nat) (L:Zb) (h1:Has L sp (.cells ⟨[pt bj 0,iv id,.map (some mb)]⟩ 187)) (h2:Has L bj (.cells ⟨Zw bp j⟩ 261)) (hl:j.l.length=6) (hd:d<6) :
  HC Tryz.prog 143 [pt sp 0,iv d] L (fun v L'=>v = .tuple ⟨[.agg ⟨sc (j.l.getD d Zk).s⟩,.nilIface]⟩∧L'=L):=by
 have kg : ∀ c:List Zo,HC _ _ _ (c::L) _:=fun c=>Zb5 bj bp j d (c::L) (Ze h2) hl hd
 refine Za (fun _ _=>Tryz.call143 _ _) Tryz.func143 rfl Tryz.ntmps143 (Nat.le_of_ble_eq_true rfl) ?_;simp only [Zd,Nat.reduceAdd]
 repeat' (first|refine uN ?_|refine uC (kg _) ?_|(refine uB ?_;intro b)|fail)
 exact Q9 (LS.c (LS.refl _)) ⟨rfl,rfl⟩ (hx:=Vo S (hg:=Zc rfl (Zc rfl (Zc rfl Zu))))
structure SiIn (L:Zb) (g:NdG) (id:Int) (j:Jn):Prop where
 si:Has L g.sp (.cells ⟨[pt g.bj 0,iv id,.map (some g.mb)]⟩ 187)
 jn:Has L g.bj (.cells ⟨Zw g.bp j⟩ 261)
structure NpIn (L:Zb) (nv:Value) (n:Nat) (s:Int) (np:Nat):Prop where
 at_ : ∃ b i l F fr cap,nv=sl b i n cap∧Has L b (.cells ⟨l⟩ F fr)∧l[i+s.toNat]? = some (pt np 0)
 lo:0≤s
 hi:s<n
theorem Zch (G:WdG) (s:Int) (g:NdG) (m:Nd) (ev:List Evt) (n:Nat) (L:Zb) (hv:Vec 81 3 ec G.ev ev G.ec) (hl:ev.length≤500) (hp:NpIn L G.nv n s g.np) (hd:m.done.length=6) (hlv:(Yd g m).length=6)
  (hs : ∀ j ref,m.site=some (j,ref)→SiIn L g s j∧j.l.length=6):HC Tryz.prog 101 [pt G.wp 0,iv s] ([(G.wp,V1 G)]::G.ec::U0 g m::L)
  (fun v L' => ∃ evv c,Vec 81 3 ec evv (Wt s m ev).2 c∧v = .tuple ⟨[]⟩∧L'=[(G.wp,V1 { G with ev:=evv,ec:=c })]::c::U0 g { m with done:=(Wt s m ev).1 }::L):=by
 obtain ⟨wp,wv,wc,nv,nc,mb,es,ck,lv,lc,evv,evc,nd⟩:=G
 simp only at hv hp
 obtain ⟨⟨b,i,l,F,fr,cap,rfl,hb,hg⟩,h0,h1⟩:=hp
 obtain ⟨pl,site,leads,done⟩:=m
 simp only at hd hs
 simp only [V1,U0,Uw]
 cases site with
 | none =>
  have g0:(Xt (.pointer none) g.bp (Yd g ⟨pl,none,leads,done⟩) done)[0+0]? = some (.pointer none):=Xg rfl
  simp only [Wt,Zcc]
  refine Za (fun _ _=>Tryz.call101 _ _) Tryz.func101 rfl Tryz.ntmps101 (Nat.le_of_ble_eq_true rfl) ?_;simp only [Zd,Nat.reduceAdd]
  repeat' (first|refine uN ?_|refine Z8 S ?_|refine Yq S ?_|(refine uB ?_;intro b)|(refine uP ?_ ?_<;>(intro h;((try simp only [zs,zq,reduceCtorEq] at h);try exact zx)))|refine da 101 ?_|fail)
  exact er0 rfl ⟨_,_,hv,rfl,rfl⟩
 | some q =>
  obtain ⟨j,ref⟩:=q
  obtain ⟨⟨hsi,hjn⟩,hjl⟩:=hs j ref rfl
  have g0 : ∀ dn,(Xt (pt g.sp 0) g.bp (Yd g ⟨pl,some (j,ref),leads,done⟩) dn)[0+0]? = some (pt g.sp 0):=fun dn=>Xg rfl
  have hlv2 : ∀ dn,(Yd g ⟨pl,some (j,ref),leads,dn⟩)=(Yd g ⟨pl,some (j,ref),leads,done⟩):=fun dn=>rfl
  generalize hLV:Yd g ⟨pl,some (j,ref),leads,done⟩=LV at g0 hlv hlv2
  simp only [Wt,Zcc]
  have g00:=g0 done
  refine Za (fun _ _=>Tryz.call101 _ _) Tryz.func101 rfl Tryz.ntmps101 (Nat.le_of_ble_eq_true rfl) ?_;simp only [Zd,Nat.reduceAdd]
  repeat' (first|refine uN ?_|refine Z8 S ?_|refine Yq S ?_|(refine uB ?_;intro b)|(refine uP ?_ ?_<;>(intro h;((try simp only [zs,zq,reduceCtorEq] at h);try exact zx)))|refine da 101 ?_|fail)
  refine Z2 (σ:=Nat × (Value × List Zo)) (fun q=>[(0,pt wp 0),(1,iv s),(4,pt g.np 0),(20,iv q.1)])
   (fun q=>[(wp,.cells ⟨[wv,sl b i n cap,.map (some mb),lv,q.2.1]⟩ 110)]::q.2.2::[(g.np,.cells ⟨Xt (pt g.sp 0) g.bp LV (Qc s (V9 j) (done,ev) q.1).1⟩ 122)]::L)
   (fun q=>q.1≤6∧Vec 81 3 ec q.2.1 (Qc s (V9 j) (done,ev) q.1).2 q.2.2) (fun q=>6-q.1) (0,evv,evc) uS (List.Sublist.refl _) ⟨by simp,hv⟩ ?_
  rintro ⟨d,ev1,c1⟩ ⟨hd6,hv1⟩
  simp only at hd6 hv1 ⊢
  have hdl:=Zbj (s:=s) (ph:=V9 j) (q:=(done,ev)) d
  have hel:=Zdz (s:=s) (ph:=V9 j) (q:=(done,ev)) hl d
  have hsucc:=Zaj s (V9 j) (done,ev) d
  generalize hRR:Qc s (V9 j) (done,ev) d=R at *
  obtain ⟨dn,es1⟩:=R
  simp only at hdl hel hv1 ⊢
  by_cases hlt:d<6
  ·have ks : ∀ c1 c2 c3:List Zo,HC _ _ _ (c1::c2::c3::L) _:=fun c1 c2 c3=>Zaa g.sp g.bj g.mb g.bp s j d (c1::c2::c3::L) (Ze (Ze (Ze hsi))) (Ze (Ze (Ze hjn))) hjl hlt
   have g00:=g0 dn
   have hdn:dn[d]? = some (dn.getD d true):=getD_some (by omega)
   have gD:=ndL_done (sv:=pt g.sp 0) (bp:=g.bp) (lv:=LV) hlv hdn
   have gP:=ndL_putD (sv:=pt g.sp 0) (bp:=g.bp) (lv:=LV) (dn:=dn) (d:=d) true hlv (by omega)
   obtain ⟨a5,cap5,he5,-,-⟩:=hv1.rd Wi
   subst he5
   have hnx:Qc s (V9 j) (done,ev) (d+1)=Vy s (V9 j) (dn,es1) d:=hsucc
   by_cases hdone:dn.getD d true=true
   ·rw [hdone] at gD
    have e2:Vy s (V9 j) (dn,es1) d=(dn,es1):=by unfold Vy;rw [if_pos (.inl hdone)]
    rw [e2] at hnx
    repeat' (first|refine uN ?_|refine Z8 S ?_|refine Yq S ?_|refine uC (ks _ _ _) ?_|refine Yy (fun _=>ks _ _ _) ?_|refine Yz (fun _=>ks _ _ _) ?_|refine Y0 (fun _=>ks _ _ _) ?_|refine Y1 (fun _=>ks _ _ _) ?_|(refine uB ?_;intro b)|(refine uP ?_ ?_<;>(intro h;((try simp only [zs,zq,reduceCtorEq] at h);try exact zx)))|refine da 101 ?_|fail)
    refine Y3 (d+1,.slice a5 es1.length cap5,c1) uS ?_ ⟨by simp only;omega,?_⟩ (by simp only;omega)
    ·rw [hnx];exact LS.c (LS.refl _)
    ·rw [hnx];exact hv1
   ·have hdf:dn.getD d true=false:=by simpa using hdone
    rw [hdf] at gD
    by_cases hph:V9 j d≠2∧V9 j d≠3
    ·have e2:Vy s (V9 j) (dn,es1) d=(dn,es1):=by unfold Vy;rw [if_pos (.inr hph)]
     rw [e2] at hnx
     unfold V9 at hph
     repeat' (first|refine uN ?_|refine Z8 S ?_|refine Yq S ?_|refine uC (ks _ _ _) ?_|refine Yy (fun _=>ks _ _ _) ?_|refine Yz (fun _=>ks _ _ _) ?_|refine Y0 (fun _=>ks _ _ _) ?_|refine Y1 (fun _=>ks _ _ _) ?_|(refine uB ?_;intro b)|(refine uP ?_ ?_<;>(intro h;((try simp only [zs,zq,reduceCtorEq] at h);try exact zx)))|refine da 101 ?_|fail)
     all_goals refine Y3 (d+1,.slice a5 es1.length cap5,c1) uS ?_ ⟨by simp only;omega,?_⟩ (by simp only;omega)
     all_goals rw [hnx]
     all_goals first|exact hv1|exact LS.c (LS.refl _)
    ·have e2:Vy s (V9 j) (dn,es1) d=(dn.set d true,if es1.length<500 then es1++[⟨s,d,V9 j d⟩] else es1):=by unfold Vy;rw [if_neg (by simp only [hdf];intro h;rcases h with h|h;cases h;exact hph h)]
     rw [e2] at hnx
     have hph':=hph
     unfold V9 at hph'
     by_cases h500:es1.length<500
     ·rw [if_pos h500] at hnx
      repeat' (first|refine uN ?_|refine Z8 S ?_|refine Yq S ?_|refine uC (ks _ _ _) ?_|refine Yy (fun _=>ks _ _ _) ?_|refine Yz (fun _=>ks _ _ _) ?_|refine Y0 (fun _=>ks _ _ _) ?_|refine Y1 (fun _=>ks _ _ _) ?_|(refine uB ?_;intro b)|(refine uP ?_ ?_<;>(intro h;((try simp only [zs,zq,reduceCtorEq] at h);try exact zx)))|refine da 101 ?_|fail)
      all_goals refine fo 3 ?_
      all_goals refine wp1 S ⟨s,d,V9 j d⟩ hv1 Wi Zjr ?_
      all_goals intro v' c' hv'
      all_goals obtain ⟨a6,cap6,he6,-,-⟩:=hv'.rd Wi
      all_goals subst he6
      all_goals repeat' (first|refine uN ?_|refine Z8 S ?_|refine Yq S ?_|refine uC (ks _ _ _) ?_|refine Yy (fun _=>ks _ _ _) ?_|refine Yz (fun _=>ks _ _ _) ?_|refine Y0 (fun _=>ks _ _ _) ?_|refine Y1 (fun _=>ks _ _ _) ?_|(refine uB ?_;intro b)|(refine uP ?_ ?_<;>(intro h;((try simp only [zs,zq,reduceCtorEq] at h);try exact zx)))|refine da 101 ?_|fail)
      all_goals refine Y3 (d+1,.slice a6 (es1++[⟨s,d,V9 j d⟩]:List Evt).length cap6,c') uS ?_ ⟨by simp only;omega,?_⟩ (by simp only;omega)
      all_goals rw [hnx]
      all_goals first|exact hv'|exact uL
     ·rw [if_neg h500] at hnx
      repeat' (first|refine uN ?_|refine Z8 S ?_|refine Yq S ?_|refine uC (ks _ _ _) ?_|refine Yy (fun _=>ks _ _ _) ?_|refine Yz (fun _=>ks _ _ _) ?_|refine Y0 (fun _=>ks _ _ _) ?_|refine Y1 (fun _=>ks _ _ _) ?_|(refine uB ?_;intro b)|(refine uP ?_ ?_<;>(intro h;((try simp only [zs,zq,reduceCtorEq] at h);try exact zx)))|refine da 101 ?_|fail)
      all_goals refine Y3 (d+1,.slice a5 es1.length cap5,c1) uS ?_ ⟨by simp only;omega,?_⟩ (by simp only;omega)
      all_goals rw [hnx]
      all_goals first|exact hv1|exact LS.c (LS.refl _)
  ·obtain rfl:d=6:=by omega
   have hR6:Qc s (V9 j) (done,ev) 6=(dn,es1):=hRR
   rw [hR6]
   repeat' (first|refine uN ?_|refine Z8 S ?_|refine Yq S ?_|(refine uB ?_;intro b)|(refine uP ?_ ?_<;>(intro h;((try simp only [zs,zq,reduceCtorEq] at h);try exact zx)))|refine da 101 ?_|fail)
   exact ee0 rfl ⟨_,_,hv1,rfl,by rw [hlv2 dn]⟩
end Go.HL
end

/-! WoF -/
section
namespace Go.HL
open Go Go.Proofs
def noLeads:List (Option Ld):=List.replicate 6 none
def nil6:List Value:=List.replicate 6 (.pointer none)
theorem Zj9 : ∀ (ld:List (Nat × Value × List Zo)),ld.length=6→List.zipWith Zlk noLeads ld=nil6
 | [_,_,_,_,_,_],_=>rfl
theorem Zii {sv sv':Value} {bp:Nat} {lv:List Value} {dn:List Bool}:Zq (Xt sv bp lv dn) (0+0) [sv'] (Xt sv' bp lv dn):=by
 have:Xt sv' bp lv dn=(Xt sv bp lv dn).set (0+0) sv':=rfl
 rw [this]
 exact Wk (by simp [Xt])
theorem ndL_putL {sv:Value} {bp:Nat} {lv lv':List Value} {dn:List Bool} (h:lv'.length=lv.length):Zq (Xt sv bp lv dn) (0+2) lv' (Xt sv bp lv' dn):=by
 have key:=Zd8 (l:=Xt sv bp lv dn) (i:=0+2) (vs:=lv') (by rw [Xt,h];simp;omega)
 have e:(Xt sv bp lv dn).take (0+2)++lv'++(Xt sv bp lv dn).drop (0+2+lv'.length)=Xt sv bp lv' dn:=by
  rw [h]
  have e1:(Xt sv bp lv dn).drop (0+2+lv.length)=dn.map Value.bool:=by
   rw [Xt]
   have:0+2+lv.length=([sv,pt bp 0]++lv).length:=by simp;omega
   rw [this,List.drop_left]
  rw [e1]
  simp [Xt]
 rw [e] at key
 exact key
theorem Qb {sv:Value} {bp:Nat} {lv:List Value} {dn:List Bool} {d:Nat} {v:Value} (h:lv[d]? = some v):(Xt sv bp lv dn)[0+2+(d:Int).toNat*1]? = some v:=by
 have hlt:d<lv.length:=(List.getElem?_eq_some_iff.1 h).1
 rw [Xt,List.append_assoc,List.getElem?_append_right (by simp<;>omega),List.getElem?_append_left (by simp<;>omega)]
 rw [show 0+2+(d:Int).toNat*1-[sv,pt bp 0].length=d by simp<;>omega]
 exact h
theorem Zij {sv:Value} {bp:Nat} {lv:List Value} {dn:List Bool} {d:Nat} (v:Value) (h:d<lv.length):Zq (Xt sv bp lv dn) (0+2+(d:Int).toNat*1) [v] (Xt sv bp (lv.set d v) dn):=by
 have e:Xt sv bp (lv.set d v) dn=(Xt sv bp lv dn).set (0+2+(d:Int).toNat*1) v:=by
  rw [Xt,Xt,List.append_assoc,List.append_assoc,List.set_append_right _ _ (by simp<;>omega),List.set_append_left _ _ (by simp<;>omega)]
  rw [show 0+2+(d:Int).toNat*1-[sv,pt bp 0].length=d by simp<;>omega]
 rw [e]
 refine Wk ?_
 simp [Xt]
 omega
set_option maxHeartbeats 2000000 attribute [local irreducible] HW HO HQ HD HC QOp Has Upd Zq Gets Yj Ya Zv Wf Yg Zp Wq Z5
attribute [local irreducible] Xt Zw Yf Zy
theorem Zcg (g:NdG) (m:Nd) (L:Zb) (hl:(Yd g m).length=6) (hd:g.ld.length=6):HC Tryz.prog 99 [pt g.np 0] (U0 g m::L) (fun v L'=>v = .tuple ⟨[]⟩∧L'=U0 g { m with site:=none,leads:=noLeads }::L):=by
 have e:Yd g { m with site:=none,leads:=noLeads }=nil6:=Zj9 _ hd
 simp only [U0,Uw,e,Zcc]
 have p0:=Zii (sv:=Zcc g m.site) (sv' := .pointer none) (bp:=g.bp) (lv:=Yd g m) (dn:=m.done)
 have p1:=ndL_putL (sv := .pointer none) (bp:=g.bp) (lv:=Yd g m) (lv':=nil6) (dn:=m.done) (by rw [hl];rfl)
 refine Za (fun _ _=>Tryz.call99 _ _) Tryz.func99 rfl Tryz.ntmps99 (Nat.le_of_ble_eq_true rfl) ?_;simp only [Zd,Nat.reduceAdd]
 repeat' (first|refine uN ?_)
 exact ee0 rfl ⟨rfl,rfl⟩
def W5 (s:Int) (m:Nd) (ev:List Evt) (f:Fr):Nd × List Evt × List Fr × Bool:=match m.site with
 | none=>(m,ev,[],false)
 | some (j,ref)=>if (Zy s ref m.pl j f).1.off then (⟨(Zy s ref m.pl j f).1,none,noLeads,m.done⟩,ev,[],false)
  else (⟨(Zy s ref m.pl j f).1,some ((Zy s ref m.pl j f).2.1,ref),m.leads,(Wt s ⟨(Zy s ref m.pl j f).1,some ((Zy s ref m.pl j f).2.1,ref),m.leads,m.done⟩ ev).1⟩,
   (Wt s ⟨(Zy s ref m.pl j f).1,some ((Zy s ref m.pl j f).2.1,ref),m.leads,m.done⟩ ev).2,(Zy s ref m.pl j f).2.2.1,(Zy s ref m.pl j f).2.2.2.isNone)
theorem NpIn.cons {L:Zb} {nv:Value} {n:Nat} {s:Int} {np:Nat} (h:NpIn L nv n s np) (c:List Zo):NpIn (c::L) nv n s np:=by
 obtain ⟨⟨b,i,l,F,fr,cap,h1,h2,h3⟩,h4,h5⟩:=h
 exact ⟨⟨b,i,l,F,fr,cap,h1,Ze h2,h3⟩,h4,h5⟩
def HearQ (G:WdG) (s:Int) (g:NdG) (m:Nd) (ref:Int→Bool) (ev:List Evt) (r:Pl × Jn × List Fr × Option Nat) (L:Zb) (v:Value) (L':Zb):Prop:=
 if r.1.off then v = .tuple ⟨[Vr,.bool false]⟩∧L'=[(G.wp,V1 G)]::G.ec::U0 g ⟨r.1,none,noLeads,m.done⟩::Yf g.bp g.ba r.1::L
 else ∃ fv c evv c2,Y9 fv r.2.2.1 c∧Vec 81 3 ec evv (Wt s ⟨r.1,some (r.2.1,ref),m.leads,m.done⟩ ev).2 c2∧v = .tuple ⟨[fv,.bool r.2.2.2.isNone]⟩ ∧
  L'=[(G.wp,V1 { G with ev:=evv,ec:=c2 })]::c2::U0 g ⟨r.1,some (r.2.1,ref),m.leads,(Wt s ⟨r.1,some (r.2.1,ref),m.leads,m.done⟩ ev).1⟩::Zcp g.sp g.bj g.mb s::Zcv g.mb g.es g.ck::Yf g.bp g.ba r.1::jC g.bj g.bp r.2.1::c::L
theorem Zja (T:Nat) (E:Nat→Addr) (G:WdG) (s:Int) (g:NdG) (m:Nd) (f:Fr) (ev:List Evt) (n:Nat) (j:Jn) (ref:Int→Bool) (L:Zb) (hG:Er T E [2,3,5,6] L) (hp:NpIn L G.nv n s g.np) (hv:Vec 81 3 ec G.ev ev G.ec) (hl:ev.length≤500)
  (hN:NdOk g m) (w:List Int) (sn:Nat) (hI:NdI w sn m) (hs:m.site=some (j,ref)) (hj':(Zy s ref m.pl j f).2.1.l.length=6):HC Tryz.prog 75 [pt G.wp 0,iv s,.agg ⟨fc f⟩] ([(G.wp,V1 G)]::G.ec::U0 g m::Zcp g.sp g.bj g.mb s::Zcv g.mb g.es g.ck::Yf g.bp g.ba m.pl::jC g.bj g.bp j::L)
  (HearQ G s g m ref ev (Zy s ref m.pl j f) L):=by
 have hF:=hN.map j ref hs
 have hj:=(hI.jn hs).ji.jn
 have kh:=fun L hG=>Zix T E g.sp g.bj g.mb g.bp g.ba s g.es g.ck ref m.pl j f L hG hF hI.pl hj
 generalize Zy s ref m.pl j f=r at kh hj' ⊢
 obtain ⟨pl',j',fs,er⟩:=r
 simp only at kh hj' ⊢
 have hlvs : ∀ x,(Yd g ⟨pl',x,m.leads,m.done⟩).length=6:=fun x=>by simp [Yd,hI.leads,hN.ld]
 have hlvs0:(Yd g m).length=6:=by simp [Yd,hI.leads,hN.ld]
 have hpw:=Zca g.bp g.ba pl'
 have kf:=fun L=>Zcg g m L hlvs0 hN.ld
 unfold HearQ
 obtain ⟨pl,site,leads,done⟩:=m
 simp only at hs kh kf hlvs ⊢
 subst hs
 obtain ⟨wp,wv,wc,nv,nc,mb,es,ck,lv,lc,evv,evc,nd⟩:=G
 simp only at hv hp ⊢
 have hp0:=hp
 obtain ⟨⟨nb,i,l,F,fr,cap,rfl,hb,hg⟩,h0,h1⟩:=hp
 have g0:(Xt (pt g.sp 0) g.bp (Yd g ⟨pl,some (j,ref),leads,done⟩) done)[0+0]? = some (pt g.sp 0):=Xg rfl
 have g1:(Xt (pt g.sp 0) g.bp (Yd g ⟨pl,some (j,ref),leads,done⟩) done)[0+1]? = some (pt g.bp 0):=Xg rfl
 simp only [V1,U0,Uw,Zcc] at kf ⊢
 cases hoff:pl'.off with
 | true =>
  simp only [if_true]
  rw [hoff] at hpw
  refine Za (fun _ _=>Tryz.call75 _ _) Tryz.func75 rfl Tryz.ntmps75 (Nat.le_of_ble_eq_true rfl) ?_;simp only [Zd,Nat.reduceAdd]
  repeat' (first|refine uN ?_|refine X5 S ?_|(refine uB ?_;intro b)|(refine uP ?_ ?_<;>(intro h;((try simp only [zs,zq,reduceCtorEq] at h);try exact zx)))|refine da 101 ?_|fail)
  refine fo 7 ?_
  refine fo 7 ?_
  refine fo 7 ?_
  refine fo 7 ?_
  refine gc (kh _ ?_) ?_
  ·exact ((((hG.cons _).cons _).cons _).cons _)
  rintro v L' ⟨fv,c,rfl,hfv,rfl⟩
  repeat' (first|refine uN ?_|refine X5 S ?_|refine Vc (qC (Vf (hpw) 2)) ?_|refine Yy (fun _=>Vf (hpw) 2) ?_|refine Yz (fun _=>Vf (hpw) 2) ?_|refine Y0 (fun _=>Vf (hpw) 2) ?_|refine Y1 (fun _=>Vf (hpw) 2) ?_|(refine uB ?_;intro b)|(refine uP ?_ ?_<;>(intro h;((try simp only [zs,zq,reduceCtorEq] at h);try exact zx)))|refine da 101 ?_|fail)
  refine fo 8 ?_
  refine gc (kf _) ?_
  rintro v L' ⟨rfl,rfl⟩
  repeat' (first|refine uN ?_|refine X5 S ?_|(refine uB ?_;intro b)|(refine uP ?_ ?_<;>(intro h;((try simp only [zs,zq,reduceCtorEq] at h);try exact zx)))|refine da 101 ?_|fail)
  exact Q9 (L':=[(wp,.cells ⟨[wv,sl nb i n cap,.map (some mb),lv,evv]⟩ 110)]::evc::U0 g ⟨pl',none,noLeads,done⟩::Yf g.bp g.ba pl'::L) (by simp only [U0,Uw];exact uL) ⟨rfl,rfl⟩
 | false =>
  simp only [Bool.false_eq_true,if_false]
  rw [hoff] at hpw
  have hkn:=fun (M1:Nd) (hM:M1=⟨pl',some (j',ref),leads,done⟩) (G1:WdG) (hG1:G1=⟨wp,wv,wc,sl nb i n cap,nc,mb,es,ck,lv,lc,evv,evc,nd⟩) L (hq:NpIn L (sl nb i n cap) n s g.np) (hsi:SiIn L g s j')=>Zch G1 s g M1 ev n L (by subst hG1;exact hv) hl (by subst hG1;exact hq) (by subst hM;exact hI.done) (by subst hM;exact hlvs _) (by subst hM;intro j2 r2 h2;cases h2;exact ⟨hsi,hj'⟩)
  have hkn:=fun L hq hsi=>hkn _ rfl _ rfl L hq hsi
  simp only [V1,U0,Uw,Zcc] at hkn
  refine Za (fun _ _=>Tryz.call75 _ _) Tryz.func75 rfl Tryz.ntmps75 (Nat.le_of_ble_eq_true rfl) ?_;simp only [Zd,Nat.reduceAdd]
  repeat' (first|refine uN ?_|refine X5 S ?_|(refine uB ?_;intro b)|(refine uP ?_ ?_<;>(intro h;((try simp only [zs,zq,reduceCtorEq] at h);try exact zx)))|refine da 101 ?_|fail)
  refine fo 7 ?_
  refine fo 7 ?_
  refine fo 7 ?_
  refine fo 7 ?_
  refine gc (kh _ ?_) ?_
  ·exact ((((hG.cons _).cons _).cons _).cons _)
  rintro v L' ⟨fv,c,rfl,hfv,rfl⟩
  repeat' (first|refine uN ?_|refine X5 S ?_|refine Vc (qC (Vf (hpw) 2)) ?_|refine Yy (fun _=>Vf (hpw) 2) ?_|refine Yz (fun _=>Vf (hpw) 2) ?_|refine Y0 (fun _=>Vf (hpw) 2) ?_|refine Y1 (fun _=>Vf (hpw) 2) ?_|(refine uB ?_;intro b)|(refine uP ?_ ?_<;>(intro h;((try simp only [zs,zq,reduceCtorEq] at h);try exact zx)))|refine da 101 ?_|fail)
  refine fo 8 ?_
  refine fo 8 ?_
  refine fo 8 ?_
  refine gc (hkn _ ?_ ?_) ?_
  ·exact (((((((⟨⟨nb,i,l,F,fr,cap,rfl,hb,hg⟩,h0,h1⟩:NpIn L (sl nb i n cap) n s g.np).cons _).cons _).cons _).cons _).cons _).cons _)
  ·exact ⟨Zj,Ze (Ze (Ze Zj))⟩
  rintro v L' ⟨evv',c2,hv2,rfl,rfl⟩
  obtain ⟨af,capf,rfl,-,-⟩:=hfv.rd Zl
  cases er with
  | none =>
   repeat' (first|refine uN ?_|refine X5 S ?_|(refine uB ?_;intro b)|(refine uP ?_ ?_<;>(intro h;((try simp only [zs,zq,reduceCtorEq] at h);try exact zx)))|refine da 101 ?_|fail)
   exact Q9 uL ⟨_,_,_,_,hfv,hv2,rfl,rfl⟩
  | some x =>
   repeat' (first|refine uN ?_|refine X5 S ?_|(refine uB ?_;intro b)|(refine uP ?_ ?_<;>(intro h;((try simp only [zs,zq,reduceCtorEq] at h);try exact zx)))|refine da 101 ?_|fail)
   exact Q9 uL ⟨_,_,_,_,hfv,hv2,rfl,rfl⟩
end Go.HL
end

/-! PlR -/
section
namespace Go.HL
open Go Go.Proofs
set_option maxHeartbeats 2000000 attribute [local irreducible] HW HO HQ HD HC QOp Has Upd Zq Gets Yj Ya Zv Wf Yg Zp Wq Z5
end Go.HL
end

/-! ErD1 -/
section
namespace Go.HL
open Go Go.Proofs
set_option maxHeartbeats 2000000 attribute [local irreducible] HW HO HQ HD HC QOp Has Upd Zq Gets Yj Ya Zv Wf Yg Zp Wq Z5
end Go.HL
end

/-! PlC -/
section
namespace Go.HL
open Go Go.Proofs
theorem hcHas2 {P:Program} {F:Nat} {args:List Value} {b c:Nat} {o q:Obj} {V:Value} (h : ∀ L,HC P F args ([(b,o),(c,q)]::L) (fun v L'=>v=V∧L'=[(b,o),(c,q)]::L)) (hne:(c,q)≠(b,o)) {L:Zb} (hb:Has L b o) (hc:Has L c q):HC P F args L (fun v L'=>v=V∧L'=L):=by
 obtain ⟨l1,l2,e⟩:=List.append_of_mem hb
 have hm:(c,q)∈l1++l2:=by
  have:(c,q)∈l1++(b,o)::l2:=e▸hc
  simp only [List.mem_append,List.mem_cons] at this ⊢
  rcases this with h|h|h
  ·exact .inl h
  ·exact absurd h hne
  ·exact .inr h
 obtain ⟨m1,m2,e2⟩:=List.append_of_mem hm
 have hp:List.Perm L.flatten ([(b,o),(c,q)]::[m1++m2]).flatten:=by
  rw [e]
  simp only [List.flatten_cons,List.flatten_nil,List.append_nil,List.cons_append,List.nil_append]
  refine List.perm_middle.trans (.cons _ ?_)
  rw [e2]
  exact List.perm_middle
 exact ⟨(h []).1,fun k w hs=>((h [m1++m2]).2 k w (hs.sp (LS.of_perm hp.symm))).mono fun e w' ⟨v,L',he,hs',hv,hL⟩=>⟨v,L,he,(hL▸hs').sp (LS.of_perm hp),hv,rfl⟩⟩
def plB (bp ba:Nat) (m:Pl):Zo:=(bp,.cells ⟨[sl ba 0 m.b.length m.b.length,.bool m.off,iv m.cut]⟩ 181)
def plD (ba:Nat) (m:Pl):Zo:=(ba,.cells ⟨m.b.map u8⟩ 5)
theorem Zmj (bp ba:Nat) (m:Pl) (L:Zb) (h : ∀ p∈[plB bp ba m,plD ba m],Has L p.1 p.2):HC Tryz.prog 123 [pt bp 0] L (fun v L'=>v=bs m.b∧L'=L):=
 hcHas2 (Zby bp ba m) (by simp) (h (plB bp ba m) (by simp)) (h (plD ba m) (by simp))
section dt
variable {P:Program} (S:Tab P) {n:Nat} {ops:List Oper} {Q:Exit→Zn→Zb→Prop} {Ss:List (Nat × Zo)} {rem rem':List (Nat × Oper)} {ρ:Zn} {L:Zb} {ty:TypeId} {pos:String} {af:Array Edge} {g:Option (Nat × Bool)} {d i:Nat}
end dt
set_option maxHeartbeats 2000000 attribute [local irreducible] HW HO HQ HD HC QOp Has Upd Zq Gets Yj Ya Zv Wf Yg Zp Wq Z5
attribute [local irreducible] Yf Zx plB plD
end Go.HL
end

/-! WoG -/
section
namespace Go.HL
open Go Go.Proofs
def Zke (m:Pl) (d:Int):St:=((Zt m.b).getD d.toNat Zk).s
def Za9 (M:Wm) (s d:Int):Option Nat:=match Xu M s with
 | some e=>some e
 | none=>if d<0∨6≤d then some 2 else none
def Zhk (M:Wm) (s d:Int):St:=match Za9 M s d with
 | some _=>Wu
 | none=>Zke (Zf M s).pl d
theorem Zfw (b:List UInt8):(Zt b).length=6:=by simp [Zt]
theorem WdIn.cons {L:Zb} {G:WdG} {M:Wm} (h:WdIn L G M) (c:List Zo):WdIn (c::L) G M:=by
 obtain ⟨h1,⟨a2,c2,e2,r2⟩,⟨a3,c3,e3,r3⟩,⟨a4,c4,e4,r4⟩,h5⟩:=h
 exact ⟨Ze h1,⟨a2,c2,e2,r2.cons c⟩,⟨a3,c3,e3,r3.cons c⟩,⟨a4,c4,e4,r4.cons c⟩,h5⟩
set_option maxHeartbeats 2000000 attribute [local irreducible] HW HO HQ HD HC QOp Has Upd Zq Gets Yj Ya Zv Wf Yg Zp Wq Z5
attribute [local irreducible] Xt Zw Yf Zt
theorem Zhl (T:Nat) (E:Nat→Addr) (G:WdG) (M:Wm) (s d:Int) (L:Zb) (hG:Er T E [2,6] L) (hI:WdIn L G M) (hl:G.nd.length=M.n.length) (hN:Xu M s=none→Has L (Zg G s).np (Uw (Zg G s) (Zf M s)))
  (hP:Xu M s=none→216≤(Zf M s).pl.b.length∧(Zf M s).pl.b.length≤512 ∧ ∀ p∈[plB (Zg G s).bp (Zg G s).ba (Zf M s).pl,plD (Zg G s).ba (Zf M s).pl],Has L p.1 p.2) :
  HC Tryz.prog 68 [pt G.wp 0,iv s,iv d] L (fun v L'=>v = .tuple ⟨[.agg ⟨sc (Zhk M s d)⟩,eV T E (Za9 M s d)]⟩∧L'=L):=by
 have kn:=fun L hG hI=>We T E G M s L hG hI hl
 unfold Zhk Za9
 rcases Wy (M:=M) s with he|⟨he,h0,h1⟩
 ·simp only [he] at kn ⊢
  refine Za (fun _ _=>Tryz.call68 _ _) Tryz.func68 rfl Tryz.ntmps68 (Nat.le_of_ble_eq_true rfl) ?_;simp only [Zd,Nat.reduceAdd]
  repeat' (first|refine uN ?_|refine Vc (qC (kn _ (hG.sub.cons _) (hI.cons _))) ?_|(refine uB ?_;intro b)|(refine uP ?_ ?_<;>(intro h;((try simp only [zs,zq,reduceCtorEq] at h);try exact zx)))|fail)
  exact Q9 (LS.c (LS.refl _)) ⟨rfl,rfl⟩ (hx:=Vo S (hg:=Zc rfl (Zc rfl (Zc rfl Zu))))
 ·have hN':=hN he
  obtain ⟨hp1,hp2,hp3⟩:=hP he
  simp only [he] at kn ⊢
  generalize Zf M s=m at hN' hp1 hp2 hp3 ⊢
  generalize hg:Zg G s=g at hN' hp3 kn
  have hbh : ∀ c:List Zo,∀ p∈[plB g.bp g.ba m.pl,plD g.ba m.pl],Has (c::L) p.1 p.2:=fun c p hp=>Ze (hp3 p hp)
  unfold Uw at hN'
  have g1:(Xt (Zcc g m.site) g.bp (Yd g m) m.done)[0+1]? = some (pt g.bp 0):=Xg rfl
  refine Za (fun _ _=>Tryz.call68 _ _) Tryz.func68 rfl Tryz.ntmps68 (Nat.le_of_ble_eq_true rfl) ?_;simp only [Zd,Nat.reduceAdd]
  repeat' (first|refine uN ?_|refine Vc (qC (kn _ (hG.sub.cons _) (hI.cons _))) ?_|refine Vc (qC (Zmj g.bp g.ba m.pl _ (hbh _))) ?_|(refine uB ?_;intro b)|(refine uP ?_ ?_<;>(intro h;((try simp only [zs,zq,reduceCtorEq] at h);try exact zx)))|fail)
  refine gc (Zjt T E m.pl.b _ (hG.sub.cons _) (by omega)) ?_
  simp only [if_pos hp2]
  rintro v L' ⟨bp,ba,rfl,rfl⟩
  repeat' (first|refine uN ?_|refine Vc (qC (kn _ (hG.sub.cons _) (hI.cons _))) ?_|(refine uB ?_;intro b)|(refine uP ?_ ?_<;>(intro h;((try simp only [zs,zq,reduceCtorEq] at h);try exact zx)))|fail)
  refine gc (Zd3 T E bp ba _ _ (hG.cons _) (by simp only;omega)) ?_
  have hnl : ¬ (m.pl.b.length<216):=by omega
  simp only [if_neg hnl,Bool.false_eq_true,if_false]
  rintro v L' ⟨bj,rfl,rfl⟩
  repeat' (first|refine uN ?_|refine Vc (qC (kn _ (hG.sub.cons _) (hI.cons _))) ?_|(refine uB ?_;intro b)|(refine uP ?_ ?_<;>(intro h;((try simp only [zs,zq,reduceCtorEq] at h);try exact zx)))|fail)
  refine gc (Zfj T E bj bp _ d _ ((hG.sub.cons _).cons _) (Zfw _)) ?_
  by_cases hd:d<0∨6≤d
  ·simp only [if_pos hd]
   rintro v L' ⟨rfl,rfl⟩
   repeat' (first|refine uN ?_|refine Vc (qC (kn _ (hG.sub.cons _) (hI.cons _))) ?_|(refine uB ?_;intro b)|(refine uP ?_ ?_<;>(intro h;((try simp only [zs,zq,reduceCtorEq] at h);try exact zx)))|fail)
   exact Q9 (LS.c (LS.c (LS.c (LS.refl _)))) ⟨rfl,rfl⟩ (hx:=Vo S (hg:=Zc rfl (Zc rfl (Zc rfl Zu))))
  ·simp only [if_neg hd]
   rintro v L' ⟨rfl,rfl⟩
   repeat' (first|refine uN ?_|refine Vc (qC (kn _ (hG.sub.cons _) (hI.cons _))) ?_|(refine uB ?_;intro b)|(refine uP ?_ ?_<;>(intro h;((try simp only [zs,zq,reduceCtorEq] at h);try exact zx)))|fail)
   exact Q9 (LS.c (LS.c (LS.c (LS.refl _)))) ⟨rfl,rfl⟩ (hx:=Vo S (hg:=Zc rfl (Zc rfl (Zc rfl Zu))))
end Go.HL
end

/-! WoM -/
section
namespace Go.HL
open Go Go.Proofs
def Yp (M:Wm) (s:Int) (m:Nd):Wm:={ M with n:=M.n.set s.toNat m }
def X7 (d:Int) (m:Nd):Bool:=decide (Zke m.pl d≠Wu) || (m.leads.getD d.toNat none).isSome
def Xp (M:Wm) (s d:Int):Wm × Option Nat:=
 if d<0∨6≤d∨s<0∨M.n.length≤s then (M,some 2) else
 match Zcf M s with
 | some e=>(M,some e)
 | none=>if M.n.any (X7 d) then (M,some 8) else
  ({ Yp M s { Zf M s with leads:=(Zf M s).leads.set d.toNat (some (Zh s d M.w 0 2)) } with l:=M.l++Xd (Zh s d M.w 0 2) },none)
def Zaz (m:Nd) (d:Int):Nd:=match m.site with
 | none=>m
 | some (j,ref)=>{ m with site:=some (j,fun x=>if x=d then true else ref x) }
def V0 (M:Wm) (s d:Int):Wm × Option Nat:=
 if d<0∨6≤d then (M,some 2) else
 match Zcf M s with
 | some e=>(M,some e)
 | none=>(Yp M s (Zaz (Zf M s) d),none)
def Xe (M:Wm) (s:Int) (f:Fr):Wm × List Fr × Bool:=
 ({ Yp M s (W5 s (Zf M s) M.ev f).1 with ev:=(W5 s (Zf M s) M.ev f).2.1 },(W5 s (Zf M s) M.ev f).2.2)
def Z0 (m:Ld) (l:List Fr):Ld × List Fr:=l.foldl (fun q f=>((Z7 q.1 f).1,q.2++(Z7 q.1 f).2)) (m,[])
def Xh (m:Nd) (d promise:Int):Int:=match m.leads.getD d.toNat none with
 | none=>promise
 | some x=>max promise x.seen
def Zhf (k s a:Int):Int:=a+(s-a) % k
def Za4 (s d a:Int):Fr:=⟨s,s,d,3,a,false,Wu⟩
def Zcq (M:Wm) (s d promise:Int):Wm × Bool:=
 let a:=Zhf M.w.length s (Xh (Zf M s) d promise+1)
 if 1048576<a then (M,true) else
 let r:=Xe M s (Za4 s d a)
 if r.2.2=false then (r.1,false) else
 let q:=Z0 (Zh s d M.w a 4) r.2.1
 ({ Yp r.1 s { Zf r.1 s with leads:=(Zf r.1 s).leads.set d.toNat (some q.1) } with l:=r.1.l++Xd (Zh s d M.w a 4)++q.2 },true)
def Vt (M:Wm) (s:Int) (d:Int) (st:St):List Fr:=(List.range M.w.length).map fun (i:Nat)=>(⟨s,(i:Int),d,7,st.pr,false,⟨st.ph,0,0⟩⟩:Fr)
def Zce (s:Int) (q:Wm × Bool) (d:Nat):Wm × Bool:=
 if q.2=false then q else
 match (Zf q.1 s).site with
 | none=>(q.1,false)
 | some (j,_) =>
  if Y2 j d=Wu then q else
  if (Y2 j d).ph=2∨(Y2 j d).ph=3 then ({ q.1 with l:=q.1.l++Vt q.1 s d (Y2 j d) },true) else
  Zcq q.1 s d (Y2 j d).pr
def Za3 (M:Wm) (s:Int):Wm × Option Nat:=match Zcf M s with
 | some e=>(M,some e)
 | none=>(((List.range 6).foldl (Zce s) (M,true)).1,none)
def Zln (f:Fr):Int × Int:=(min f.fr f.to,max f.fr f.to)
def Wh (M:Wm) (k:Int):Wm × Option Nat:=match Znx M k with
 | some e=>(M,some e)
 | none =>
  let f:=M.l.getD k.toNat Wp
  let M1:Wm:={ M with l:=M.l.eraseIdx k.toNat }
  if (Zf M1 f.to).site.isNone∨M.br (Zln f)=true then (M1,none) else
  if f.kd=2∨f.kd=4∨f.kd=6 then
   match (Zf M1 f.to).leads.getD f.dl.toNat none with
   | none=>(M1,none)
   | some x=>({ Yp M1 f.to { Zf M1 f.to with leads:=(Zf M1 f.to).leads.set f.dl.toNat (some (Z7 x f).1) } with l:=M1.l++(Z7 x f).2 },none)
  else ({ (Xe M1 f.to f).1 with l:=M1.l++(Xe M1 f.to f).2.1 },none)
def Zb1 (M:Wm) (k:Int):Wm × Option Nat:=match Znx M k with
 | some e=>(M,some e)
 | none=>({ M with l:=M.l.eraseIdx k.toNat },none)
def Qk (M:Wm) (k:Int):Wm × Option Nat:=match Znx M k with
 | some e=>(M,some e)
 | none=>({ M with l:=M.l.take (k+1).toNat++M.l.getD k.toNat Wp::M.l.drop (k+1).toNat },none)
def Zb8 (M:Wm) (a b:Int) (whole:Bool):Wm × Option Nat:=
 if a<0∨M.n.length≤a∨b<0∨M.n.length≤b then (M,some 2) else
 ({ M with br:=fun x=>if x=(min a b,max a b) then (!whole && decide (a≠b)) else M.br x },none)
def Zhv (M:Wm) (s n:Int):Wm × Option Nat:=
 if n<0 then (M,some 2) else
 match Zcf M s with
 | some e=>(M,some e)
 | none=>(Yp M s { Zf M s with pl:={ (Zf M s).pl with cut:=n } },none)
def Zk4 (m:Nd):Nd:=⟨{ m.pl with off:=true },none,noLeads,m.done⟩
def Zb0 (M:Wm) (s:Int):Wm × Option Nat:=match Zcf M s with
 | some e=>(M,some e)
 | none=>(Yp M s (Zk4 (Zf M s)),none)
def U4 (m:Nd):Nd:=⟨{ m.pl with off:=false,cut := -1 },some (⟨Zt m.pl.b,false⟩,fun _=>false),m.leads,m.done⟩
def upW (M:Wm) (s:Int):Wm × Option Nat:=match Xu M s with
 | some e=>(M,some e)
 | none=>if (Zf M s).site.isSome then (M,some 8) else
  ({ Yp M s { U4 (Zf M s) with done:=(Wt s (U4 (Zf M s)) M.ev).1 } with ev:=(Wt s (U4 (Zf M s)) M.ev).2 },none)
def Zid (M:Wm) (s d:Int):List UInt8 × Option Nat:=
 if s<0∨M.n.length≤s∨d<0∨6≤d then ([],some 2) else
 match (Zf M s).leads.getD d.toNat none with
 | none=>([110,111,110,101],none)
 | some x=>(x.state,none)
def newNd:Nd:=⟨⟨Zx 512,false,-1⟩,some (⟨Zt (Zx 512),false⟩,fun _=>false),noLeads,List.replicate 6 false⟩
def Ys (w:List Int):Wm:=⟨w,List.replicate w.length newNd,fun _=>false,[],[]⟩
end Go.HL
end

/-! WoN -/
section
namespace Go.HL
open Go Go.Proofs
def Zf2 (g:NdG) (i:Int):Option (Jn × (Int→Bool))→List Zo
 | none=>[]
 | some _=>Zcp g.sp g.bj g.mb i
def Zf1 (g:NdG):Option (Jn × (Int→Bool))→List Zo
 | none=>[]
 | some _=>Zcv g.mb g.es g.ck
def Zf0 (g:NdG):Option (Jn × (Int→Bool))→List Zo
 | none=>[]
 | some (j,_)=>jC g.bj g.bp j
theorem siB_cut (g:NdG) (i:Int) (s:Option (Jn × (Int→Bool))):siB g i s=Zf2 g i s++(Zf1 g s++Zf0 g s):=by
 rcases s with _|⟨j,r⟩
 ·rfl
 ·simp [siB,Zf2,Zf1,Zf0]
def Y8 (G:WdG) (s:Int) (g:NdG) (m:Nd) (X:List Zo) (L:Zb):Zb:=
 [(G.wp,V1 G)]::G.ec::U0 g m::Zf2 g s m.site::Zf1 g m.site::Yf g.bp g.ba m.pl::Zf0 g m.site::Un g m::G.lc::G.wc::G.nc::[(G.mb,.map ⟨G.es⟩ G.ck)]::X::L
theorem Zi6 (G:WdG) (s:Int) (g:NdG) (m:Nd) (X:List Zo) (L:Zb):(Zan G++[Ze0 g s m++X]++L).flatten=([(G.wp,V1 G)]::G.wc::G.nc::[(G.mb,.map ⟨G.es⟩ G.ck)]::G.lc::G.ec::U0 g m::Yf g.bp g.ba m.pl::Zf2 g s m.site::Zf1 g m.site::Zf0 g m.site::Un g m::X::L).flatten:=by
 simp only [Zan,Ze0,siB_cut,List.flatten_cons,List.flatten_append,List.cons_append,List.nil_append,List.append_assoc,List.flatten_nil,List.append_nil]
theorem wdOp_ls (G:WdG) (s:Int) (g:NdG) (m:Nd) (X:List Zo) (L:Zb):LS (Y8 G s g m X L).flatten (Zan G++[Ze0 g s m++X]++L).flatten:=by
 rw [Zi6,Y8]
 exact uL
theorem Zl9 (G:WdG) (s:Int) (g:NdG) (m:Nd) (X:List Zo) (L:Zb):LS (Zan G++[Ze0 g s m++X]++L).flatten (Y8 G s g m X L).flatten:=by
 rw [Zi6,Y8]
 exact uL
theorem Qj {s:Int} (h:0≤s):((0+s.toNat:Nat):Int)=s:=by omega
theorem Zik {gs:List NdG} {ms:List Nd} {s:Int} {g:NdG} {m:Nd} (h0:0≤s) (hg:gs[s.toNat]? = some g) (hm:ms[s.toNat]? = some m) (T:Zb) (L:Zb):List.Perm (T++[Wx gs ms 0]++L).flatten (T++[Ze0 g s m++Xs gs ms 0 s.toNat]++L).flatten:=by
 have:=Zdw (i:=0) hg hm
 rw [Qj h0] at this
 simp only [List.flatten_append,List.flatten_cons,List.flatten_nil,List.append_nil]
 exact (this.append_left _).append_right _
theorem Zc0 {G:WdG} {M:Wm} {s:Int} (hl:G.nd.length=M.n.length) (h0:0≤s) (h1:s<M.n.length) (L:Zb):LS (Y8 G s (Zg G s) (Zf M s) (Xs G.nd M.n 0 s.toNat) L).flatten (Z9 G M++L).flatten:=by
 have hg:G.nd[s.toNat]? = some (Zg G s):=getD_some (by omega)
 have hm:M.n[s.toNat]? = some (Zf M s):=getD_some (by omega)
 refine LS.trans (wdOp_ls _ _ _ _ _ _) (LS.of_perm ?_)
 exact (Zik h0 hg hm (Zan G) L).symm
theorem Zer {G:WdG} {gs:List NdG} {ms:List Nd} {s:Int} {g:NdG} {m:Nd} (h0:0≤s) (h1:s.toNat<gs.length) (h2:s.toNat<ms.length) (L:Zb):LS (Zan G++[Wx (gs.set s.toNat g) (ms.set s.toNat m) 0]++L).flatten (Y8 G s g m (Xs gs ms 0 s.toNat) L).flatten:=by
 have hg:(gs.set s.toNat g)[s.toNat]? = some g:=by simp [h1]
 have hm:(ms.set s.toNat m)[s.toNat]? = some m:=by simp [h2]
 refine LS.trans (LS.of_perm (Zik h0 hg hm (Zan G) L)) ?_
 rw [Zlp]
 exact Zl9 _ _ _ _ _ _
theorem Zes {G:WdG} {M:Wm} {s:Int} (hl:G.nd.length=M.n.length) (h0:0≤s) (h1:s<M.n.length) {b:Nat} {o:Obj} (hb:(b,o)∈Ze0 (Zg G s) s (Zf M s)) (L:Zb):Has (Wx G.nd M.n 0::L) b o:=by
 have hg:G.nd[s.toNat]? = some (Zg G s):=getD_some (by omega)
 have hm:M.n[s.toNat]? = some (Zf M s):=getD_some (by omega)
 have:=Zdw (i:=0) hg hm
 rw [Qj h0] at this
 unfold Has
 rw [List.flatten_cons]
 exact List.mem_append_left _ (this.mem_iff.2 (List.mem_append_left _ hb))
theorem Zma {G:WdG} {M:Wm} {s:Int} (hl:G.nd.length=M.n.length) (h0:0≤s) (h1:s<M.n.length) (L:Zb):Has (Wx G.nd M.n 0::L) (Zg G s).np (Uw (Zg G s) (Zf M s)):=
 Zes hl h0 h1 (by simp [Ze0,U0]) L
theorem X6 {G:WdG} {M:Wm} (h:WdOk G M) {s:Int} (h0:0≤s) (h1:s<M.n.length):NdOk (Zg G s) (Zf M s):=by
 have hl:=h.ndl
 exact h.nd s.toNat _ _ (getD_some (by omega)) (getD_some (by omega))
theorem Uz {M:Wm} (h:WI M) {s:Int} (h0:0≤s) (h1:s<M.n.length):NdI M.w s.toNat (Zf M s):=h.nd s.toNat _ (getD_some (by omega))
theorem WdOk.setL {G:WdG} {M:Wm} (h:WdOk G M) {lv:Value} {lc:List Zo} {l:List Fr} (hv:Y9 lv l lc):WdOk { G with lv:=lv,lc:=lc } { M with l:=l }:=⟨h.w,h.nodes,h.ndl,h.br,hv,h.ev,h.nd⟩
theorem WdOk.setE {G:WdG} {M:Wm} (h:WdOk G M) {ev:Value} {c:List Zo} {l:List Evt} (hv:Vec 81 3 ec ev l c):WdOk { G with ev:=ev,ec:=c } { M with ev:=l }:=⟨h.w,h.nodes,h.ndl,h.br,h.l,hv,h.nd⟩
theorem WdOk.setB {G:WdG} {M:Wm} (h:WdOk G M) {es:List MapEntry} {ck:Nat} {f:Int × Int→Bool} (hv:Z5 pk es f):WdOk { G with es:=es,ck:=ck } { M with br:=f }:=⟨h.w,h.nodes,h.ndl,hv,h.l,h.ev,h.nd⟩
theorem WdOk.put {G:WdG} {M:Wm} (h:WdOk G M) {s:Int} {g:NdG} {m:Nd} (h0:0≤s) (h1:s<M.n.length) (hn:NdOk g m) (hp:g.np=(Zg G s).np):WdOk { G with nd:=G.nd.set s.toNat g } (Yp M s m):=by
 have hl:=h.ndl
 have e:(G.nd.set s.toNat g).map (·.np)=G.nd.map (·.np):=by
  rw [List.map_set,hp]
  have hg:G.nd[s.toNat]? = some (Zg G s):=getD_some (by omega)
  refine List.ext_getElem? fun i=>?_
  rw [List.getElem?_set]
  split
  ·rename_i hi
   subst hi
   rw [if_pos (by simp;omega),List.getElem?_map,hg]
   rfl
  ·rfl
 refine ⟨h.w,by simp only [e];exact h.nodes,by simp [Yp,hl],h.br,h.l,h.ev,fun q g1 m1 Vf hq2=>?_⟩
 simp only [Yp,List.getElem?_set] at Vf hq2
 by_cases hq:s.toNat=q
 ·rw [if_pos hq] at Vf hq2
  split at Vf
  ·split at hq2
   ·cases Vf;cases hq2;exact hn
   ·cases hq2
  ·cases Vf
 ·rw [if_neg hq] at Vf hq2
  exact h.nd q g1 m1 Vf hq2
theorem Zg1 {G:WdG} {s:Int} {g:NdG} (h0:0≤s) (h1:s<G.nd.length) (hp:g.np=(Zg G s).np):(G.nd.set s.toNat g).map (·.np)=G.nd.map (·.np):=by
 rw [List.map_set,hp]
 have hg:G.nd[s.toNat]? = some (Zg G s):=getD_some (by omega)
 refine List.ext_getElem? fun i=>?_
 rw [List.getElem?_set]
 split
 ·rename_i hi
  subst hi
  rw [if_pos (by simp;omega),List.getElem?_map,hg]
  rfl
 ·rfl
def Zao (G:WdG) (M':Wm) (L L':Zb):Prop := ∃ G',G'.wp=G.wp∧G'.nd.map (·.np)=G.nd.map (·.np)∧WdOk G' M'∧L'=Z9 G' M'++L
theorem Xo {G:WdG} {M:Wm} (h:WdOk G M) (L:Zb):Zao G M L (Z9 G M++L):=⟨G,rfl,rfl,h,rfl⟩
theorem Zlr {G G':WdG} (h:G'.nd.map (·.np)=G.nd.map (·.np)) {s:Int} (h0:0≤s) (h1:s<G.nd.length):(Zg G' s).np=(Zg G s).np:=by
 have hl:G'.nd.length=G.nd.length:=by simpa using congrArg List.length h
 have e1:G'.nd[s.toNat]? = some (Zg G' s):=getD_some (by omega)
 have e2:G.nd[s.toNat]? = some (Zg G s):=getD_some (by omega)
 have:=congrArg (fun l=>l[s.toNat]?) h
 simp only [List.getElem?_map,e1,e2,Option.map_some,Option.some.injEq] at this
 exact this
theorem HC.node {F:Nat} {args:List Value} {G:WdG} {M M':Wm} {s:Int} {L:Zb} {V:Value→Prop} (h:WdOk G M) (h0:0≤s) (h1:s<M.n.length)
  (k:HC Tryz.prog F args (Y8 G s (Zg G s) (Zf M s) (Xs G.nd M.n 0 s.toNat) L) (fun v L'=>V v ∧ ∃ G' M1 g' m',WdOk G' M1∧G'.nd=G.nd∧M1.n=M.n∧G'.wp=G.wp∧NdOk g' m'∧g'.np=(Zg G s).np∧M'=Yp M1 s m'∧L'=Y8 G' s g' m' (Xs G.nd M.n 0 s.toNat) L)) :
  HC Tryz.prog F args (Z9 G M++L) (fun v L'=>V v∧Zao G M' L L'):=by
 have hl:=h.ndl
 refine HC.post (HC.sp k (Zc0 hl h0 h1 L)) ?_
 rintro v L' ⟨hv,G',M1,g',m',hW,e1,e2,e3,hN,e4,rfl,rfl⟩
 have hnp:g'.np=(Zg G' s).np:=by rw [e4];unfold Zg;rw [e1]
 refine ⟨Z9 { G' with nd:=G'.nd.set s.toNat g' } (Yp M1 s m')++L,?_,hv,{ G' with nd:=G'.nd.set s.toNat g' },e3,?_,hW.put h0 (by rw [e2];exact h1) hN hnp,rfl⟩
 ·simp only [Z9,Yp,e1,e2]
  exact Zer (G:=G') h0 (by omega) (by omega) L
 ·simp only
  rw [← e1]
  exact Zg1 h0 (by rw [e1];omega) hnp
theorem HC.nodeC {F:Nat} {args:List Value} {G:WdG} {M M':Wm} {s:Int} {L:Zb} {V:Value→List Zo→Prop} (h:WdOk G M) (h0:0≤s) (h1:s<M.n.length)
  (k:HC Tryz.prog F args (Y8 G s (Zg G s) (Zf M s) (Xs G.nd M.n 0 s.toNat) L) (fun v L' => ∃ c,V v c ∧ ∃ G' M1 g' m',WdOk G' M1∧G'.nd=G.nd∧M1.n=M.n∧G'.wp=G.wp∧NdOk g' m'∧g'.np=(Zg G s).np∧M'=Yp M1 s m'∧L'=Y8 G' s g' m' (Xs G.nd M.n 0 s.toNat) (c::L))) :
  HC Tryz.prog F args (Z9 G M++L) (fun v L' => ∃ c,V v c∧Zao G M' (c::L) L'):=by
 have hl:=h.ndl
 refine HC.post (HC.sp k (Zc0 hl h0 h1 L)) ?_
 rintro v L' ⟨c,hv,G',M1,g',m',hW,e1,e2,e3,hN,e4,rfl,rfl⟩
 have hnp:g'.np=(Zg G' s).np:=by rw [e4];unfold Zg;rw [e1]
 refine ⟨Z9 { G' with nd:=G'.nd.set s.toNat g' } (Yp M1 s m')++(c::L),?_,c,hv,{ G' with nd:=G'.nd.set s.toNat g' },e3,?_,hW.put h0 (by rw [e2];exact h1) hN hnp,rfl⟩
 ·simp only [Z9,Yp,e1,e2]
  exact Zer (G:=G') h0 (by omega) (by omega) _
 ·simp only
  rw [← e1]
  exact Zg1 h0 (by rw [e1];omega) hnp
theorem NdOk.fall {g:NdG} {m:Nd} (h:NdOk g m) (pl:Pl) (dn:List Bool):NdOk g ⟨pl,none,noLeads,dn⟩:=by
 refine ⟨h.ld,fun d x hx=>?_,fun j ref hs=>by cases hs⟩
 simp only [noLeads,List.getElem?_replicate] at hx
 split at hx<;>cases hx
theorem NdOk.same {g:NdG} {m:Nd} (h:NdOk g m) {j:Jn} {ref:Int→Bool} (hs:m.site=some (j,ref)) (pl:Pl) (j':Jn) (dn:List Bool):NdOk g ⟨pl,some (j',ref),m.leads,dn⟩:=
 ⟨h.ld,h.lok,fun j2 r2 e=>by cases e;exact h.map j ref hs⟩
theorem Zax {G:WdG} {M:Wm} (h:WdOk G M) {s:Int} (h0:0≤s) (h1:s<M.n.length) {H:Zb} (hH : ∀ b o,(b,o)∈G.nc→Has H b o):NpIn H G.nv M.n.length s (Zg G s).np:=by
 have hl:=h.ndl
 obtain ⟨a,cap,hnv,-,hR⟩:=h.nodes.rd Zd5
 have hR2:=(hR []).mono (L':=H) fun b o hb=>hH b o (by simpa [Has] using hb)
 obtain ⟨b,i,l,F,fr,rfl,hb,hg⟩:=hR2.at1 (j:=s) h0 (by simp;omega)
 refine ⟨⟨b,i,l,F,fr,cap,by rw [hnv,List.length_map,hl],hb,?_⟩,h0,h1⟩
 have e:(G.nd.map (·.np))[s.toNat]'(by simp;omega)=(Zg G s).np:=by
  rw [List.getElem_map]
  unfold Zg
  rw [List.getD,List.getElem?_eq_getElem (by omega)]
  rfl
 rw [e] at hg
 exact hg 0 _ rfl
set_option maxHeartbeats 2000000 attribute [local irreducible] HW HO HQ HD HC QOp Has Upd Zq Gets Yj Ya Zv Wf Yg Zp Wq Z5
attribute [local irreducible] Xt Zw Yf Zy
theorem Za7 (T:Nat) (E:Nat→Addr) (G:WdG) (M:Wm) (s:Int) (f:Fr) (L:Zb) (hG:Er T E [2,3,5,6] L) (h:WdOk G M) (hI:WI M) (h0:0≤s) (h1:s<M.n.length) (hs:(Zf M s).site≠none) :
  HC Tryz.prog 75 [pt G.wp 0,iv s,.agg ⟨fc f⟩] (Z9 G M++L) (fun v L' => ∃ c,(∃ fv,Y9 fv (Xe M s f).2.1 c∧v = .tuple ⟨[fv,.bool (Xe M s f).2.2]⟩)∧Zao G (Xe M s f).1 (c::L) L'):=by
 refine HC.nodeC h h0 h1 ?_
 have hN:=X6 h h0 h1
 have hi:=Uz hI h0 h1
 have hn:=hI.wn
 have hnp:=Zax h h0 h1 (H:=Un (Zg G s) (Zf M s)::G.lc::G.wc::G.nc::[(G.mb,.map ⟨G.es⟩ G.ck)]::Xs G.nd M.n 0 s.toNat::L) fun b o hb=>Ze (Ze (Ze (Yw hb)))
 unfold Xe W5
 generalize hm:Zf M s=m at *
 cases hsi:m.site with
 | none=>exact absurd hsi hs
 | some q =>
  obtain ⟨j,ref⟩:=q
  have hsj:=Ziy (id:=s) (ref:=ref) (hi.jn hsi) f
  have hj6:(Zy s ref m.pl j f).2.1.l.length=6:=hsj.1.ji.jn.len
  have kh:=Zja T E G s (Zg G s) m f M.ev M.n.length j ref (Un (Zg G s) m::G.lc::G.wc::G.nc::[(G.mb,.map ⟨G.es⟩ G.ck)]::Xs G.nd M.n 0 s.toNat::L) ((((((hG.cons _).cons _).cons _).cons _).cons _).cons _) hnp h.ev hI.evl hN M.w s.toNat hi hsi hj6
  have ew:Y8 G s (Zg G s) m (Xs G.nd M.n 0 s.toNat) L=[(G.wp,V1 G)]::G.ec::U0 (Zg G s) m::Zcp (Zg G s).sp (Zg G s).bj (Zg G s).mb s::Zcv (Zg G s).mb (Zg G s).es (Zg G s).ck::Yf (Zg G s).bp (Zg G s).ba m.pl::jC (Zg G s).bj (Zg G s).bp j::(Un (Zg G s) m::G.lc::G.wc::G.nc::[(G.mb,.map ⟨G.es⟩ G.ck)]::Xs G.nd M.n 0 s.toNat::L):=by
   unfold Y8;rw [hsi];rfl
  rw [ew]
  refine HC.post kh ?_
  intro v L' hq
  unfold HearQ at hq
  simp only
  split at hq
  ·rename_i hoff
   obtain ⟨rfl,rfl⟩:=hq
   refine ⟨Y8 G s (Zg G s) ⟨(Zy s ref m.pl j f).1,none,noLeads,m.done⟩ (Xs G.nd M.n 0 s.toNat) ([]::L),?_,[],?_,G,M,Zg G s,_,h,rfl,rfl,rfl,hN.fall _ _,rfl,?_,rfl⟩
   ·simp only [Y8,Zf2,Zf1,Zf0]
    have:Un (Zg G s) ⟨(Zy s ref m.pl j f).1,none,noLeads,m.done⟩=[]:=by
     unfold Un noLeads
     have:=hN.ld
     obtain ⟨a,b,c,d,e,f,hh⟩ : ∃ a b c d e f,(Zg G s).ld=[a,b,c,d,e,f]:=by
      match (Zg G s).ld,this with
      | [a,b,c,d,e,f],_=>exact ⟨_,_,_,_,_,_,rfl⟩
     rw [hh];rfl
    rw [this]
    exact uL
   ·rw [if_pos hoff]
    exact ⟨_,Yk,rfl⟩
   ·rw [if_pos hoff];rfl
  ·rename_i hoff
   obtain ⟨fv,c,evv,c2,hfv,hev,rfl,rfl⟩:=hq
   refine ⟨Y8 { G with ev:=evv,ec:=c2 } s (Zg G s) ⟨(Zy s ref m.pl j f).1,some ((Zy s ref m.pl j f).2.1,ref),m.leads,(Wt s ⟨(Zy s ref m.pl j f).1,some ((Zy s ref m.pl j f).2.1,ref),m.leads,m.done⟩ M.ev).1⟩ (Xs G.nd M.n 0 s.toNat) (c::L),?_,c,?_,{ G with ev:=evv,ec:=c2 },_,Zg G s,_,h.setE hev,rfl,rfl,rfl,hN.same hsi _ _ _,rfl,?_,rfl⟩
   ·simp only [Y8,Zf2,Zf1,Zf0]
    exact uL
   ·rw [if_neg hoff]
    exact ⟨_,hfv,rfl⟩
   ·rw [if_neg hoff];rfl
end Go.HL
end

/-! WoO -/
section
namespace Go.HL
open Go Go.Proofs
theorem LS.mem {a b:List Zo} (h:LS a b) {x:Zo} (hx:x∈a):x∈b:=by
 obtain ⟨l,h1,h2⟩:=h
 exact h2.subset (h1.mem_iff.2 hx)
theorem Uy {G:WdG} {M:Wm} (h:WdOk G M) (L:Zb):WdIn (Z9 G M++L) G M:=wdIn h fun b o hb=>by
 unfold Has Z9 at *
 rw [List.append_assoc,List.flatten_append]
 exact List.mem_append_left _ hb
theorem Zhi {G:WdG} {M:Wm} (h:WdOk G M) (s:Int) (g:NdG) (m:Nd) (X:List Zo) (L:Zb):WdIn (Y8 G s g m X L) G M:=wdIn h fun b o hb=>by
 unfold Has at *
 refine (Zl9 G s g m X L).mem ?_
 rw [List.append_assoc,List.flatten_append]
 exact List.mem_append_left _ hb
theorem Za6 {G:WdG} {M:Wm} {s:Int} (hl:G.nd.length=M.n.length) (h0:0≤s) (h1:s<M.n.length) (L:Zb):Has (Z9 G M++L) (Zg G s).np (Uw (Zg G s) (Zf M s)):=by
 have:=Zma hl h0 h1 L
 unfold Has Z9 at *
 rw [List.append_assoc,List.flatten_append]
 exact List.mem_append_right _ this
theorem wdOp_has {G:WdG} {s:Int} {g:NdG} {m:Nd} {X:List Zo} {L:Zb}:Has (Y8 G s g m X L) g.np (Uw g m):=by
 unfold Y8 U0
 exact Ze (Ze Zj)
def upV (G:WdG) (M:Wm) (s:Int):Value:=match Xu M s with
 | some _ => .pointer none
 | none=>pt (Zg G s).np 0
theorem Zl7 {M:Wm} {s:Int} (h:Zcf M s=none):Xu M s=none∧0≤s∧s<M.n.length ∧ ∃ j ref,(Zf M s).site=some (j,ref):=by
 unfold Zcf at h
 rcases Wy (M:=M) s with he|⟨he,h0,h1⟩
 ·rw [he] at h;cases h
 ·rw [he] at h
  refine ⟨he,h0,h1,?_⟩
  cases hs:(Zf M s).site with
  | none=>rw [hs] at h;cases h
  | some q=>exact ⟨q.1,q.2,rfl⟩
theorem Zkt {G:WdG} {M:Wm} {s:Int} (h:Xu M s=none):upV G M s=pt (Zg G s).np 0:=by unfold upV;rw [h]
theorem Qr {g:NdG} {m:Nd} {d:Nat} {o:Option Ld} {q:Nat × Value × List Zo} (h1:m.leads[d]? = some o) (h2:g.ld[d]? = some q):(Yd g m)[d]? = some (Zlk o q):=by
 unfold Yd
 rw [List.getElem?_zipWith,h1,h2]
theorem Zib {g:NdG} {m:Nd} {d:Nat} {x:Ld} {q:Nat × Value × List Zo} (h1:m.leads[d]? = some (some x)) (h2:g.ld[d]? = some q) {y:Zo} (hy:y∈W6 q.1 q.2.1 q.2.2 x):y∈Un g m:=by
 unfold Un
 refine List.mem_flatten.2 ⟨W6 q.1 q.2.1 q.2.2 x,?_,hy⟩
 refine List.mem_iff_getElem?.2 ⟨d,?_⟩
 rw [List.getElem?_zipWith,h1,h2]
 rfl
set_option maxHeartbeats 2000000 attribute [local irreducible] HW HO HQ HD HC QOp Has Upd Zq Gets Yj Ya Zv Wf Yg Zp Wq Z5
attribute [local irreducible] Xt Zw Yf Zy Yt
theorem lstateH (lp:Nat) (wv:Value) (m:Ld) (L:Zb) (h:Has L lp (.cells ⟨Yt wv m⟩ 193)):HC Tryz.prog 77 [pt lp 0] L (fun v L'=>v=bs m.state∧L'=L):=hcHas (fun L=>Zgx lp wv [] m L) h
theorem lseenH (lp:Nat) (wv:Value) (m:Ld) (L:Zb) (ht:m.told.length=7) (h:Has L lp (.cells ⟨Yt wv m⟩ 193)):HC Tryz.prog 191 [pt lp 0] L (fun v L'=>v=iv m.seen∧L'=L):=hcHas (fun L=>Zif lp wv [] m L ht) h
theorem Zex (T:Nat) (E:Nat→Addr) (G:WdG) (M:Wm) (s:Int) (L:Zb) (hG:Er T E [2,6] L) (hI:WdIn L G M) (hl:G.nd.length=M.n.length) (hN:Xu M s=none→Has L (Zg G s).np (Uw (Zg G s) (Zf M s))) :
  HC Tryz.prog 66 [pt G.wp 0,iv s] L (fun v L'=>v = .tuple ⟨[upV G M s,eV T E (Zcf M s)]⟩∧L'=L):=by
 have k:=Zn0 T E G M s L hG hI hl hN
 unfold upV
 rcases Wy (M:=M) s with he|⟨he,h0,h1⟩
 ·have:Zcf M s=some 2:=by unfold Zcf;rw [he]
  simp only [he,this] at k ⊢
  exact k
 ·simp only [he] at k ⊢
  exact k
theorem Zjb (T:Nat) (E:Nat→Addr) (G:WdG) (M:Wm) (s d:Int) (L:Zb) (hG:Er T E [2] L) (hW:WdOk G M) (hM:WI M) :
  HC Tryz.prog 25 [pt G.wp 0,iv s,iv d] (Z9 G M++L) (fun v L'=>v = .tuple ⟨[bs (Zid M s d).1,eV T E (Zid M s d).2]⟩∧L'=Z9 G M++L):=by
 have hl:=hW.ndl
 have hI:=Uy hW L
 have hG':Er T E [2] (Z9 G M++L):=by
  unfold Z9 Zan
  exact ((((((hG.cons _).cons _).cons _).cons _).cons _).cons _).cons _
 have kn:=We T E G M s _ hG' hI hl
 have hAt : ∀ (h0:0≤s) (h1:s<M.n.length),Has (Z9 G M++L) (Zg G s).np (Uw (Zg G s) (Zf M s)):=fun h0 h1=>Za6 hl h0 h1 L
 have hB : ∀ (h0:0≤s) (h1:s<M.n.length) {b:Nat} {o:Obj},(b,o)∈Ze0 (Zg G s) s (Zf M s)→Has (Z9 G M++L) b o:=fun h0 h1 {b o} hb=>by
  have:=Zes hl h0 h1 hb L
  unfold Has Z9 at *
  rw [List.append_assoc,List.flatten_append]
  exact List.mem_append_right _ this
 generalize Z9 G M++L=H at *
 unfold Zid
 rcases Wy (M:=M) s with he|⟨he,h0,h1⟩
 ·have h2:s<0 ∨ ↑M.n.length≤s∨d<0∨6≤d:=by
   unfold Xu at he
   split at he
   ·omega
   ·cases he
  simp only [if_pos h2,he] at kn ⊢
  refine Za (fun _ _=>Tryz.call25 _ _) Tryz.func25 rfl Tryz.ntmps25 (Nat.le_of_ble_eq_true rfl) ?_;simp only [Zd,Nat.reduceAdd]
  repeat' (first|refine uN ?_|refine Z8 S ?_|refine uC (kn) ?_|(refine uP ?_ ?_<;>(intro h;((try simp only [zs,zq,reduceCtorEq] at h);try exact zx)))|fail)
  exact Zjh rfl ⟨rfl,rfl⟩
 ·simp only [he] at kn
  by_cases hd:d<0∨6≤d
  ·have h2:s<0 ∨ ↑M.n.length≤s∨d<0∨6≤d := .inr (.inr hd)
   simp only [if_pos h2]
   refine Za (fun _ _=>Tryz.call25 _ _) Tryz.func25 rfl Tryz.ntmps25 (Nat.le_of_ble_eq_true rfl) ?_;simp only [Zd,Nat.reduceAdd]
   repeat' (first|refine uN ?_|refine Z8 S ?_|refine uC (kn) ?_|(refine uP ?_ ?_<;>(intro h;((try simp only [zs,zq,reduceCtorEq] at h);try exact zx)))|fail)
   all_goals exact Zjh rfl ⟨rfl,rfl⟩
  ·have h2 : ¬ (s<0 ∨ ↑M.n.length≤s∨d<0∨6≤d):=by omega
   simp only [if_neg h2]
   have hN:=hAt h0 h1
   have hok:=X6 hW h0 h1
   have hni:=Uz hM h0 h1
   have hBB:=fun {b o}=>hB h0 h1 (b:=b) (o:=o)
   generalize Zf M s=m at *
   generalize hg:Zg G s=g at *
   obtain ⟨dn,rfl⟩:=Int.eq_ofNat_of_zero_le (show 0≤d by omega)
   have hd6:dn<6:=by omega
   simp only [Int.toNat_natCast]
   have hm1:m.leads[dn]? = some (m.leads.getD dn none):=getD_some (by rw [hni.leads];exact hd6)
   obtain ⟨q,hq⟩ : ∃ q,g.ld[dn]? = some q:=⟨_,List.getElem?_eq_getElem (by rw [hok.ld];exact hd6)⟩
   have hv:=Qr hm1 hq
   unfold Uw at hN
   have gL:=Qb (sv:=Zcc g m.site) (bp:=g.bp) (dn:=m.done) hv
   cases hx:m.leads.getD dn none with
   | none =>
    rw [hx] at gL
    simp only [Zlk] at gL
    refine Za (fun _ _=>Tryz.call25 _ _) Tryz.func25 rfl Tryz.ntmps25 (Nat.le_of_ble_eq_true rfl) ?_;simp only [Zd,Nat.reduceAdd]
    repeat' (first|refine uN ?_|refine Z8 S ?_|refine uC (kn) ?_|(refine uP ?_ ?_<;>(intro h;((try simp only [zs,zq,reduceCtorEq] at h);try exact zx)))|fail)
    exact Zjh rfl ⟨rfl,rfl⟩
   | some x =>
    rw [hx] at gL hm1
    simp only [Zlk] at gL
    have hLd:Has H q.1 (.cells ⟨Yt q.2.1 x⟩ 193):=hBB (by
     unfold Ze0
     exact List.mem_append_right _ (Zib hm1 hq (by simp [W6])))
    refine Za (fun _ _=>Tryz.call25 _ _) Tryz.func25 rfl Tryz.ntmps25 (Nat.le_of_ble_eq_true rfl) ?_;simp only [Zd,Nat.reduceAdd]
    repeat' (first|refine uN ?_|refine Z8 S ?_|refine uC (kn) ?_|refine uC (lstateH q.1 q.2.1 x _ hLd) ?_|(refine uP ?_ ?_<;>(intro h;((try simp only [zs,zq,reduceCtorEq] at h);try exact zx)))|fail)
    exact Zjh rfl ⟨rfl,rfl⟩
end Go.HL
end

/-! WoP -/
section
namespace Go.HL
open Go Go.Proofs
theorem Zgm {T:Nat} {E:Nat→Addr} {ns:List Nat} {L:Zb} (h:Er T E ns L) (G:WdG) (s:Int) (g:NdG) (m:Nd) (X:List Zo):Er T E ns (Y8 G s g m X L):=
 ((((((((((((h.cons _).cons _).cons _).cons _).cons _).cons _).cons _).cons _).cons _).cons _).cons _).cons _).cons _
theorem Xj {T:Nat} {E:Nat→Addr} {ns:List Nat} {L:Zb} (h:Er T E ns L) (G:WdG) (M:Wm):Er T E ns (Z9 G M++L):=
 ((((((h.cons _).cons _).cons _).cons _).cons _).cons _).cons _
theorem Zeo {M:Wm} {s:Int}:(∃ e,Zcf M s=some e)∨(Zcf M s=none∧Xu M s=none∧0≤s∧s<M.n.length ∧ ∃ j ref,(Zf M s).site=some (j,ref)):=by
 cases h:Zcf M s with
 | some e=>exact .inl ⟨e,rfl⟩
 | none=>exact .inr ⟨rfl,Zl7 h⟩
set_option maxHeartbeats 2000000 attribute [local irreducible] HW HO HQ HD HC QOp Has Upd Zq Gets Yj Ya Zv Wf Yg Zp Wq Z5
attribute [local irreducible] Xt Zw Yf Zy Yt
theorem Zdl {T:Nat} {E:Nat→Addr} {G:WdG} {M:Wm} (s:Int) {L:Zb} (hG:Er T E [2,6] L) (hW:WdOk G M):HC Tryz.prog 66 [pt G.wp 0,iv s] (Z9 G M++L) (fun v L'=>v = .tuple ⟨[upV G M s,eV T E (Zcf M s)]⟩∧L'=Z9 G M++L):=
 Zex T E G M s _ (Xj hG G M) (Uy hW L) hW.ndl (fun hn=>by
  obtain ⟨h0,h1⟩:=Zai hn
  exact Za6 hW.ndl h0 h1 L)
theorem Zj3 {T:Nat} {E:Nat→Addr} {G:WdG} {M:Wm} {s:Int} {L:Zb} (hG:Er T E [2,6] L) (hW:WdOk G M) (hu:Zcf M s=none) (X:List Zo):HC Tryz.prog 66 [pt G.wp 0,iv s] (Y8 G s (Zg G s) (Zf M s) X L) (fun v L'=>v = .tuple ⟨[pt (Zg G s).np 0,.nilIface]⟩∧L'=Y8 G s (Zg G s) (Zf M s) X L):=by
 have:=Zex T E G M s _ (Zgm hG G s (Zg G s) (Zf M s) X) (Zhi hW s _ _ X L) hW.ndl (fun hn=>wdOp_has)
 rw [hu,Zkt (Zl7 hu).1] at this
 exact this
theorem Zfd (T:Nat) (E:Nat→Addr) (G:WdG) (M:Wm) (s d:Int) (L:Zb) (hG:Er T E [2,6] L) (hW:WdOk G M) (hM:WI M) :
  HC Tryz.prog 20 [pt G.wp 0,iv s,iv d] (Z9 G M++L) (fun v L'=>v=eV T E (V0 M s d).2∧Zao G (V0 M s d).1 L L'):=by
 unfold V0
 have hself:=Xo hW L
 by_cases hd:d<0∨6≤d
 ·simp only [if_pos hd]
  have hG':=Xj hG G M
  generalize Z9 G M++L=H at *
  refine Za (fun _ _=>Tryz.call20 _ _) Tryz.func20 rfl Tryz.ntmps20 (Nat.le_of_ble_eq_true rfl) ?_;simp only [Zd,Nat.reduceAdd]
  repeat' (first|refine uN ?_|(refine uP ?_ ?_<;>(intro h;((try simp only [zs,zq,reduceCtorEq] at h);try exact zx)))|fail)
  all_goals exact U3 rfl ⟨rfl,hself⟩
 simp only [if_neg hd]
 rcases Zeo (M:=M) (s:=s) with ⟨e,he⟩|⟨he,hn,h0,h1,j,ref,hs⟩
 ·have ku:=Zdl s hG hW
  have hG':=Xj hG G M
  generalize Z9 G M++L=H at *
  simp only [he] at ku ⊢
  refine Za (fun _ _=>Tryz.call20 _ _) Tryz.func20 rfl Tryz.ntmps20 (Nat.le_of_ble_eq_true rfl) ?_;simp only [Zd,Nat.reduceAdd]
  repeat' (first|refine uN ?_|refine uC (ku) ?_|(refine uP ?_ ?_<;>(intro h;((try simp only [zs,zq,reduceCtorEq] at h);try exact zx)))|fail)
  exact U3 rfl ⟨rfl,hself⟩
 ·simp only [he]
  refine HC.node hW h0 h1 ?_
  have ku:=Zj3 (X:=Xs G.nd M.n 0 s.toNat) hG hW he
  have hok:=X6 hW h0 h1
  have hni:=Uz hM h0 h1
  generalize Xs G.nd M.n 0 s.toNat=X at *
  generalize Zf M s=m at *
  generalize Zg G s=g at *
  obtain ⟨pl,site,leads,done⟩:=m
  simp only at hs
  subst hs
  have hF:=hok.map j ref rfl
  have hj:=(hni.jn rfl).ji.jn
  have g0:(Xt (pt g.sp 0) g.bp (Yd g ⟨pl,some (j,ref),leads,done⟩) done)[0+0]? = some (pt g.sp 0):=Xg rfl
  have kr:=fun L hG=>Zg8 T E g.sp g.bj g.mb g.bp s g.es g.ck ref j d L hG hj.len hF
  simp only [if_neg hd] at kr
  simp only [Y8,U0,Uw,Zcc,Zf2,Zf1,Zf0] at ku ⊢
  refine Za (fun _ _=>Tryz.call20 _ _) Tryz.func20 rfl Tryz.ntmps20 (Nat.le_of_ble_eq_true rfl) ?_;simp only [Zd,Nat.reduceAdd]
  repeat' (first|refine uN ?_|refine uC (ku) ?_|(refine uP ?_ ?_<;>(intro h;((try simp only [zs,zq,reduceCtorEq] at h);try exact zx)))|fail)
  refine fo 6 ?_
  refine fo 5 ?_
  refine fo 5 ?_
  refine gc (kr _ ?_) ?_
  ·exact (((((((((hG.sub.cons _).cons _).cons _).cons _).cons _).cons _).cons _).cons _).cons _).cons _
  rintro v L' ⟨es',ck',hF',rfl,rfl⟩
  repeat' (first|refine uN ?_|refine uC (ku) ?_|(refine uP ?_ ?_<;>(intro h;((try simp only [zs,zq,reduceCtorEq] at h);try exact zx)))|fail)
  refine Xb (L':=Y8 G s { g with es:=es',ck:=ck' } (Zaz ⟨pl,some (j,ref),leads,done⟩ d) X L) ?_ ⟨rfl,G,M,{ g with es:=es',ck:=ck' },Zaz ⟨pl,some (j,ref),leads,done⟩ d,hW,rfl,rfl,rfl,⟨hok.ld,hok.lok,fun j2 r2 e=>by cases e;exact hF'⟩,rfl,rfl,rfl⟩
  simp only [Y8,U0,Uw,Zcc,Zf2,Zf1,Zf0,Zaz]
  exact uL
theorem Zkw (T:Nat) (E:Nat→Addr) (G:WdG) (M:Wm) (s n:Int) (L:Zb) (hG:Er T E [2,6] L) (hW:WdOk G M) (hM:WI M) :
  HC Tryz.prog 91 [pt G.wp 0,iv s,iv n] (Z9 G M++L) (fun v L'=>v=eV T E (Zhv M s n).2∧Zao G (Zhv M s n).1 L L'):=by
 unfold Zhv
 have hself:=Xo hW L
 by_cases hd:n<0
 ·simp only [if_pos hd]
  have hG':=Xj hG G M
  generalize Z9 G M++L=H at *
  refine Za (fun _ _=>Tryz.call91 _ _) Tryz.func91 rfl Tryz.ntmps91 (Nat.le_of_ble_eq_true rfl) ?_;simp only [Zd,Nat.reduceAdd]
  repeat' (first|refine uN ?_|(refine uP ?_ ?_<;>(intro h;((try simp only [zs,zq,reduceCtorEq] at h);try exact zx)))|fail)
  all_goals exact U3 rfl ⟨rfl,hself⟩
 simp only [if_neg hd]
 rcases Zeo (M:=M) (s:=s) with ⟨e,he⟩|⟨he,hn,h0,h1,j,ref,hs⟩
 ·have ku:=Zdl s hG hW
  have hG':=Xj hG G M
  generalize Z9 G M++L=H at *
  simp only [he] at ku ⊢
  refine Za (fun _ _=>Tryz.call91 _ _) Tryz.func91 rfl Tryz.ntmps91 (Nat.le_of_ble_eq_true rfl) ?_;simp only [Zd,Nat.reduceAdd]
  repeat' (first|refine uN ?_|refine uC (ku) ?_|(refine uP ?_ ?_<;>(intro h;((try simp only [zs,zq,reduceCtorEq] at h);try exact zx)))|fail)
  exact U3 rfl ⟨rfl,hself⟩
 ·simp only [he]
  refine HC.node hW h0 h1 ?_
  have ku:=Zj3 (X:=Xs G.nd M.n 0 s.toNat) hG hW he
  have hok:=X6 hW h0 h1
  have hni:=Uz hM h0 h1
  generalize Xs G.nd M.n 0 s.toNat=X at *
  generalize hmm:Zf M s=m at *
  generalize Zg G s=g at *
  obtain ⟨pl,site,leads,done⟩:=m
  simp only at hs
  subst hs
  have hoff:pl.off=false:=(hni.up j ref rfl).2
  have g1:(Xt (pt g.sp 0) g.bp (Yd g ⟨pl,some (j,ref),leads,done⟩) done)[0+1]? = some (pt g.bp 0):=Xg rfl
  have kr:=fun L hG=>Zmo T E g.bp g.ba pl n L hG
  simp only [if_neg hd,hoff,Bool.false_eq_true,if_false] at kr
  simp only [Y8,U0,Uw,Zcc,Zf2,Zf1,Zf0] at ku ⊢
  refine Za (fun _ _=>Tryz.call91 _ _) Tryz.func91 rfl Tryz.ntmps91 (Nat.le_of_ble_eq_true rfl) ?_;simp only [Zd,Nat.reduceAdd]
  repeat' (first|refine uN ?_|refine uC (ku) ?_|(refine uP ?_ ?_<;>(intro h;((try simp only [zs,zq,reduceCtorEq] at h);try exact zx)))|fail)
  refine fo 5 ?_
  refine gc (kr _ ?_) ?_
  ·exact ((((((((((((hG.sub.cons _).cons _).cons _).cons _).cons _).cons _).cons _).cons _).cons _).cons _).cons _).cons _)
  rintro v L' ⟨rfl,rfl⟩
  repeat' (first|refine uN ?_|refine uC (ku) ?_|(refine uP ?_ ?_<;>(intro h;((try simp only [zs,zq,reduceCtorEq] at h);try exact zx)))|fail)
  refine Xb (L':=Y8 G s g ⟨{ pl with cut:=n },some (j,ref),leads,done⟩ X L) ?_ ⟨rfl,G,M,g,⟨{ pl with cut:=n },some (j,ref),leads,done⟩,hW,rfl,rfl,rfl,hok.same rfl _ _ _,rfl,rfl,rfl⟩
  have e1:Un g ⟨{ pl with cut:=n },some (j,ref),leads,done⟩=Un g ⟨pl,some (j,ref),leads,done⟩:=rfl
  have e2:Yd g ⟨{ pl with cut:=n },some (j,ref),leads,done⟩=Yd g ⟨pl,some (j,ref),leads,done⟩:=rfl
  simp only [Y8,U0,Uw,Zcc,Zf2,Zf1,Zf0]
  rw [e1,e2]
  simp only [hoff]
  exact uL
theorem Zi8 (T:Nat) (E:Nat→Addr) (G:WdG) (M:Wm) (s:Int) (L:Zb) (hG:Er T E [2,6] L) (hW:WdOk G M) (hM:WI M) :
  HC Tryz.prog 37 [pt G.wp 0,iv s] (Z9 G M++L) (fun v L'=>v=eV T E (Zb0 M s).2∧Zao G (Zb0 M s).1 L L'):=by
 unfold Zb0
 have hself:=Xo hW L
 rcases Zeo (M:=M) (s:=s) with ⟨e,he⟩|⟨he,hn,h0,h1,j,ref,hs⟩
 ·have ku:=Zdl s hG hW
  have hG':=Xj hG G M
  generalize Z9 G M++L=H at *
  simp only [he] at ku ⊢
  refine Za (fun _ _=>Tryz.call37 _ _) Tryz.func37 rfl Tryz.ntmps37 (Nat.le_of_ble_eq_true rfl) ?_;simp only [Zd,Nat.reduceAdd]
  repeat' (first|refine uN ?_|refine uC (ku) ?_|(refine uP ?_ ?_<;>(intro h;((try simp only [zs,zq,reduceCtorEq] at h);try exact zx)))|fail)
  exact U3 rfl ⟨rfl,hself⟩
 ·simp only [he]
  refine HC.node hW h0 h1 ?_
  have ku:=Zj3 (X:=Xs G.nd M.n 0 s.toNat) hG hW he
  have hok:=X6 hW h0 h1
  have hni:=Uz hM h0 h1
  generalize Xs G.nd M.n 0 s.toNat=X at *
  generalize hmm:Zf M s=m at *
  generalize Zg G s=g at *
  obtain ⟨pl,site,leads,done⟩:=m
  simp only at hs
  subst hs
  have g1:(Xt (pt g.sp 0) g.bp (Yd g ⟨pl,some (j,ref),leads,done⟩) done)[0+1]? = some (pt g.bp 0):=Xg rfl
  have kr:=fun L=>Znd g.bp g.ba pl L
  have hlv:(Yd g ⟨pl,some (j,ref),leads,done⟩).length=6:=by simp [Yd,hni.leads,hok.ld]
  have kf:=fun L=>Zcg g ⟨pl,some (j,ref),leads,done⟩ L hlv hok.ld
  simp only [Y8,U0,Uw,Zcc,Zf2,Zf1,Zf0] at ku kf ⊢
  refine Za (fun _ _=>Tryz.call37 _ _) Tryz.func37 rfl Tryz.ntmps37 (Nat.le_of_ble_eq_true rfl) ?_;simp only [Zd,Nat.reduceAdd]
  repeat' (first|refine uN ?_|refine uC (ku) ?_|(refine uP ?_ ?_<;>(intro h;((try simp only [zs,zq,reduceCtorEq] at h);try exact zx)))|fail)
  refine fo 5 ?_
  refine gc (kr _) ?_
  rintro v L' ⟨rfl,rfl⟩
  repeat' (first|refine uN ?_|refine uC (ku) ?_|(refine uP ?_ ?_<;>(intro h;((try simp only [zs,zq,reduceCtorEq] at h);try exact zx)))|fail)
  refine fo 3 ?_
  refine gc (kf _) ?_
  rintro v L' ⟨rfl,rfl⟩
  repeat' (first|refine uN ?_|refine uC (ku) ?_|(refine uP ?_ ?_<;>(intro h;((try simp only [zs,zq,reduceCtorEq] at h);try exact zx)))|fail)
  refine Xb (L':=Y8 G s g (Zk4 ⟨pl,some (j,ref),leads,done⟩) X L) ?_ ⟨rfl,G,M,g,Zk4 ⟨pl,some (j,ref),leads,done⟩,hW,rfl,rfl,rfl,hok.fall _ _,rfl,rfl,rfl⟩
  simp only [Y8,U0,Uw,Zcc,Zf2,Zf1,Zf0,Zk4]
  have:Un g ⟨{ pl with off:=true },none,noLeads,done⟩=[]:=by
   unfold Un noLeads
   have:=hok.ld
   obtain ⟨a,b,c,d,e,f,hh⟩ : ∃ a b c d e f,g.ld=[a,b,c,d,e,f]:=by
    match g.ld,this with
    | [a,b,c,d,e,f],_=>exact ⟨_,_,_,_,_,_,rfl⟩
   rw [hh];rfl
  rw [this]
  exact uL
end Go.HL
end

/-! WoQ -/
section
namespace Go.HL
open Go Go.Proofs
set_option maxHeartbeats 2000000 attribute [local irreducible] HW HO HQ HD HC QOp Has Upd Zq Gets Yj Ya Zv Wf Yg Zp Wq Z5
attribute [local irreducible] Xt Zw Yf Zy Yt Zt
theorem Zk1 (T:Nat) (E:Nat→Addr) (G:WdG) (M:Wm) (s:Int) (L:Zb) (hG:Er T E [2,3,6,8] L) (hW:WdOk G M) (hM:WI M) :
  HC Tryz.prog 38 [pt G.wp 0,iv s] (Z9 G M++L) (fun v L'=>v=eV T E (upW M s).2∧Zao G (upW M s).1 L L'):=by
 unfold upW
 have hself:=Xo hW L
 have hnl:=hM.wn
 have hwl:=hM.wl
 rcases Wy (M:=M) s with he|⟨he,h0,h1⟩
 ·have kn:=We T E G M s _ (Xj hG.sub G M) (Uy hW L) hW.ndl
  generalize Z9 G M++L=H at *
  simp only [he] at kn ⊢
  refine Za (fun _ _=>Tryz.call38 _ _) Tryz.func38 rfl Tryz.ntmps38 (Nat.le_of_ble_eq_true rfl) ?_;simp only [Zd,Nat.reduceAdd]
  repeat' (first|refine uN ?_|refine uC (kn) ?_|(refine uP ?_ ?_<;>(intro h;((try simp only [zs,zq,reduceCtorEq] at h);try exact zx)))|fail)
  exact U3 rfl ⟨rfl,hself⟩
 ·simp only [he]
  cases hs:(Zf M s).site with
  | some q =>
   have kn:=We T E G M s _ (Xj hG.sub G M) (Uy hW L) hW.ndl
   have hN:=Za6 hW.ndl h0 h1 L
   have hG':=Xj hG G M
   generalize Z9 G M++L=H at *
   simp only [he,Option.isSome_some,if_true] at kn ⊢
   unfold Uw at hN
   rw [hs] at hN
   obtain ⟨q1,q2⟩:=q
   have g0:(Xt (pt (Zg G s).sp 0) (Zg G s).bp (Yd (Zg G s) (Zf M s)) (Zf M s).done)[0+0]? = some (pt (Zg G s).sp 0):=Xg rfl
   refine Za (fun _ _=>Tryz.call38 _ _) Tryz.func38 rfl Tryz.ntmps38 (Nat.le_of_ble_eq_true rfl) ?_;simp only [Zd,Nat.reduceAdd]
   repeat' (first|refine uN ?_|refine uC (kn) ?_|(refine uP ?_ ?_<;>(intro h;((try simp only [zs,zq,reduceCtorEq] at h);try exact zx)))|fail)
   exact U3 rfl ⟨rfl,hself⟩
  | none =>
   simp only [Option.isSome_none,Bool.false_eq_true,if_false]
   refine HC.node hW h0 h1 ?_
   have kn:=We T E G M s _ (Zgm hG.sub G s (Zg G s) (Zf M s) (Xs G.nd M.n 0 s.toNat)) (Zhi hW s _ _ _ L) hW.ndl
   have hok:=X6 hW h0 h1
   have hni:=Uz hM h0 h1
   have hnp:=fun H hH=>Zax hW h0 h1 (H:=H) hH
   simp only [he] at kn
   generalize Xs G.nd M.n 0 s.toNat=X at *
   generalize hmm:Zf M s=m at *
   generalize Zg G s=g at *
   obtain ⟨pl,site,leads,done⟩:=m
   simp only at hs
   subst hs
   have hpl:pl.b.length=512:=hni.b512
   have g0 : ∀ v,(Xt v g.bp (Yd g ⟨pl,none,leads,done⟩) done)[0+0]? = some v:=fun v=>Xg rfl
   have g1 : ∀ v,(Xt v g.bp (Yd g ⟨pl,none,leads,done⟩) done)[0+1]? = some (pt g.bp 0):=fun v=>Xg rfl
   have g0n:=g0 (.pointer none)
   have g1n:=g1 (.pointer none)
   have p0:=fun v=>Zii (sv := .pointer none) (sv':=v) (bp:=g.bp) (lv:=Yd g ⟨pl,none,leads,done⟩) (dn:=done)
   have kon:=fun L=>on_calls g.bp g.ba pl L
   have kne:=fun L hG=>Zeh T E s g.bp g.ba { pl with off:=false,cut := -1 } L hG (by simp only;omega)
   have hse:Zf3 s { pl with off:=false,cut := -1 }=none:=by
    unfold Zf3
    rw [if_neg (by omega)]
    simp only
    rw [if_neg (by omega)]
    simp
   simp only [hse] at kne
   have hlv:(Yd g ⟨pl,none,leads,done⟩).length=6:=by simp [Yd,hni.leads,hok.ld]
   simp only [Y8,U0,Uw,Zcc,Zf2,Zf1,Zf0] at kn ⊢
   refine Za (fun _ _=>Tryz.call38 _ _) Tryz.func38 rfl Tryz.ntmps38 (Nat.le_of_ble_eq_true rfl) ?_;simp only [Zd,Nat.reduceAdd]
   repeat' (first|refine uN ?_|refine uC (kn) ?_|(refine uP ?_ ?_<;>(intro h;((try simp only [zs,zq,reduceCtorEq] at h);try exact zx)))|fail)
   refine fo 5 ?_
   refine gc (kon _) ?_
   rintro v L' ⟨rfl,rfl⟩
   repeat' (first|refine uN ?_|refine uC (kn) ?_|(refine uP ?_ ?_<;>(intro h;((try simp only [zs,zq,reduceCtorEq] at h);try exact zx)))|fail)
   refine gc (kne _ ?_) ?_
   ·exact ((((((((((((hG.sub.cons _).cons _).cons _).cons _).cons _).cons _).cons _).cons _).cons _).cons _).cons _).cons _)
   rintro v L' ⟨sp,bj,mb,rfl,rfl⟩
   have p0n:=p0 (pt sp 0)
   repeat' (first|refine uN ?_|refine uC (kn) ?_|(refine uP ?_ ?_<;>(intro h;((try simp only [zs,zq,reduceCtorEq] at h);try exact zx)))|fail)
   have kw:=fun L hp hs=>Zch G s { g with sp:=sp,bj:=bj,mb:=mb,es:=[],ck:=0 } (U4 ⟨pl,none,leads,done⟩) M.ev M.n.length L hW.ev hM.evl hp hni.done hlv hs
   have g0s:=g0 (pt sp 0)
   refine fo 6 ?_
   refine fo 6 ?_
   refine fo 6 ?_
   refine gc (kw _ ?_ ?_) ?_
   ·exact hnp _ (fun b o hb=>Ze (Ze (Ze (Ze (Ze (Ze (Ze (Ze (Ze (Ze (Yw hb)))))))))))
   ·intro j r hjr
    cases hjr
    refine ⟨⟨Zj,?_⟩,Zfw _⟩
    exact Ze (Ze (Ze Zj))
   rintro v L' ⟨evv,c,hev,rfl,rfl⟩
   repeat' (first|refine uN ?_|refine uC (kn) ?_|(refine uP ?_ ?_<;>(intro h;((try simp only [zs,zq,reduceCtorEq] at h);try exact zx)))|fail)
   refine Xb (L':=Y8 { G with ev:=evv,ec:=c } s { g with sp:=sp,bj:=bj,mb:=mb,es:=[],ck:=0 } { U4 ⟨pl,none,leads,done⟩ with done:=(Wt s (U4 ⟨pl,none,leads,done⟩) M.ev).1 } X L) ?_ ⟨rfl,{ G with ev:=evv,ec:=c },{ M with ev:=(Wt s (U4 ⟨pl,none,leads,done⟩) M.ev).2 },{ g with sp:=sp,bj:=bj,mb:=mb,es:=[],ck:=0 },{ U4 ⟨pl,none,leads,done⟩ with done:=(Wt s (U4 ⟨pl,none,leads,done⟩) M.ev).1 },hW.setE hev,rfl,rfl,rfl,⟨hok.ld,hok.lok,fun j2 r2 e=>by cases e;exact Zdu⟩,rfl,rfl,rfl⟩
   simp only [Y8,U4,Zf2,Zf1,Zf0]
   exact uL
end Go.HL
end

/-! WoR -/
section
namespace Go.HL
open Go Go.Proofs
section nd
variable {P:Program} {n:Nat} {ops:List Oper} {Q:Exit→Zn→Zb→Prop} {ρ:Zn} {L:Zb} {l:List Oper}
theorem ho_nodup (h:(L.flatten.map (·.1)).Nodup→HO P n ops Q l ρ L):HO P n ops Q l ρ L:=fun k w a hs ha=>h hs.nodup k w a hs ha
end nd
theorem Zcz {G G':WdG} {M':Wm} {L:Zb} (h:WdOk G' M') (e1:G'.wp=G.wp) (e2:G'.nd=G.nd):Zao G M' L (Z9 G' M'++L):=⟨G',e1,by rw [e2],h,rfl⟩
set_option maxHeartbeats 2000000 attribute [local irreducible] HW HO HQ HD HC QOp Has Upd Zq Gets Yj Ya Zv Wf Yg Zp Wq Z5
attribute [local irreducible] Xt Zw Yf Zy Yt Zt
theorem Zjc (T:Nat) (E:Nat→Addr) (G:WdG) (M:Wm) (a b:Int) (whole:Bool) (L:Zb) (hG:Er T E [2] L) (hW:WdOk G M) :
  HC Tryz.prog 36 [pt G.wp 0,iv a,iv b,.bool whole] (Z9 G M++L) (fun v L'=>v=eV T E (Zb8 M a b whole).2∧Zao G (Zb8 M a b whole).1 L L'):=by
 unfold Zb8
 have hself:=Xo hW L
 have hI:=Uy hW L
 obtain ⟨an,capn,hnv,hnr⟩:=hI.ns
 by_cases h:a<0∨M.n.length≤a∨b<0∨M.n.length≤b
 ·simp only [if_pos h]
  have hG':=Xj hG G M
  have hw:=hI.wp
  unfold V1 at hw
  rw [hnv] at hw
  generalize Z9 G M++L=H at *
  refine Za (fun _ _=>Tryz.call36 _ _) Tryz.func36 rfl Tryz.ntmps36 (Nat.le_of_ble_eq_true rfl) ?_;simp only [Zd,Nat.reduceAdd]
  repeat' (first|refine uN ?_|(refine uP ?_ ?_<;>(intro h;((try simp only [zs,zq,reduceCtorEq] at h);try exact zx)))|fail)
  all_goals exact U3 rfl ⟨rfl,hself⟩
 ·simp only [if_neg h]
  have hF:=hW.br
  have key : ∀ es' ck' x,Z5 pk es' (fun y=>if y=(min a b,max a b) then x else M.br y)→Zao G { M with br:=fun y=>if y=(min a b,max a b) then x else M.br y } L (Z9 { G with es:=es',ck:=ck' } { M with br:=fun y=>if y=(min a b,max a b) then x else M.br y }++L):=fun es' ck' x hF'=>Zcz (hW.setB hF') rfl rfl
  simp only [Z9,Zan,V1,List.cons_append,List.nil_append,hnv] at key ⊢
  cases whole with
  | true =>
   simp only [Bool.not_true,Bool.false_and]
   refine Za (fun _ _=>Tryz.call36 _ _) Tryz.func36 rfl Tryz.ntmps36 (Nat.le_of_ble_eq_true rfl) ?_;simp only [Zd,Nat.reduceAdd]
   repeat' (first|refine uN ?_|(refine uP ?_ ?_<;>(intro h;((try simp only [zs,zq,reduceCtorEq] at h);try exact zx)))|fail)
   all_goals refine fo 3 ?_
   all_goals refine wmP (v:=false) hF (fun es' ck' hF'=>?_)
   all_goals repeat' (first|refine uN ?_|(refine uP ?_ ?_<;>(intro h;((try simp only [zs,zq,reduceCtorEq] at h);try exact zx)))|fail)
   all_goals exact Xb uL ⟨rfl,key es' ck' _ hF'⟩
  | false =>
   simp only [Bool.not_false,Bool.true_and]
   refine Za (fun _ _=>Tryz.call36 _ _) Tryz.func36 rfl Tryz.ntmps36 (Nat.le_of_ble_eq_true rfl) ?_;simp only [Zd,Nat.reduceAdd]
   repeat' (first|refine uN ?_|(refine uP ?_ ?_<;>(intro h;((try simp only [zs,zq,reduceCtorEq] at h);try exact zx)))|fail)
   all_goals refine fo 3 ?_
   all_goals refine wmP (v:=decide (a≠b)) hF (fun es' ck' hF'=>?_)
   all_goals repeat' (first|refine uN ?_|(refine uP ?_ ?_<;>(intro h;((try simp only [zs,zq,reduceCtorEq] at h);try exact zx)))|fail)
   all_goals exact Xb uL ⟨rfl,key es' ck' _ hF'⟩
theorem Zi9 (T:Nat) (E:Nat→Addr) (G:WdG) (M:Wm) (k:Int) (L:Zb) (hG:Er T E [4] L) (hW:WdOk G M) (hl:M.l.length≤100000000) :
  HC Tryz.prog 35 [pt G.wp 0,iv k] (Z9 G M++L) (fun v L'=>v=eV T E (Zb1 M k).2∧Zao G (Zb1 M k).1 L L'):=by
 unfold Zb1
 have hself:=Xo hW L
 have hI:=Uy hW L
 have ka:=Qt T E G M k _ (Xj hG G M) hI
 unfold Znx at *
 by_cases h:k<0∨M.l.length≤k
 ·simp only [if_pos h] at ka ⊢
  generalize Z9 G M++L=H at *
  refine Za (fun _ _=>Tryz.call35 _ _) Tryz.func35 rfl Tryz.ntmps35 (Nat.le_of_ble_eq_true rfl) ?_;simp only [Zd,Nat.reduceAdd]
  repeat' (first|refine uN ?_|refine uC (ka) ?_|(refine uP ?_ ?_<;>(intro h;((try simp only [zs,zq,reduceCtorEq] at h);try exact zx)))|fail)
  all_goals exact U3 rfl ⟨rfl,hself⟩
 ·simp only [if_neg h] at ka ⊢
  have key : ∀ lv lc,Y9 lv (M.l.eraseIdx k.toNat) lc→Zao G { M with l:=M.l.eraseIdx k.toNat } L (Z9 { G with lv:=lv,lc:=lc } { M with l:=M.l.eraseIdx k.toNat }++L):=fun lv lc hv=>Zcz (hW.setL hv) rfl rfl
  have kd:=fun L=>Zaq G.lv M.l G.lc k (k+1) L hW.l hl (by omega) (by omega) rfl
  simp only [Z9,Zan,V1,List.cons_append,List.nil_append] at key ka ⊢
  obtain ⟨a5,cap5,he5,-,-⟩:=hW.l.rd Zl
  rw [he5] at ka kd ⊢
  refine Za (fun _ _=>Tryz.call35 _ _) Tryz.func35 rfl Tryz.ntmps35 (Nat.le_of_ble_eq_true rfl) ?_;simp only [Zd,Nat.reduceAdd]
  repeat' (first|refine uN ?_|refine uC (ka) ?_|(refine uP ?_ ?_<;>(intro h;((try simp only [zs,zq,reduceCtorEq] at h);try exact zx)))|fail)
  refine fo 4 ?_
  refine gc (kd _) ?_
  rintro v L' ⟨c',hv',rfl⟩
  obtain ⟨a6,cap6,rfl,-,-⟩:=hv'.rd Zl
  repeat' (first|refine uN ?_|refine uC (ka) ?_|(refine uP ?_ ?_<;>(intro h;((try simp only [zs,zq,reduceCtorEq] at h);try exact zx)))|fail)
  exact Xb uL ⟨rfl,key _ c' hv'⟩
theorem Zkx (G:WdG) (M:Wm) (L:Zb) (hI:WdIn L G M):HC Tryz.prog 157 [pt G.wp 0] L (fun v L'=>v=iv M.l.length∧L'=L):=by
 have hw:=hI.wp
 unfold V1 at hw
 obtain ⟨a,cap,hlv,-⟩:=hI.ls
 rw [hlv] at hw
 refine Za (fun _ _=>Tryz.call157 _ _) Tryz.func157 rfl Tryz.ntmps157 (Nat.le_of_ble_eq_true rfl) ?_;simp only [Zd,Nat.reduceAdd]
 repeat' (first|refine uN ?_)
 exact U3 rfl ⟨rfl,rfl⟩
theorem Zac (G:WdG) (M:Wm) (L:Zb) (hW:WdOk G M) (hl:M.l.length≤100000000) :
  HC Tryz.prog 22 [pt G.wp 0] (Z9 G M++L) (fun v L' => ∃ c,Y9 v M.l c∧L'=c::(Z9 G M++L)):=by
 have kd:=fun L=>Zgg G.lv M.l G.lc L hW.l hl
 obtain ⟨a5,cap5,he5,-,-⟩:=hW.l.rd Zl
 simp only [Z9,Zan,V1,List.cons_append,List.nil_append]
 rw [he5] at kd ⊢
 refine Za (fun _ _=>Tryz.call22 _ _) Tryz.func22 rfl Tryz.ntmps22 (Nat.le_of_ble_eq_true rfl) ?_;simp only [Zd,Nat.reduceAdd]
 repeat' (first|refine uN ?_)
 refine fo 4 ?_
 refine gc (kd _) ?_
 rintro v L' ⟨c',hv',rfl⟩
 repeat' (first|refine uN ?_)
 exact Xb uL ⟨c',hv',rfl⟩
theorem Zfc (G:WdG) (M:Wm) (L:Zb) (hW:WdOk G M) (hl:M.ev.length≤100000000) :
  HC Tryz.prog 27 [pt G.wp 0] (Z9 G M++L) (fun v L' => ∃ c,Vec 81 3 ec v M.ev c∧L'=c::(Z9 G M++L)):=by
 have kd:=fun L=>Zgf G.ev M.ev G.ec L hW.ev hl
 obtain ⟨a5,cap5,he5,-,-⟩:=hW.ev.rd Wi
 simp only [Z9,Zan,V1,List.cons_append,List.nil_append]
 rw [he5] at kd ⊢
 refine Za (fun _ _=>Tryz.call27 _ _) Tryz.func27 rfl Tryz.ntmps27 (Nat.le_of_ble_eq_true rfl) ?_;simp only [Zd,Nat.reduceAdd]
 repeat' (first|refine uN ?_)
 refine fo 5 ?_
 refine gc (kd _) ?_
 rintro v L' ⟨c',hv',rfl⟩
 repeat' (first|refine uN ?_)
 exact Xb uL ⟨c',hv',rfl⟩
theorem Zhn (T:Nat) (E:Nat→Addr) (G:WdG) (M:Wm) (k:Int) (L:Zb) (hG:Er T E [4] L) (hW:WdOk G M) (hl:M.l.length≤99999999) :
  HC Tryz.prog 88 [pt G.wp 0,iv k] (Z9 G M++L) (fun v L'=>v=eV T E (Qk M k).2∧Zao G (Qk M k).1 L L'):=by
 unfold Qk
 have hself:=Xo hW L
 have hI:=Uy hW L
 have ka:=Qt T E G M k _ (Xj hG G M) hI
 unfold Znx at *
 by_cases h:k<0∨M.l.length≤k
 ·simp only [if_pos h] at ka ⊢
  generalize Z9 G M++L=H at *
  refine Za (fun _ _=>Tryz.call88 _ _) Tryz.func88 rfl Tryz.ntmps88 (Nat.le_of_ble_eq_true rfl) ?_;simp only [Zd,Nat.reduceAdd]
  repeat' (first|refine uN ?_|refine Z8 S ?_|refine Yq S ?_|refine uC (ka) ?_|refine Yy (fun _=>ka) ?_|refine Yz (fun _=>ka) ?_|refine Y0 (fun _=>ka) ?_|refine Y1 (fun _=>ka) ?_|(refine uB ?_;intro b)|(refine uP ?_ ?_<;>(intro h;((try simp only [zs,zq,reduceCtorEq] at h);try exact zx)))|refine da 101 ?_|fail)
  all_goals exact U3 rfl ⟨rfl,hself⟩
 ·simp only [if_neg h] at ka ⊢
  have key : ∀ lv lc,Y9 lv (M.l.take (k+1).toNat++M.l.getD k.toNat Wp::M.l.drop (k+1).toNat) lc→Zao G { M with l:=M.l.take (k+1).toNat++M.l.getD k.toNat Wp::M.l.drop (k+1).toNat } L (Z9 { G with lv:=lv,lc:=lc } { M with l:=M.l.take (k+1).toNat++M.l.getD k.toNat Wp::M.l.drop (k+1).toNat }++L):=fun lv lc hv=>Zcz (hW.setL hv) rfl rfl
  have kd:=fun eb L hne=>Zgr G.lv M.l G.lc (k+1) (M.l.getD k.toNat Wp) eb L hW.l (by omega) (by omega) (by omega) hne
  obtain ⟨a5,cap5,he5,-,hR5⟩:=hW.l.rd Zl
  have hR6:=(hR5 []).mono (L':=Z9 G M++L) fun b o hb=>by
   simp only [Has,Z9,Zan,List.flatten_cons,List.flatten_nil,List.append_nil,List.cons_append,List.nil_append] at hb ⊢
   simp [hb]
  obtain ⟨b,i,l,F,fr,e6,hb,hg⟩:=hR6.at (j:=k) (by omega) (by omega)
  have hgk:M.l[k.toNat]'(by omega)=M.l.getD k.toNat Wp:=by
   rw [List.getD,List.getElem?_eq_getElem (by omega)];rfl
  rw [hgk] at hg
  rw [e6] at he5
  simp only [Z9,Zan,V1,List.cons_append,List.nil_append] at key ka hb ⊢
  rw [he5] at ka kd hb ⊢
  refine Za (fun _ _=>Tryz.call88 _ _) Tryz.func88 rfl Tryz.ntmps88 (Nat.le_of_ble_eq_true rfl) ?_;simp only [Zd,Nat.reduceAdd]
  repeat' (first|refine uN ?_|refine X5 S ?_|refine uC (ka) ?_|refine Yy (fun _=>ka) ?_|refine Yz (fun _=>ka) ?_|refine Y0 (fun _=>ka) ?_|refine Y1 (fun _=>ka) ?_|(refine uB ?_;intro b)|(refine uP ?_ ?_<;>(intro h;((try simp only [zs,zq,reduceCtorEq] at h);try exact zx)))|refine da 101 ?_|fail)
  refine ho_nodup fun hnd=>?_
  refine fo 5 ?_
  refine gc (kd b _ ?_) ?_
  ·intro q o hq hqe
   subst hqe
   rw [List.flatten_cons,List.singleton_append,List.map_cons,List.nodup_cons] at hnd
   refine hnd.1 (List.mem_map.2 ⟨(b,o),?_,rfl⟩)
   simp [hq]
  rintro v L' ⟨c',hv',rfl⟩
  obtain ⟨a6,cap6,rfl,-,-⟩:=hv'.rd Zl
  repeat' (first|refine uN ?_|refine X5 S ?_|refine uC (ka) ?_|refine Yy (fun _=>ka) ?_|refine Yz (fun _=>ka) ?_|refine Y0 (fun _=>ka) ?_|refine Y1 (fun _=>ka) ?_|(refine uB ?_;intro b)|(refine uP ?_ ?_<;>(intro h;((try simp only [zs,zq,reduceCtorEq] at h);try exact zx)))|refine da 101 ?_|fail)
  exact Xb uL ⟨rfl,key _ c' hv'⟩
end Go.HL
end

/-! WgD -/
section
namespace Go.HL
open Go Go.Proofs

theorem mx_mem {l:List Int} (h:l≠[]):mx l∈l:=by
 have key : ∀ (r:List Int) (x:Int),r.foldl max x∈x::r:=by
  intro r
  induction r with
  | nil=>intro x;simp
  | cons y r ih =>
   intro x
   have:=ih (max x y)
   simp only [List.foldl_cons,List.mem_cons] at this ⊢
   rcases this with h|h
   ·rw [h]
    by_cases hc:x≤y
    ·right;left;omega
    ·left;omega
   ·exact .inr (.inr h)
 cases l with
 | nil=>exact absurd rfl h
 | cons x r=>exact key r x
end Go.HL
end

/-! RfW -/
section
namespace Go.HL
open Go Go.Proofs
def cdN':Option Nat→Int
 | none=>0
 | some c=>c
def V8:List Int→Int
 | []=>0
 | x::r=>x+V8 r
theorem Zm5 (l:List Int) (y:Int):V8 (l++[y])=V8 l+y:=by
 induction l with
 | nil=>simp [V8]
 | cons x r ih=>simp only [List.cons_append,V8,ih];omega
theorem Zlj : ∀ (l:List Int),(∀ x∈l,0≤x∧x≤1000)→0≤V8 l∧V8 l≤1000*l.length
 | [],_=>by simp [V8]
 | x::r,h=>by
  have h1:=Zlj r (fun y hy=>h y (by simp [hy]))
  have h2:=h x (by simp)
  simp only [V8,List.length_cons];omega
theorem Zfp : ∀ (l:List Int),(∀ x∈l,0≤x)→(V8 l=0 ↔ ∀ x∈l,x=0)
 | [],_=>by simp [V8]
 | x::r,h=>by
  have h1:=Zfp r (fun y hy=>h y (by simp [hy]))
  have h2:=h x (by simp)
  have h3:0≤V8 r:=by
   have : ∀ (l:List Int),(∀ x∈l,0≤x)→0≤V8 l:=by
    intro l
    induction l with
    | nil=>intro _;simp [V8]
    | cons y l ih=>intro hl;have:=ih (fun z hz=>hl z (by simp [hz]));have:=hl y (by simp);simp only [V8];omega
   exact this r (fun y hy=>h y (by simp [hy]))
  simp only [V8,List.forall_mem_cons,← h1]
  omega
theorem mx_ge : ∀ (l:List Int) (x:Int),x∈l→x≤mx l:=by
 intro l
 have key : ∀ (r:List Int) (m:Int),m≤r.foldl max m ∧ ∀ y∈r,y≤r.foldl max m:=by
  intro r
  induction r with
  | nil=>intro m;simp
  | cons z r ih =>
   intro m
   obtain ⟨h1,h2⟩:=ih (max m z)
   simp only [List.foldl_cons,List.mem_cons]
   refine ⟨by omega,fun y hy=>?_⟩
   rcases hy with rfl|hy
   ·omega
   ·exact h2 y hy
 cases l with
 | nil=>intro x hx;cases hx
 | cons z r =>
  intro x hx
  obtain ⟨h1,h2⟩:=key r z
  simp only [List.mem_cons] at hx
  rcases hx with rfl|hx
  ·exact h1
  ·exact h2 x hx
theorem mx_zero {l:List Int} (h:l≠[]) (h0 : ∀ x∈l,0≤x):mx l=0↔V8 l=0:=by
 rw [Zfp l h0]
 constructor
 ·intro e x hx
  have:=mx_ge l x hx
  have:=h0 x hx
  omega
 ·intro e
  exact e _ (mx_mem h)
set_option maxHeartbeats 2000000 attribute [local irreducible] HW HO HQ HD HC QOp Has Upd Zq Gets Yj Ya Zv Wf Yg Zp Wq Z5
theorem Zam (a:Option Addr) (cap:Nat) (xs:List Int) (L:Zb) (hR:Rd ic 1 L a xs):HC Tryz.prog 15 [.slice a xs.length cap] L (fun v L'=>v=iv (cdN' (Yo xs))∧L'=L):=by
 refine Za (fun _ _=>Tryz.call15 _ _) Tryz.func15 rfl Tryz.ntmps15 (Nat.le_of_ble_eq_true rfl) ?_;simp only [Zd,Nat.reduceAdd]
 repeat' (first|refine uN ?_|(refine uP ?_ ?_<;>(intro h;((try simp only [zs,zq,reduceCtorEq] at h);try exact zx)))|fail)
 ·exact Xb (LS.refl _) ⟨by unfold Yo;rw [if_pos (by omega)],rfl⟩
 ·exact Xb (LS.refl _) ⟨by unfold Yo;rw [if_pos (by omega)],rfl⟩
 refine Z2 (σ:=Nat × Int) (fun q=>[(0,.slice a xs.length cap),(3,iv q.2),(4,iv q.1)]) (fun _=>L) (fun q=>q.1≤xs.length∧V8 (xs.take q.1)=q.2 ∧ ∀ x∈xs.take q.1,0≤x∧x≤1000) (fun q=>xs.length-q.1) (0,0) uS (List.Sublist.refl _) ⟨by simp,by simp [V8],by simp⟩ ?_
 rintro ⟨i,s⟩ ⟨hi,hs,hx⟩
 simp only at hi hs hx ⊢
 have hlen : ¬ (xs.length<1∨7<xs.length):=by omega
 have hb:=Zlj _ hx
 rw [hs,List.length_take] at hb
 by_cases hlt:i<xs.length
 ·obtain ⟨b,ia,l,E,fr,rfl,hb',hg'⟩:=hR.at1 (j:=(i:Int)) (by omega) (by omega)
  have hbad:Zgc xs[i]=true→xs.any Zgc=true:=fun h=>List.any_eq_true.2 ⟨_,List.getElem_mem hlt,h⟩
  have hsn:V8 (xs.take (i+1))=s+xs[i]:=by rw [List.take_succ_eq_append_getElem hlt,Zm5,hs]
  have he:xs[(i:Int).toNat]'(by omega)=xs[i]:=rfl
  rw [he] at hg'
  generalize hxi:xs[i]=x at *
  repeat' (first|refine uN ?_|(refine uP ?_ ?_<;>(intro h;((try simp only [zs,zq,reduceCtorEq] at h);try exact zx)))|fail)
  ·exact Xb (LS.refl _) ⟨by unfold Yo;rw [if_neg hlen,if_pos (hbad (by simp [Zgc];omega))],rfl⟩
  ·exact Xb (LS.refl _) ⟨by unfold Yo;rw [if_neg hlen,if_pos (hbad (by simp [Zgc];omega))],rfl⟩
  ·refine Zi (i+1,s+x) uS (List.Sublist.refl _) ⟨by simp only;omega,hsn,?_⟩ (by simp only;omega)
   simp only
   rw [List.take_succ_eq_append_getElem hlt,hxi]
   intro y hy
   simp only [List.mem_append,List.mem_singleton] at hy
   rcases hy with hy|rfl
   ·exact hx y hy
   ·omega
 ·have e:xs.take i=xs:=List.take_of_length_le (by omega)
  rw [e] at hs hx
  have hne:xs≠[]:=fun e=>hlen (by simp [e])
  have hz:=mx_zero hne (fun x h=>(hx x h).1)
  rw [hs] at hz
  have hnb : ¬ xs.any Zgc=true:=by
   simp only [Bool.not_eq_true,List.any_eq_false,Zgc,decide_eq_true_eq]
   intro x h
   have:=hx x h
   omega
  repeat' (first|refine uN ?_|(refine uP ?_ ?_<;>(intro h;((try simp only [zs,zq,reduceCtorEq] at h);try exact zx)))|fail)
  ·exact Xb (LS.refl _) ⟨by unfold Yo;rw [if_neg hlen,if_neg hnb,if_pos (hz.2 h)],rfl⟩
  ·exact Xb (LS.refl _) ⟨by unfold Yo;rw [if_neg hlen,if_neg hnb,if_neg (fun e=>h (hz.1 e))],rfl⟩
end Go.HL
end

/-! RfA -/
section
namespace Go.HL
open Go Go.Proofs
set_option maxHeartbeats 2000000 attribute [local irreducible] HW HO HQ HD HC QOp Has Upd Zq Gets Yj Ya Zv Wf Yg Zp Wq Z5
theorem Us {α:Type} {xs ys:List α} {i:Nat} (h:i<xs.length) (h':i<ys.length):xs.take (i+1)=ys.take (i+1)↔xs.take i=ys.take i∧xs[i]=ys[i]:=by
 rw [List.take_succ_eq_append_getElem h,List.take_succ_eq_append_getElem h']
 constructor
 ·intro e
  obtain ⟨e1,e2⟩:=List.append_inj e (by simp;omega)
  exact ⟨e1,by simpa using e2⟩
 ·rintro ⟨e1,e2⟩
  rw [e1,e2]
theorem Zef (a a2:Option Addr) (cap cap2:Nat) (xs ys:List Int) (L:Zb) (hR:Rd ic 1 L a xs) (hR2:Rd ic 1 L a2 ys) (hl:xs.length≤1000000) :
  HC Tryz.prog 43 [.slice a xs.length cap,.slice a2 ys.length cap2] L (fun v L'=>v = .bool (decide (xs=ys))∧L'=L):=by
 refine Za (fun _ _=>Tryz.call43 _ _) Tryz.func43 rfl Tryz.ntmps43 (Nat.le_of_ble_eq_true rfl) ?_;simp only [Zd,Nat.reduceAdd]
 repeat' (first|refine uN ?_|refine Z8 S ?_|(refine uP ?_ ?_<;>(intro h;((try simp only [zs,zq,reduceCtorEq] at h);try exact zx)))|fail)
 ·exact Xb (LS.refl _) ⟨by rw [decide_eq_false];intro e;subst e;exact absurd rfl ‹_›,rfl⟩
 refine Z2 (σ:=Nat) (fun i=>[(0,.slice a xs.length cap),(1,.slice a2 ys.length cap2),(5,iv i)]) (fun _=>L) (fun i=>i≤xs.length∧xs.take i=ys.take i) (fun i=>xs.length-i) 0 uS (List.Sublist.refl _) ⟨by omega,by simp⟩ ?_
 rintro i ⟨h1,h2⟩
 by_cases hlt:i<xs.length
 ·obtain ⟨b,ia,l,E,fr,rfl,hb,hg⟩:=hR.at1 (j:=(i:Int)) (by omega) (by omega)
  obtain ⟨b2,ia2,l2,E2,fr2,rfl,hb2,hg2⟩:=hR2.at1 (j:=(i:Int)) (by omega) (by omega)
  repeat' (first|refine uN ?_|refine Z8 S ?_|(refine uP ?_ ?_<;>(intro h;((try simp only [zs,zq,reduceCtorEq] at h);try exact zx)))|fail)
  ·refine Xb (LS.refl _) ⟨?_,rfl⟩
   rw [decide_eq_false]
   intro e
   subst e
   exact h rfl
  ·refine Zi (i+1) uS (List.Sublist.refl _) ⟨by omega,?_⟩ (by omega)
   rw [Us hlt (by omega)]
   exact ⟨h2,by simpa using h⟩
 ·repeat' (first|refine uN ?_|refine Z8 S ?_|(refine uP ?_ ?_<;>(intro h;((try simp only [zs,zq,reduceCtorEq] at h);try exact zx)))|fail)
  refine Xb (LS.refl _) ⟨?_,rfl⟩
  rw [decide_eq_true]
  have e1:xs.take i=xs:=List.take_of_length_le (by omega)
  have e2:ys.take i=ys:=List.take_of_length_le (by omega)
  rw [← e1,h2,e2]
end Go.HL
end

/-! RfF -/
section
namespace Go.HL
open Go Go.Proofs
theorem Fr.ext9 {a b:Fr} (h:a.fr=b.fr∧a.to=b.to∧a.dl=b.dl∧a.kd=b.kd∧a.att=b.att∧a.yes=b.yes∧a.s.ph=b.s.ph∧a.s.pr=b.s.pr∧a.s.att=b.s.att):a=b:=by
 obtain ⟨_,_,_,_,_,_,_,_,_⟩:=a
 obtain ⟨_,_,_,_,_,_,_,_,_⟩:=b
 simp only at h
 obtain ⟨rfl,rfl,rfl,rfl,rfl,rfl,rfl,rfl,rfl⟩:=h
 rfl
set_option maxHeartbeats 2000000 attribute [local irreducible] HW HO HQ HD HC QOp Has Upd Zq Gets Yj Ya Zv Wf Yg Zp Wq Z5
theorem Zbp (a a2:Option Addr) (cap cap2:Nat) (xs ys:List Fr) (L:Zb) (hR:Rd fc 9 L a xs) (hR2:Rd fc 9 L a2 ys) (hl:xs.length≤100000000) :
  HC Tryz.prog 44 [.slice a xs.length cap,.slice a2 ys.length cap2] L (fun v L'=>v = .bool (decide (xs=ys))∧L'=L):=by
 refine Za (fun _ _=>Tryz.call44 _ _) Tryz.func44 rfl Tryz.ntmps44 (Nat.le_of_ble_eq_true rfl) ?_;simp only [Zd,Nat.reduceAdd]
 repeat' (first|refine uN ?_|refine Z8 S ?_|(refine uP ?_ ?_<;>(intro h;((try simp only [zs,zq,reduceCtorEq] at h);try exact zx)))|fail)
 ·exact Xb (LS.refl _) ⟨by rw [decide_eq_false];intro e;subst e;exact absurd rfl ‹_›,rfl⟩
 refine Z2 (σ:=Nat) (fun i=>[(0,.slice a xs.length cap),(1,.slice a2 ys.length cap2),(5,iv i)]) (fun _=>L) (fun i=>i≤xs.length∧xs.take i=ys.take i) (fun i=>xs.length-i) 0 uS (List.Sublist.refl _) ⟨by omega,by simp⟩ ?_
 rintro i ⟨h1,h2⟩
 by_cases hlt:i<xs.length
 ·obtain ⟨b,ia,l,E,fr,rfl,hb,hg⟩:=hR.at (j:=(i:Int)) (by omega) (by omega)
  obtain ⟨b2,ia2,l2,E2,fr2,rfl,hb2,hg2⟩:=hR2.at (j:=(i:Int)) (by omega) (by omega)
  have ex:xs[(i:Int).toNat]'(by omega)=xs[i]:=rfl
  have ey:ys[(i:Int).toNat]'(by omega)=ys[i]'(by omega):=rfl
  rw [ex] at hg
  rw [ey] at hg2
  have hst:=Us (xs:=xs) (ys:=ys) hlt (by omega)
  have hne:xs[i]≠ys[i]'(by omega)→xs≠ys:=fun h e=>h (by subst e;rfl)
  generalize xs[i]=x at *
  generalize ys[i]'(by omega)=y at *
  repeat' (first|refine uN ?_|refine Z8 S ?_|(refine uP ?_ ?_<;>(intro h;((try simp only [zs,zq,reduceCtorEq] at h);try exact zx)))|fail)
  ·refine Xb (LS.refl _) ⟨?_,rfl⟩
   rw [decide_eq_false (hne (fun e=>by subst e;simp at h))]
  ·have e:x=y:=Fr.ext9 (by simpa using h)
   exact Zi (i+1) uS (List.Sublist.refl _) ⟨by omega,hst.2 ⟨h2,e⟩⟩ (by omega)
 ·repeat' (first|refine uN ?_|refine Z8 S ?_|(refine uP ?_ ?_<;>(intro h;((try simp only [zs,zq,reduceCtorEq] at h);try exact zx)))|fail)
  refine Xb (LS.refl _) ⟨?_,rfl⟩
  rw [decide_eq_true]
  have e1:xs.take i=xs:=List.take_of_length_le (by omega)
  have e2:ys.take i=ys:=List.take_of_length_le (by omega)
  rw [← e1,h2,e2]
end Go.HL
end

/-! LdE -/
section
namespace Go.HL
open Go Go.Proofs
set_option maxHeartbeats 2000000 attribute [local irreducible] HW HO HQ HD HC QOp Has Upd Zq Gets Yj Ya Zv Wf Yg Zp Wq Z5
structure LdIs (ws:List Int) (id deal att:Int) (m:Ld):Prop where
 hid:m.id=id
 hdl:m.deal=deal
 hat:m.att=att
 hw:m.w=ws
 htl:m.told.length=7
 hhd:m.heard<2 ^ ws.length
theorem LdIs.ok {w:List Int} {id deal att:Int} {m m':Ld} {wv:Value} {wc:List Zo} (h:LdIs w id deal att m) (h':LdIs w id deal att m') (ho:LdOk wv wc m):LdOk wv wc m':=ho.of (by rw [h.hw,h'.hw]) (by rw [h.htl,h'.htl])
theorem LdIs.done {w:List Int} {id deal att:Int} {m:Ld} (h:LdIs w id deal att m):LdIs w id deal att (Vu m):=⟨h.hid,h.hdl,h.hat,h.hw,h.htl,h.hhd⟩
theorem LdIs.prep {w:List Int} {id deal att:Int} {m:Ld} (h:LdIs w id deal att m) (p:Int):LdIs w id deal att (Q6 m p):=⟨h.hid,h.hdl,h.hat,h.hw,h.htl,Nat.two_pow_pos _⟩
theorem LdIs.m1 {w:List Int} {id deal att:Int} {m:Ld} (h:LdIs w id deal att m) (f:Fr):LdIs w id deal att (Ze7 m f):=by
 unfold Ze7;split
 ·exact h
 ·exact ⟨h.hid,h.hdl,h.hat,h.hw,h.htl,h.hhd⟩
theorem LdIs.m2 {w:List Int} {id deal att:Int} {m:Ld} (h:LdIs w id deal att m) (f:Fr) (hf:W0 m f):LdIs w id deal att (Zdt m f):=by
 have h1:=h.m1 f
 refine ⟨h1.hid,h1.hdl,h1.hat,h1.hw,?_,?_⟩
 ·simp [Zdt,h.htl]
 ·have:=hf.2.2.2.2.2.1
  have:=hf.2.2.2.2.1
  rw [h.hw] at *
  exact Zde h.hhd (by omega)
theorem LdIs.count {w:List Int} {id deal att:Int} {m:Ld} (h:LdIs w id deal att m):LdIs w id deal att (Xf m).1:=by
 unfold Xf
 split
 ·exact h.prep _
 split
 ·exact h
 split
 ·exact h.done
 split
 ·exact h.done
 ·exact h.prep _
theorem LdIs.hear {w:List Int} {id deal att:Int} {m:Ld} (h:LdIs w id deal att m) (f:Fr):LdIs w id deal att (Z7 m f).1:=by
 unfold Z7
 split
 ·exact h
 rename_i hw
 have hf:W0 m f:=by
  by_cases hf:W0 m f
  ·exact hf
  ·exact absurd (.inr hf) hw
 split
 ·unfold noM
  have h1:=h.m1 f
  split
  ·exact h1.done
  ·exact ⟨h1.hid,h1.hdl,h1.hat,h1.hw,h1.htl,h1.hhd⟩
 ·exact (h.m2 f hf).count
theorem Zc1 (m:Ld) (k p:Int):(Zcj m k p).length≤m.w.length:=W1 (Zci m k p) (Zcr m k p) m.w.length
theorem Zat (m:Ld) (f:Fr):(Z7 m f).2.length≤m.w.length:=by
 have e1:(Ze7 m f).w=m.w:=by unfold Ze7;split<;>rfl
 have e2:(Zdt m f).w=m.w:=e1
 unfold Z7
 split
 ·simp
 split
 ·unfold noM
  split
  ·have:=Zc1 (Vu (Ze7 m f)) 7 3
   rw [show (Vu (Ze7 m f)).w=m.w from e1] at this
   exact this
  ·simp
 ·unfold Xf
  have hp : ∀ p,(Zkf (Zdt m f) p).2.length≤m.w.length:=fun p=>by
   have:=Zc1 (Q6 (Zdt m f) p) 5 p
   rw [show (Q6 (Zdt m f) p).w=m.w from e1] at this
   exact this
  have hd : ∀ p,(Zc7 (Zdt m f) p).2.length≤m.w.length:=fun p=>by
   have:=Zc1 (Vu (Zdt m f)) 7 p
   rw [show (Vu (Zdt m f)).w=m.w from e1] at this
   exact this
  split
  ·exact hp _
  split
  ·simp
  split
  ·exact hd _
  split
  ·exact hd _
  ·exact hp _
end Go.HL
end

/-! WoI -/
section
namespace Go.HL
open Go Go.Proofs
def Zd1 (n:Nat) (f:Fr):Prop := ¬ Wg f∧f.to<n∧f.fr<n
theorem SI.eq {m:Pl} {j:Jn} (h:SI m j):j=⟨Zt m.b,m.off⟩:=by
 obtain ⟨l,d⟩:=j
 have h1:d=m.off:=h.ji.off
 have h2:l=Zt m.b:=h.ji.l
 rw [h1,h2]
theorem allM_mem {m:Ld} {k p:Int} {f:Fr} (h:f∈Zcj m k p) : ∃ i,i<m.w.length∧f=⟨m.id,i,m.deal,k,m.att,false,⟨p,0,0⟩⟩∧(k≠3∨(i:Int)≠m.id):=by
 unfold Zcj at h
 obtain ⟨i,hi,hf⟩:=List.mem_flatMap.1 h
 unfold Zci at hf
 split at hf
 ·rename_i hc
  simp at hf
  exact ⟨i,List.mem_range.1 hi,hf,hc⟩
 ·cases hf
theorem Zap {w:List Int} {s d:Nat} {m:Ld} (hi:LdI w s d m) (hs:s<w.length) (hw:w.length≤7) (hd:d<6) {k p:Int} (hk:1≤k∧k≤7) (hp:0≤p∧p≤5) : ∀ f∈Zcj m k p,Zd1 w.length f:=by
 intro f hf
 obtain ⟨i,h1,rfl,-⟩:=allM_mem hf
 rw [hi.ww] at h1
 have e1:=hi.id
 have e2:=hi.deal
 have e3:=hi.att0
 have e4:=hi.att1
 unfold Zd1 Wg
 simp only
 omega
theorem LdI.is {w:List Int} {s d:Nat} {x:Ld} (h:LdI w s d x):LdIs w s d x.att x:=⟨h.id,h.deal,rfl,h.ww,h.told,h.heard⟩
theorem LdI.of {w:List Int} {s d:Nat} {x y:Ld} (h:LdI w s d x) (hy:LdIs w s d x.att y) (ht : ∀ t∈y.told,0≤t.ph∧t.ph≤5) (hp:0≤y.phase∧y.phase≤5) (hs:0≤y.seen∧y.seen≤1048576):LdI w s d y:=
 ⟨hy.hw,hy.hid,hy.hdl,by rw [hy.hat];exact h.att0,by rw [hy.hat];exact h.att1,hy.htl,ht,hy.hhd,hp.1,hp.2,hs.1,hs.2⟩
theorem LdI.done {w:List Int} {s d:Nat} {x:Ld} (h:LdI w s d x):LdI w s d (Vu x):=h.of h.is.done h.tok ⟨h.ph0,h.ph1⟩ ⟨h.seen0,h.seen1⟩
theorem LdI.prep {w:List Int} {s d:Nat} {x:Ld} (h:LdI w s d x) {p:Int} (hp:0≤p∧p≤5):LdI w s d (Q6 x p):=h.of (h.is.prep p) h.tok hp ⟨h.seen0,h.seen1⟩
theorem LdI.m1 {w:List Int} {s d:Nat} {x:Ld} (h:LdI w s d x) {f:Fr} (hf : ¬ Wg f):LdI w s d (Ze7 x f):=by
 refine h.of (h.is.m1 f) ?_ ?_ ?_
 ·unfold Ze7;split<;>exact h.tok
 ·unfold Ze7;split<;>exact ⟨h.ph0,h.ph1⟩
 ·have h1:=h.seen0
  have h2:=h.seen1
  unfold Wg at hf
  unfold Ze7
  split
  ·exact ⟨h1,h2⟩
  ·simp only
   omega
theorem LdI.m2 {w:List Int} {s d:Nat} {x:Ld} (h:LdI w s d x) {f:Fr} (hf : ¬ Wg f) (hfit:W0 x f):LdI w s d (Zdt x f):=by
 have h1:=h.m1 hf
 refine h.of (h.is.m2 f hfit) ?_ ⟨h1.ph0,h1.ph1⟩ ⟨h1.seen0,h1.seen1⟩
 intro t ht
 unfold Zdt at ht
 rcases List.mem_or_eq_of_mem_set ht with h2|h2
 ·exact h.tok t h2
 ·subst h2
  unfold Wg at hf
  omega
theorem Zmb (p:Int):0≤W4 p∧W4 p≤5:=by unfold W4;split<;>(try split)<;>omega
theorem Zc5 (xs:List St):0≤(Yv xs).1∧(Yv xs).1≤5:=by
 unfold Yv
 split
 ·simp
 split
 ·simp
 split<;>simp
theorem LdI.count {w:List Int} {s d:Nat} {x:Ld} (h:LdI w s d x) (hs:s<w.length) (hw:w.length≤7) (hd:d<6):LdI w s d (Xf x).1 ∧ ∀ f∈(Xf x).2,Zd1 w.length f:=by
 have hpre : ∀ p,0≤p∧p≤5→LdI w s d (Zkf x p).1 ∧ ∀ f∈(Zkf x p).2,Zd1 w.length f:=fun p hp=>⟨h.prep hp,Zap (h.prep hp) hs hw hd (by omega) hp⟩
 have hdec : ∀ p,0≤p∧p≤5→LdI w s d (Zc7 x p).1 ∧ ∀ f∈(Zc7 x p).2,Zd1 w.length f:=fun p hp=>⟨h.done,Zap h.done hs hw hd (by omega) hp⟩
 unfold Xf
 split
 ·exact hpre 4 (by omega)
 split
 ·exact ⟨h,fun f hf=>by cases hf⟩
 split
 ·exact hdec _ (Zmb _)
 split
 ·exact hdec _ (Zc5 _)
 ·exact hpre _ (Zc5 _)
theorem LdI.hear {w:List Int} {s d:Nat} {x:Ld} (h:LdI w s d x) (hs:s<w.length) (hw:w.length≤7) (hd:d<6) {f:Fr} (hf : ¬ Wg f):LdI w s d (Z7 x f).1 ∧ ∀ g∈(Z7 x f).2,Zd1 w.length g:=by
 unfold Z7
 split
 ·exact ⟨h,fun g hg=>by cases hg⟩
 rename_i hwt
 have hfit:W0 x f:=by
  by_cases hfit:W0 x f
  ·exact hfit
  ·exact absurd (.inr hfit) hwt
 split
 ·unfold noM
  have h1:=h.m1 hf
  split
  ·exact ⟨h1.done,Zap h1.done hs hw hd (by omega) (by omega)⟩
  ·exact ⟨⟨h1.ww,h1.id,h1.deal,h1.att0,h1.att1,h1.told,h1.tok,h1.heard,h1.ph0,h1.ph1,h1.seen0,h1.seen1⟩,fun g hg=>by cases hg⟩
 ·exact (h.m2 hf hfit).count hs hw hd
theorem Zg0 {w:List Int} {s d:Nat} {a k:Int} (h0:0≤a) (h1:a≤1048576):LdI w s d (Zh s d w a k):=
 ⟨rfl,rfl,rfl,h0,h1,rfl,fun t ht=>by
  rw [List.mem_replicate.1 ht |>.2]
  simp [Wu],Nat.two_pow_pos _,by simp [Zh],by simp [Zh],by simp [Zh],by simp [Zh]⟩
theorem Zf7 {w:List Int} {s d:Nat} {m:Ld} (hi:LdI w s d m) (hs:s<w.length) (hw:w.length≤7) (hd:d<6) : ∀ f∈Xd m,Zd1 w.length f:=by
 unfold Xd
 split
 ·exact Zap hi hs hw hd (by omega) (by omega)
 ·exact Zap hi hs hw hd (by omega) (by omega)
theorem WI.set {M:Wm} (h:WI M) {s:Int} {m:Nd} (h0:0≤s) (hm:NdI M.w s.toNat m):WI (Yp M s m):=by
 refine ⟨h.w0,h.wl,h.w1,by simp [Yp,h.wn],h.fr,h.evl,fun q x hx=>?_⟩
 simp only [Yp,List.getElem?_set] at hx
 by_cases hq:s.toNat=q
 ·rw [if_pos hq] at hx
  split at hx
  ·cases hx
   rw [← hq]
   exact hm
  ·cases hx
 ·rw [if_neg hq] at hx
  exact h.nd q x hx
theorem WI.setL {M:Wm} (h:WI M) {l:List Fr} (hl : ∀ f∈l,Zd1 M.w.length f):WI { M with l:=l }:=⟨h.w0,h.wl,h.w1,h.wn,hl,h.evl,h.nd⟩
theorem WI.setE {M:Wm} (h:WI M) {l:List Evt} (hl:l.length≤500):WI { M with ev:=l }:=⟨h.w0,h.wl,h.w1,h.wn,h.fr,hl,h.nd⟩
theorem WI.setB {M:Wm} (h:WI M) (f:Int × Int→Bool):WI { M with br:=f }:=⟨h.w0,h.wl,h.w1,h.wn,h.fr,h.evl,h.nd⟩
theorem WI.erase {M:Wm} (h:WI M) (k:Nat):WI { M with l:=M.l.eraseIdx k }:=h.setL fun f hf=>h.fr f (List.mem_of_mem_eraseIdx hf)
theorem Zft (s:Int) (m:Nd) (ev:List Evt):(Wt s m ev).1.length=m.done.length:=by
 unfold Wt
 split
 ·rfl
 ·exact Zbj 6
theorem Zin (s:Int) (m:Nd) (ev:List Evt) (h:ev.length≤500):(Wt s m ev).2.length≤500:=by
 unfold Wt
 split
 ·exact h
 ·exact Zdz h 6
theorem NdI.fall {w:List Int} {s:Nat} {m:Nd} (h:NdI w s m) {pl:Pl} (hb:pl.b.length=512) (hsi:SI pl ⟨Zt pl.b,pl.off⟩) (hoff:pl.off=true):NdI w s ⟨pl,none,noLeads,m.done⟩:=
 ⟨by simp [noLeads],h.done,hb,hsi,fun j ref hs=>(by cases hs),fun _=>hoff,fun d x hx=>(by
  simp only [noLeads,List.getElem?_replicate] at hx
  split at hx<;>cases hx)⟩
theorem NdI.lead {w:List Int} {s:Nat} {m:Nd} (h:NdI w s m) {d:Nat} {x:Ld} (hx:LdI w s d x):NdI w s { m with leads:=m.leads.set d (some x) }:=by
 refine ⟨by simp [h.leads],h.done,h.b512,h.si,h.up,h.dn,fun q y hy=>?_⟩
 simp only [List.getElem?_set] at hy
 by_cases hq:d=q
 ·rw [if_pos hq] at hy
  split at hy
  ·cases hy
   rw [← hq]
   exact hx
  ·cases hy
 ·rw [if_neg hq] at hy
  exact h.ldi q y hy
theorem Zne {n:Nat} {s:Nat} {f:Fr} {ref:Int→Bool} {st:St} (hs:s<n) (hn:n≤7) (hf : ¬ Wg f) (hfr:f.fr<n) (hst:Zkr st) (hk:(Yi ref f st).2.1≠0):Zd1 n ⟨s,f.fr,f.dl,(Yi ref f st).2.1,f.att,(Yi ref f st).2.2,(Yi ref f st).1⟩:=by
 obtain ⟨⟨g1,g2,g3,g4,g5⟩,-⟩:=Zl3 (ref:=ref) hst hf
 have hk7:(Yi ref f st).2.1=0∨(Yi ref f st).2.1=2∨(Yi ref f st).2.1=4∨(Yi ref f st).2.1=6:=by
  unfold Yi
  split
  ·simp
  split
  ·simp
  split
  ·split
   ·simp
   ·split<;>simp
  split<;>simp
 unfold Zd1 Wg at *
 simp only
 omega
theorem NdI.hear {w:List Int} {s:Nat} {m:Nd} (h:NdI w s m) (hs:s<w.length) (hw:w.length≤7) (ev:List Evt) (hev:ev.length≤500) {f:Fr} (hfr:f.fr<w.length) :
  NdI w s (W5 s m ev f).1∧(W5 s m ev f).2.1.length≤500 ∧ ∀ g∈(W5 s m ev f).2.2.1,Zd1 w.length g:=by
 unfold W5
 cases hsi:m.site with
 | none=>exact ⟨h,hev,fun g hg=>by cases hg⟩
 | some q =>
  obtain ⟨j,ref⟩:=q
  simp only
  have hS:=h.jn hsi
  obtain ⟨a1,a2,a3,a4⟩:=Ziy (id:=(s:Int)) (ref:=ref) hS f
  generalize hr:Zy s ref m.pl j f=r at *
  obtain ⟨pl',j',fs,er⟩:=r
  simp only at a1 a2 a3 a4 ⊢
  have hj':=a1.eq
  have hb:pl'.b.length=512:=by rw [a2];exact h.b512
  split
  ·rename_i hoff
   exact ⟨h.fall hb (hj'▸a1) hoff,hev,fun g hg=>by cases hg⟩
  ·rename_i hoff
   have hoff':pl'.off=false:=by simpa using hoff
   refine ⟨⟨h.leads,by rw [Zft];exact h.done,hb,hj'▸a1,fun j2 r2 e=>?_,fun e=>(by cases e),h.ldi⟩,Zin _ _ _ hev,?_⟩
   ·cases e
    rw [hj']
    exact ⟨by rw [hoff'],hoff'⟩
   ·intro g hg
    rcases a4 with a4|⟨b1,b2,b3,b4,b5,b6,b7⟩
    ·rw [a4] at hg;cases hg
    ·rw [b7] at hg
     simp only [List.mem_singleton] at hg
     subst hg
     unfold Wg at b1
     exact Zne hs hw (by unfold Wg;exact b1) hfr (hS.st f.dl.toNat (by omega)) b4
theorem WI.hear {M:Wm} (h:WI M) {s:Int} (h0:0≤s) (h1:s<M.n.length) {f:Fr} (hfr:f.fr<M.w.length):WI (Xe M s f).1 ∧ ∀ g∈(Xe M s f).2.1,Zd1 M.w.length g:=by
 have hn:=h.wn
 have hx:=h.nd s.toNat (Zf M s) (getD_some (by omega))
 have e:((s.toNat:Nat):Int)=s:=by omega
 have key:=hx.hear (by omega) h.wl M.ev h.evl hfr
 rw [e] at key
 obtain ⟨k1,k2,k3⟩:=key
 exact ⟨(h.set h0 k1).setE k2,k3⟩
theorem Zbf {w:List Int} {s d:Nat} (hs:s<w.length) (hw:w.length≤7) (hd:d<6) : ∀ (l:List Fr) (x:Ld) (acc:List Fr),LdI w s d x→(∀ f∈l,Zd1 w.length f)→(∀ f∈acc,Zd1 w.length f) →
  LdI w s d (l.foldl (fun q f=>((Z7 q.1 f).1,q.2++(Z7 q.1 f).2)) (x,acc)).1 ∧ ∀ f∈(l.foldl (fun q f=>((Z7 q.1 f).1,q.2++(Z7 q.1 f).2)) (x,acc)).2,Zd1 w.length f
 | [],x,acc,hx,_,ha=>⟨hx,ha⟩
 | f::l,x,acc,hx,hl,ha=>by
  rw [List.foldl_cons]
  obtain ⟨k1,k2⟩:=hx.hear hs hw hd (hl f (by simp)).1
  refine Zbf hs hw hd l _ _ k1 (fun g hg=>hl g (by simp [hg])) fun g hg=>?_
  rcases List.mem_append.1 hg with hg|hg
  ·exact ha g hg
  ·exact k2 g hg
end Go.HL
end
