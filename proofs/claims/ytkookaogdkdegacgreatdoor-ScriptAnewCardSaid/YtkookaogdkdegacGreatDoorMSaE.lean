/- Texts laid into one, without what the claim does not use. Conditions: none. -/
import Derived.Test.YtkookaogdkdegacGreatDoorMSaD
set_option linter.unusedVariables false
set_option linter.unusedSimpArgs false
/-! LdB -/
section
namespace Go.HL
open Go Go.Proofs
theorem Rd.inn {α:Type} {enc:α→List Value} {sz:Nat} {L:Zb} {c:List Zm} {a:Option Addr} {xs:List α} (e:Zm) (h:Rd enc sz (c::L) a xs):Rd enc sz ((e::c)::L) a xs:=by
 rcases h with h|⟨b,i,l,E,fr,h1,h2,h3⟩
 ·exact .inl h
 ·exact .inr ⟨b,i,l,E,fr,h1,Xq h2,h3⟩
theorem bit_iff0 (n k:Nat):(((((n:Int) / 2 ^ k).toNat &&& Int.toNat 1:Nat):Int)=0)↔n / 2 ^ k % 2=0:=by
 have e:((n:Int) / 2 ^ k).toNat=n / 2 ^ k:=by
  have:((n:Int) / 2 ^ k)=((n / 2 ^ k:Nat):Int):=by simp
  rw [this];rfl
 rw [e,show Int.toNat 1=1 from rfl,Nat.and_one_is_mod]
 omega
def Vm (m:Ld) (f:Fr):Prop:=f.kd=m.wait∧f.dl=m.deal∧f.att=m.att∧f.to=m.id∧0≤f.fr∧f.fr<m.w.length∧m.heard / 2 ^ f.fr.toNat % 2=0
instance (m:Ld) (f:Fr):Decidable (Vm m f):=by unfold Vm;infer_instance
def Zjq (m:Ld) (i:Nat):List St:=if m.heard / 2 ^ i % 2=1 then [m.told.getD i W2] else []
def W8 (m:Ld):List St:=(List.range m.w.length).flatMap (Zjq m)
def Zg4 (m:Ld) (f:Fr):Ld:=if f.kd=2 then m else { m with seen:=max m.seen f.s.pr }
def Zfs (m:Ld) (f:Fr):Ld:={ Zg4 m f with heard:=m.heard ||| 2 ^ f.fr.toNat,told:=m.told.set f.fr.toNat f.s }
def Ze7 (m:Ld) (p:Int):Ld × List Fr:=(Ul m,Zeg (Ul m) 7 p)
def Zn8 (m:Ld) (p:Int):Ld × List Fr:=(Zbn m p,Zeg (Zbn m p) 5 p)
def Xl (m:Ld):Ld × List Fr:=
 if m.wait=2∧m.heard=2 ^ m.w.length-1 then Zn8 m 4 else
 if m.wait=2∨(Xu m.w m.heard).1=false then (m,[]) else
 if m.wait=6 then Ze7 m (Vr m.phase) else
 if (Y8 (W8 m)).2 then Ze7 m (Y8 (W8 m)).1 else Zn8 m (Y8 (W8 m)).1
def Yf (m:Ld) (f:Fr):Ld × List Fr:=
 if m.wait=0 ∨ ¬ Vm m f then (m,[]) else
 if f.yes=false then noM (Zg4 m f) else Xl (Zfs m f)
theorem Zah (f:Nat→List St) (i:Nat):(List.range (i+1)).flatMap f=(List.range i).flatMap f++f i:=by
 rw [List.range_succ,List.flatMap_append];simp
theorem Qk (f:Nat→List St) (hf : ∀ i,(f i).length≤1) : ∀ i,((List.range i).flatMap f).length≤i
 | 0=>by simp
 | i+1=>by rw [Zah,List.length_append];have:=Qk f hf i;have:=hf i;omega
theorem Zp4 (m:Ld) (i:Nat):(Zjq m i).length≤1:=by unfold Zjq;split<;>simp
theorem Zfg {a:Nat} {k n:Nat} (h:a<2 ^ n) (hk:k<n):a ||| 2 ^ k<2 ^ n:=Nat.or_lt_two_pow h (Nat.pow_lt_pow_right (by decide) hk)
set_option maxHeartbeats 2000000 attribute [local irreducible] HW HO HQ HD HC QOp Has Upd Zo Gets Ye Z6 Zq X0 Z5 Zj X7 Zw
attribute [local irreducible] Y5
theorem Zjr (lp:Nat) (wv:Value) (wc:List Zm) (m:Ld) (L:Zb) (hm:LdOk wv wc m) (hh:m.heard<128):HC Tryz.prog 133 [pt lp 0] (Vs lp wv wc m::L)
  (fun v L' => ∃ c,Vec 43 3 sc v (W8 m) c∧L'=c::Vs lp wv wc m::L):=by
 obtain ⟨a,cap,rfl,hcap,hR⟩:=hm.vec.rd Xi
 have hlen:=hm.len
 have htl:=hm.told
 generalize hwv:Value.slice a m.w.length cap=wv at *
 have g3:(Y5 wv m)[0+3]? = some (.slice a m.w.length cap):=by rw [hwv];exact Yt rfl
 have g6:(Y5 wv m)[0+6]? = some (iv m.heard):=Yt rfl
 refine Za (fun _ _=>Tryz.call133 _ _) Tryz.func133 rfl Tryz.ntmps133 (Nat.le_of_ble_eq_true rfl) ?_;simp only [Ze,Nat.reduceAdd]
 repeat' (first|refine uN ?_|(refine uB ?_;intro b)|(refine uP ?_ ?_<;>(intro h;((try simp only [zs,zq,reduceCtorEq] at h);try exact zx)))|fail)
 refine Zpk ?_
 refine Zz (σ:=Nat × Value × List Zm) (fun q=>[(0,pt lp 0),(3,q.2.1),(9,iv m.w.length),(10,iv q.1)]) (fun q=>q.2.2::Vs lp wv wc m::L) (fun q=>q.1≤m.w.length∧Vec 43 3 sc q.2.1 ((List.range q.1).flatMap (Zjq m)) q.2.2) (fun q=>m.w.length-q.1) (0,Wn,[]) uS (List.Sublist.refl _) ⟨by simp,Yg⟩ ?_
 rintro ⟨i,v,c⟩ ⟨hi,hv⟩
 simp only at hi hv ⊢
 have hle:=Qk (Zjq m) (Zp4 m) i
 by_cases hlt:i<m.w.length
 ·have hb1:=Zna m.heard (i:Int).toNat (by omega)
  have hb2:=Zo3 m.heard (i:Int).toNat
  have ht:m.told[i]? = some (m.told.getD i W2):=by rw [List.getD,List.getElem?_eq_getElem (by omega)];rfl
  have gt:=ld_told (wv:=wv) ht
  by_cases hbit:m.heard / 2 ^ i % 2=1
  ·have e:Zjq m i=[m.told.getD i W2]:=if_pos hbit
   have hb3:=hb2.2 hbit
   repeat' (first|refine uN ?_|refine Z0 S ?_|(refine uB ?_;intro b)|(refine uP ?_ ?_<;>(intro h;((try simp only [zs,zq,reduceCtorEq] at h);try exact zx)))|refine da 101 ?_|fail)
   refine fo 1 ?_
   refine wp1 S (m.told.getD i W2) hv Zdg sc_one ?_
   intro v' c' hv'
   repeat' (first|refine uN ?_|refine Z0 S ?_|(refine uB ?_;intro b)|(refine uP ?_ ?_<;>(intro h;((try simp only [zs,zq,reduceCtorEq] at h);try exact zx)))|refine da 101 ?_|fail)
   refine Zp (i+1,v',c') uS (.cons_cons _ (.cons _ (.refl _))) ⟨by simp only;omega,?_⟩ (by simp only;omega)
   simp only
   rw [Zah,e]
   exact hv'
  ·have e:Zjq m i=[]:=if_neg hbit
   have hb3 : ¬ _:=fun h=>hbit (hb2.1 h)
   repeat' (first|refine uN ?_|refine Z0 S ?_|(refine uB ?_;intro b)|(refine uP ?_ ?_<;>(intro h;((try simp only [zs,zq,reduceCtorEq] at h);try exact zx)))|refine da 101 ?_|fail)
   refine Zp (i+1,v,c) uS (List.Sublist.refl _) ⟨by simp only;omega,?_⟩ (by simp only;omega)
   simp only
   rw [Zah,e,List.append_nil]
   exact hv
 ·repeat' (first|refine uN ?_|refine Z0 S ?_|(refine uB ?_;intro b)|(refine uP ?_ ?_<;>(intro h;((try simp only [zs,zq,reduceCtorEq] at h);try exact zx)))|refine da 101 ?_|fail)
  have hi2:i=m.w.length:=by omega
  subst hi2
  exact Xn (LS.refl _) ⟨c,hv,rfl⟩
theorem Zby (lp:Nat) (wv:Value) (wc:List Zm) (m:Ld) (f:Fr) (L:Zb) (hm:LdOk wv wc m) (hh:m.heard<128):HC Tryz.prog 126 [pt lp 0,.agg ⟨fc f⟩] (Vs lp wv wc m::L)
  (fun v L'=>v = .bool (decide (Vm m f))∧L'=Vs lp wv wc m::L):=by
 obtain ⟨a,cap,rfl,hcap,hR⟩:=hm.vec.rd Xi
 have hlen:=hm.len
 generalize hwv:Value.slice a m.w.length cap=wv at *
 have g0:(Y5 wv m)[0+0]? = some (iv m.id):=Yt rfl
 have g1:(Y5 wv m)[0+1]? = some (iv m.deal):=Yt rfl
 have g2:(Y5 wv m)[0+2]? = some (iv m.att):=Yt rfl
 have g3:(Y5 wv m)[0+3]? = some (.slice a m.w.length cap):=by rw [hwv];exact Yt rfl
 have g5:(Y5 wv m)[0+5]? = some (iv m.wait):=Yt rfl
 have g6:(Y5 wv m)[0+6]? = some (iv m.heard):=Yt rfl
 have hb1:=Zna m.heard f.fr.toNat (by omega)
 have hb2:=bit_iff0 m.heard f.fr.toNat
 refine Za (fun _ _=>Tryz.call126 _ _) Tryz.func126 rfl Tryz.ntmps126 (Nat.le_of_ble_eq_true rfl) ?_;simp only [Ze,Nat.reduceAdd]
 repeat' (first|refine uN ?_|refine Yd S ?_|(refine uB ?_;intro b)|(refine uP ?_ ?_<;>(intro h;((try simp only [zs,zq,reduceCtorEq] at h);try exact zx)))|fail)
 all_goals refine Xn (LS.skip _ (LS.refl _)) ⟨congrArg Value.bool ?_,rfl⟩
 all_goals first
  | (refine (decide_eq_false (fun h=>?_)).symm;obtain ⟨h1,h2,h3,h4,h5,h6,h7⟩:=h;omega)
  | (refine decide_eq_decide.2 ⟨fun h=>⟨?_,?_,?_,?_,?_,?_,hb2.1 h⟩,fun h=>hb2.2 h.2.2.2.2.2.2⟩<;>assumption)
theorem Zq8 {m:Ld} {f:Fr} (h:m.wait=0 ∨ ¬ Vm m f):Yf m f=(m,[]):=if_pos h
theorem LdOk.m1 {wv:Value} {wc:List Zm} {m:Ld} (h:LdOk wv wc m) (f:Fr):LdOk wv wc (Zg4 m f):=by
 unfold Zg4;split
 ·exact h
 ·exact h.of rfl rfl
theorem LdOk.m2 {wv:Value} {wc:List Zm} {m:Ld} (h:LdOk wv wc m) (f:Fr):LdOk wv wc (Zfs m f):=by
 refine h.of ?_ ?_
 ·unfold Zfs Zg4;split<;>rfl
 ·simp [Zfs]
theorem Zdv {m:Ld} {f:Fr} (h:Vm m f):0≤f.fr∧f.fr<m.w.length∧f.kd=m.wait:=⟨h.2.2.2.2.1,h.2.2.2.2.2.1,h.1⟩
theorem or_int (a k:Nat):(((a:Int).toNat ||| ((1:Int)*2 ^ (k:Int).toNat).toNat:Nat):Int)=((a ||| 2 ^ k:Nat):Int):=by
 have:((1:Int)*2 ^ (k:Int).toNat)=((2 ^ k:Nat):Int):=by simp
 rw [this];rfl
theorem or_ok {a k:Nat} (ha:a<128) (hk:k<7):0≤(a:Int)∧(a:Int)≤Q5 .i64∧0≤(1:Int)*2 ^ (k:Int).toNat∧(1:Int)*2 ^ (k:Int).toNat≤Q5 .i64:=by
 have e:((1:Int)*2 ^ (k:Int).toNat)=((2 ^ k:Nat):Int):=by simp
 have:2 ^ k<2 ^ 7:=Nat.pow_lt_pow_right (by decide) hk
 rw [e]
 simp only [Q5]
 generalize 2 ^ k=q at *
 omega
theorem full_int (n:Nat):((1:Int)*2 ^ (n:Int).toNat-1)=((2 ^ n-1:Nat):Int):=by
 have e:((1:Int)*2 ^ (n:Int).toNat)=((2 ^ n:Nat):Int):=by simp
 have:=Nat.two_pow_pos n
 rw [e];generalize 2 ^ n=q at *;omega
theorem shl_le {n:Nat} (h:n≤7):1≤(1:Int)*2 ^ (n:Int).toNat∧(1:Int)*2 ^ (n:Int).toNat≤128:=by
 have e:((1:Int)*2 ^ (n:Int).toNat)=((2 ^ n:Nat):Int):=by simp
 have:=Nat.two_pow_pos n
 have:2 ^ n≤2 ^ 7:=Nat.pow_le_pow_right (by decide) h
 rw [e];generalize 2 ^ n=q at *;omega
end Go.HL
end

/-! LdC -/
section
namespace Go.HL
open Go Go.Proofs
set_option maxHeartbeats 2000000 attribute [local irreducible] HW HO HQ HD HC QOp Has Upd Zo Gets Ye Z6 Zq X0 Z5 Zj X7 Zw
attribute [local irreducible] Y5
theorem Zis (T:Nat) (E:Nat→Addr) (lp:Nat) (wv:Value) (wc:List Zm) (m:Ld) (f:Fr) (L:Zb) (hG:Er T E [2,3,4] L) (hm:LdOk wv wc m) (hh:m.heard<2 ^ m.w.length) (hw:m.wait≠0) (hfit:Vm m f) (hy:f.yes=true) (hkd:f.kd=2) :
  HC Tryz.prog 74 [pt lp 0,.agg ⟨fc f⟩] (Vs lp wv wc m::L) (fun v L' => ∃ c,Xs v (Xl (Zfs m f)).2 c∧L'=c::Vs lp wv wc (Xl (Zfs m f)).1::L):=by
 have hm2:=hm.m2 f
 have hlen:=hm.len
 have htl:=hm.told
 have hh7:m.heard<128:=Nat.lt_of_lt_of_le hh (Nat.pow_le_pow_right (by decide) hlen)
 have kf : ∀ L,_:=fun L=>Zby lp wv wc m f L hm hh7
 obtain ⟨a,cap,rfl,hcap,hR⟩:=hm.vec.rd Xi
 generalize hwv:Value.slice a m.w.length cap=wv at *
 obtain ⟨hfr,hfr2,hk0⟩:=Zdv hfit
 rw [decide_eq_true hfit] at kf
 clear hfit
 obtain ⟨fr,to,dl0,kd,att,yes,s⟩:=f
 simp only at hy hfr hfr2 hkd hk0
 subst hy hkd
 obtain ⟨k,rfl⟩:=Int.eq_ofNat_of_zero_le hfr
 have hk7:k<m.w.length:=by omega
 generalize hM:Zfs m ⟨k,to,dl0,2,att,true,s⟩=M at *
 have eM:M={ m with heard:=m.heard ||| 2 ^ k,told:=m.told.set k s }:=by rw [← hM];rfl
 have e1:M.w=m.w:=by rw [eM]
 have e2:M.wait=2:=by rw [eM];exact hk0.symm
 have e3:M.heard<128:=by rw [eM];exact Zfg (n:=7) hh7 (by omega)
 have g3:(Y5 wv M)[0+3]? = some (.slice a m.w.length cap):=by rw [hwv];exact Yt rfl
 have g5:(Y5 wv m)[0+5]? = some (iv m.wait):=Yt rfl
 have g5':(Y5 wv M)[0+5]? = some (iv 2):=by rw [← e2];exact Yt rfl
 have g6:(Y5 wv m)[0+6]? = some (iv m.heard):=Yt rfl
 have g6':(Y5 wv M)[0+6]? = some (iv M.heard):=Yt rfl
 have p6:Zo (Y5 wv m) (0+6) [iv (((m.heard:Int).toNat ||| ((1:Int)*2 ^ (k:Int).toNat).toNat:Nat):Int)] (Y5 wv { m with heard:=m.heard ||| 2 ^ k }):=by
  rw [or_int];exact Vz rfl (by decide) rfl rfl rfl
 have pT:Zo (Y5 wv { m with heard:=m.heard ||| 2 ^ k }) (0+7+(k:Int).toNat*3) (sc s) (Y5 wv M):=by
  rw [eM];exact Zpn (m:={ m with heard:=m.heard ||| 2 ^ k }) s (by show k<m.told.length;omega)
 have hsh:=Zet (k:=k) (by omega)
 have hor:=or_ok hh7 (show k<7 by omega)
 have hsh2:=Zet (k:=m.w.length) (by omega)
 have hsh3:=shl_le hlen
 have hfull:=full_int m.w.length
 have ke : ∀ b o,HC Tryz.prog 128 [.slice a m.w.length cap,iv M.heard] ([(b,o)]::Vs lp wv wc M::L) (fun v L'=>v = .tuple ⟨[.bool (Xu m.w M.heard).1,eV T E (Xu m.w M.heard).2]⟩∧L'=[(b,o)]::Vs lp wv wc M::L):=fun b o =>
  Zcb T E a cap m.w M.heard _ ((hG.cons _).cons _) (((hR L).inn _).cons _) (by omega) (by omega)
 have kp:=Zbo lp wv wc M 4
 have hc1:M.heard=2 ^ M.w.length-1→Xl M=Zn8 M 4:=fun h=>if_pos ⟨e2,h⟩
 have hc2 : ¬ M.heard=2 ^ M.w.length-1→Xl M=(M,[]):=fun h=>by unfold Xl;rw [if_neg (fun h2=>h h2.2),if_pos (.inl e2)]
 clear eM hM
 refine Za (fun _ _=>Tryz.call74 _ _) Tryz.func74 rfl Tryz.ntmps74 (Nat.le_of_ble_eq_true rfl) ?_;simp only [Ze,Nat.reduceAdd]
 repeat' (first|refine uN ?_|refine Yd S ?_|refine Yu S ?_|refine Vb (qC (V0 kf 1)) ?_|refine Zc9 (qC (V0 kf 1)) ?_|refine uC (ke _ _) ?_|refine Yy (fun _=>V0 kf 1) ?_|refine Yz (fun _=>V0 kf 1) ?_|refine Y0 (fun _=>V0 kf 1) ?_|refine Y1 (fun _=>V0 kf 1) ?_|refine Yy (fun _=>ke _ _) ?_|refine Yz (fun _=>ke _ _) ?_|refine Y0 (fun _=>ke _ _) ?_|refine Y1 (fun _=>ke _ _) ?_|(refine uB ?_;intro b)|(refine uP ?_ ?_<;>(intro h;((try simp only [zs,zq,reduceCtorEq] at h);try exact zx)))|refine da 101 ?_|fail)
 ·rw [hc1 (by rw [e1];omega)]
  refine fo 1 ?_
  refine gc (kp _ hm2) ?_
  rintro v L' ⟨c,hv,rfl⟩
  repeat' (first|refine uN ?_|refine Yd S ?_|refine Yu S ?_|(refine uB ?_;intro b)|(refine uP ?_ ?_<;>(intro h;((try simp only [zs,zq,reduceCtorEq] at h);try exact zx)))|refine da 101 ?_|fail)
  exact Xn uZ ⟨c,hv,rfl⟩
 ·rw [hc2 (by rw [e1];omega)]
  exact Xn (L':=[]::Vs lp wv wc M::L) (LS.skip _ (LS.refl _)) ⟨[],Yg,rfl⟩
theorem Zir (T:Nat) (E:Nat→Addr) (lp:Nat) (wv:Value) (wc:List Zm) (m:Ld) (f:Fr) (L:Zb) (hG:Er T E [2,3,4] L) (hm:LdOk wv wc m) (hh:m.heard<2 ^ m.w.length) (hw:m.wait≠0) (hfit:Vm m f) (hy:f.yes=true) (hkd:f.kd≠2) :
  HC Tryz.prog 74 [pt lp 0,.agg ⟨fc f⟩] (Vs lp wv wc m::L) (fun v L' => ∃ c,Xs v (Xl (Zfs m f)).2 c∧L'=c::Vs lp wv wc (Xl (Zfs m f)).1::L):=by
 have hm2:=hm.m2 f
 have hlen:=hm.len
 have htl:=hm.told
 have hh7:m.heard<128:=Nat.lt_of_lt_of_le hh (Nat.pow_le_pow_right (by decide) hlen)
 have kf : ∀ L,_:=fun L=>Zby lp wv wc m f L hm hh7
 obtain ⟨a,cap,rfl,hcap,hR⟩:=hm.vec.rd Xi
 generalize hwv:Value.slice a m.w.length cap=wv at *
 obtain ⟨hfr,hfr2,hk0⟩:=Zdv hfit
 rw [decide_eq_true hfit] at kf
 clear hfit
 obtain ⟨fr,to,dl0,kd,att,yes,s⟩:=f
 simp only at hy hfr hfr2 hkd hk0
 subst hy
 obtain ⟨k,rfl⟩:=Int.eq_ofNat_of_zero_le hfr
 have hk7:k<m.w.length:=by omega
 generalize hM:Zfs m ⟨k,to,dl0,kd,att,true,s⟩=M at *
 have eM:M={ m with seen:=max m.seen s.pr,heard:=m.heard ||| 2 ^ k,told:=m.told.set k s }:=by rw [← hM];simp only [Zfs,Zg4,if_neg hkd];rfl
 have e1:M.w=m.w:=by rw [eM]
 have e2:M.wait=kd:=by rw [eM];exact hk0.symm
 have e3:M.heard<128:=by rw [eM];exact Zfg (n:=7) hh7 (by omega)
 have g3:(Y5 wv M)[0+3]? = some (.slice a m.w.length cap):=by rw [hwv];exact Yt rfl
 have g5:(Y5 wv m)[0+5]? = some (iv m.wait):=Yt rfl
 have g5':(Y5 wv M)[0+5]? = some (iv kd):=by rw [← e2];exact Yt rfl
 have g6:(Y5 wv { m with seen:=max m.seen s.pr })[0+6]? = some (iv m.heard):=Yt rfl
 have g6':(Y5 wv M)[0+6]? = some (iv M.heard):=Yt rfl
 have g8':(Y5 wv M)[0+28]? = some (iv M.phase):=ld_phase hm2.told
 have g9:(Y5 wv m)[0+29]? = some (iv m.seen):=Zi7 htl
 have p9:Zo (Y5 wv m) (0+29) [iv (max m.seen s.pr)] (Y5 wv { m with seen:=max m.seen s.pr }):=Zlb htl _
 have p6:Zo (Y5 wv { m with seen:=max m.seen s.pr }) (0+6) [iv (((m.heard:Int).toNat ||| ((1:Int)*2 ^ (k:Int).toNat).toNat:Nat):Int)] (Y5 wv { m with seen:=max m.seen s.pr,heard:=m.heard ||| 2 ^ k }):=by
  rw [or_int];exact Vz rfl (by decide) rfl rfl rfl
 have pT:Zo (Y5 wv { m with seen:=max m.seen s.pr,heard:=m.heard ||| 2 ^ k }) (0+7+(k:Int).toNat*3) (sc s) (Y5 wv M):=by
  rw [eM];exact Zpn (m:={ m with seen:=max m.seen s.pr,heard:=m.heard ||| 2 ^ k }) s (by show k<m.told.length;omega)
 have hsh:=Zet (k:=k) (by omega)
 have hor:=or_ok hh7 (show k<7 by omega)
 have ke : ∀ b o,HC Tryz.prog 128 [.slice a m.w.length cap,iv M.heard] ([(b,o)]::Vs lp wv wc M::L) (fun v L'=>v = .tuple ⟨[.bool (Xu m.w M.heard).1,eV T E (Xu m.w M.heard).2]⟩∧L'=[(b,o)]::Vs lp wv wc M::L):=fun b o =>
  Zcb T E a cap m.w M.heard _ ((hG.cons _).cons _) (((hR L).inn _).cons _) (by omega) (by omega)
 have kd1:=Qf lp wv wc M (Vr M.phase)
 have kd2:=Qf lp wv wc M (Y8 (W8 M)).1
 have kp:=Zbo lp wv wc M (Y8 (W8 M)).1
 have ks:=fun L=>Zjr lp wv wc M L hm2 e3
 have hst:(W8 M).length≤7:=by
  have:=Qk (Zjq M) (Zp4 M) M.w.length
  have e9:M.w.length=m.w.length:=by rw [e1]
  show ((List.range M.w.length).flatMap (Zjq M)).length≤7
  omega
 have hc0 : ¬ (M.wait=2∧M.heard=2 ^ M.w.length-1):=by rw [e2];exact fun h=>hkd h.1
 have hc1:(Xu m.w M.heard).1=false→Xl M=(M,[]):=fun h=>by unfold Xl;rw [if_neg hc0,e1,if_pos (.inr h)]
 have hc2:(Xu m.w M.heard).1=true→kd=6→Xl M=Ze7 M (Vr M.phase):=fun h h6=>by unfold Xl;rw [if_neg hc0,e1,if_neg (by rw [h,e2];simp [hkd]),e2,if_pos h6]
 have hc3:(Xu m.w M.heard).1=true→kd≠6→Xl M=if (Y8 (W8 M)).2 then Ze7 M (Y8 (W8 M)).1 else Zn8 M (Y8 (W8 M)).1:=fun h h6=>by unfold Xl;rw [if_neg hc0,e1,if_neg (by rw [h,e2];simp [hkd]),e2,if_neg h6]
 generalize (Xu m.w M.heard).1=en at *
 clear eM hM hc0
 refine Za (fun _ _=>Tryz.call74 _ _) Tryz.func74 rfl Tryz.ntmps74 (Nat.le_of_ble_eq_true rfl) ?_;simp only [Ze,Nat.reduceAdd]
 repeat' (first|refine uN ?_|refine Yd S ?_|refine Yu S ?_|refine Vb (qC (V0 kf 1)) ?_|refine Zc9 (qC (V0 kf 1)) ?_|refine uC (ke _ _) ?_|refine uC (Yb _ _) ?_|refine Yy (fun _=>V0 kf 1) ?_|refine Yz (fun _=>V0 kf 1) ?_|refine Y0 (fun _=>V0 kf 1) ?_|refine Y1 (fun _=>V0 kf 1) ?_|refine Yy (fun _=>ke _ _) ?_|refine Yz (fun _=>ke _ _) ?_|refine Y0 (fun _=>ke _ _) ?_|refine Y1 (fun _=>ke _ _) ?_|refine Yy (fun _=>Yb _ _) ?_|refine Yz (fun _=>Yb _ _) ?_|refine Y0 (fun _=>Yb _ _) ?_|refine Y1 (fun _=>Yb _ _) ?_|(refine uB ?_;intro b)|(refine uP ?_ ?_<;>(intro h;((try simp only [zs,zq,reduceCtorEq] at h);try exact zx)))|refine da 101 ?_|fail)
 ·rw [hc1 h]
  exact Xn (L':=[]::Vs lp wv wc M::L) (LS.skip _ (LS.refl _)) ⟨[],Yg,rfl⟩
 ·rename_i hen
  rw [hc2 hen h]
  refine fo 1 ?_
  refine gc (kd1 _ hm2) ?_
  rintro v L' ⟨c,hv,rfl⟩
  repeat' (first|refine uN ?_|refine Yd S ?_|refine Yu S ?_|(refine uB ?_;intro b)|(refine uP ?_ ?_<;>(intro h;((try simp only [zs,zq,reduceCtorEq] at h);try exact zx)))|refine da 101 ?_|fail)
  exact Xn uZ ⟨c,hv,rfl⟩
 ·rename_i hen
  rw [hc3 hen h]
  refine fo 1 ?_
  refine gc (ks _) ?_
  rintro v L' ⟨c,hv,rfl⟩
  obtain ⟨a2,cap2,rfl,hcap2,hR2⟩:=hv.rd Zdg
  have kc:=fun L=>Zio a2 cap2 (W8 M) (c::L) (hR2 L) (by omega)
  repeat' (first|refine uN ?_|refine Yd S ?_|refine Yu S ?_|refine uC (kc _) ?_|refine Yy (fun _=>kc _) ?_|refine Yz (fun _=>kc _) ?_|refine Y0 (fun _=>kc _) ?_|refine Y1 (fun _=>kc _) ?_|(refine uB ?_;intro b)|(refine uP ?_ ?_<;>(intro h;((try simp only [zs,zq,reduceCtorEq] at h);try exact zx)))|refine da 101 ?_|fail)
  ·rename_i hfin
   rw [if_pos h]
   refine fo 1 ?_
   refine gc (kd2 _ hm2) ?_
   rintro v L' ⟨c3,hv3,rfl⟩
   repeat' (first|refine uN ?_|refine Yd S ?_|refine Yu S ?_|(refine uB ?_;intro b)|(refine uP ?_ ?_<;>(intro h;((try simp only [zs,zq,reduceCtorEq] at h);try exact zx)))|refine da 101 ?_|fail)
   exact Xn uZ ⟨c3,hv3,rfl⟩
  ·rename_i hfin
   rw [if_neg (by simp [h])]
   refine fo 1 ?_
   refine gc (kp _ hm2) ?_
   rintro v L' ⟨c3,hv3,rfl⟩
   repeat' (first|refine uN ?_|refine Yd S ?_|refine Yu S ?_|(refine uB ?_;intro b)|(refine uP ?_ ?_<;>(intro h;((try simp only [zs,zq,reduceCtorEq] at h);try exact zx)))|refine da 101 ?_|fail)
   exact Xn uZ ⟨c3,hv3,rfl⟩
theorem Zff (T:Nat) (E:Nat→Addr) (lp:Nat) (wv:Value) (wc:List Zm) (m:Ld) (f:Fr) (L:Zb) (hG:Er T E [2,3,4] L) (hm:LdOk wv wc m) (hh:m.heard<2 ^ m.w.length) :
  HC Tryz.prog 74 [pt lp 0,.agg ⟨fc f⟩] (Vs lp wv wc m::L) (fun v L' => ∃ c,Xs v (Yf m f).2 c∧L'=c::Vs lp wv wc (Yf m f).1::L):=by
 have hh7:m.heard<128:=Nat.lt_of_lt_of_le hh (Nat.pow_le_pow_right (by decide) hm.len)
 have kf : ∀ L,_:=fun L=>Zby lp wv wc m f L hm hh7
 have g5:(Y5 wv m)[0+5]? = some (iv m.wait):=Yt rfl
 by_cases hw:m.wait=0 ∨ ¬ Vm m f
 ·rw [Zq8 hw]
  by_cases h0:m.wait=0
  ·refine Za (fun _ _=>Tryz.call74 _ _) Tryz.func74 rfl Tryz.ntmps74 (Nat.le_of_ble_eq_true rfl) ?_;simp only [Ze,Nat.reduceAdd]
   repeat' (first|refine uN ?_|refine Yd S ?_|refine Yu S ?_|(refine uB ?_;intro b)|(refine uP ?_ ?_<;>(intro h;((try simp only [zs,zq,reduceCtorEq] at h);try exact zx)))|refine da 101 ?_|fail)
   exact Xn (L':=[]::Vs lp wv wc m::L) (LS.skip _ (LS.refl _)) ⟨[],Yg,rfl⟩
  ·rw [decide_eq_false (by rcases hw with h|h;exact absurd h h0;exact h)] at kf
   refine Za (fun _ _=>Tryz.call74 _ _) Tryz.func74 rfl Tryz.ntmps74 (Nat.le_of_ble_eq_true rfl) ?_;simp only [Ze,Nat.reduceAdd]
   repeat' (first|refine uN ?_|refine Yd S ?_|refine Yu S ?_|refine Vb (qC (V0 kf 1)) ?_|refine Zc9 (qC (V0 kf 1)) ?_|refine Yy (fun _=>V0 kf 1) ?_|refine Yz (fun _=>V0 kf 1) ?_|refine Y0 (fun _=>V0 kf 1) ?_|refine Y1 (fun _=>V0 kf 1) ?_|(refine uB ?_;intro b)|(refine uP ?_ ?_<;>(intro h;((try simp only [zs,zq,reduceCtorEq] at h);try exact zx)))|refine da 101 ?_|fail)
   exact Xn (L':=[]::Vs lp wv wc m::L) (LS.skip _ (LS.refl _)) ⟨[],Yg,rfl⟩
 ·have hfit:Vm m f:=by
   by_cases h:Vm m f
   ·exact h
   ·exact absurd (.inr h) hw
  have hw0:m.wait≠0:=fun h=>hw (.inl h)
  by_cases hy:f.yes=true
  ·have e:Yf m f=Xl (Zfs m f):=by unfold Yf;rw [if_neg hw,if_neg (by simp [hy])]
   rw [e]
   by_cases hkd:f.kd=2
   ·exact Zis T E lp wv wc m f L hG hm hh hw0 hfit hy hkd
   ·exact Zir T E lp wv wc m f L hG hm hh hw0 hfit hy hkd
  ·have hy':f.yes=false:=by simpa using hy
   have e:Yf m f=noM (Zg4 m f):=by unfold Yf;rw [if_neg hw,if_pos hy']
   rw [e]
   rw [decide_eq_true hfit] at kf
   clear hw hfit e
   have kn:=no_calls lp wv wc (Zg4 m f)
   have hm1:=hm.m1 f
   have g9:(Y5 wv m)[0+29]? = some (iv m.seen):=Zi7 hm.told
   by_cases hkd:f.kd=2
   ·have e1:Zg4 m f=m:=if_pos hkd
    rw [e1] at kn hm1 ⊢
    refine Za (fun _ _=>Tryz.call74 _ _) Tryz.func74 rfl Tryz.ntmps74 (Nat.le_of_ble_eq_true rfl) ?_;simp only [Ze,Nat.reduceAdd]
    repeat' (first|refine uN ?_|refine Yd S ?_|refine Yu S ?_|refine Vb (qC (V0 kf 1)) ?_|refine Zc9 (qC (V0 kf 1)) ?_|refine Yy (fun _=>V0 kf 1) ?_|refine Yz (fun _=>V0 kf 1) ?_|refine Y0 (fun _=>V0 kf 1) ?_|refine Y1 (fun _=>V0 kf 1) ?_|(refine uB ?_;intro b)|(refine uP ?_ ?_<;>(intro h;((try simp only [zs,zq,reduceCtorEq] at h);try exact zx)))|refine da 101 ?_|fail)
    refine fo 1 ?_
    refine gc (kn _ hm1) ?_
    rintro v L' ⟨c,hv,rfl⟩
    repeat' (first|refine uN ?_|refine Yd S ?_|refine Yu S ?_|(refine uB ?_;intro b)|(refine uP ?_ ?_<;>(intro h;((try simp only [zs,zq,reduceCtorEq] at h);try exact zx)))|refine da 101 ?_|fail)
    exact Xn uZ ⟨c,hv,rfl⟩
   ·have p9:Zo (Y5 wv m) (0+29) [iv (max m.seen f.s.pr)] (Y5 wv (Zg4 m f)):=by
     unfold Zg4;rw [if_neg hkd];exact Zlb hm.told _
    refine Za (fun _ _=>Tryz.call74 _ _) Tryz.func74 rfl Tryz.ntmps74 (Nat.le_of_ble_eq_true rfl) ?_;simp only [Ze,Nat.reduceAdd]
    repeat' (first|refine uN ?_|refine Yd S ?_|refine Yu S ?_|refine Vb (qC (V0 kf 1)) ?_|refine Zc9 (qC (V0 kf 1)) ?_|refine Yy (fun _=>V0 kf 1) ?_|refine Yz (fun _=>V0 kf 1) ?_|refine Y0 (fun _=>V0 kf 1) ?_|refine Y1 (fun _=>V0 kf 1) ?_|(refine uB ?_;intro b)|(refine uP ?_ ?_<;>(intro h;((try simp only [zs,zq,reduceCtorEq] at h);try exact zx)))|refine da 101 ?_|fail)
    refine fo 1 ?_
    refine gc (kn _ hm1) ?_
    rintro v L' ⟨c,hv,rfl⟩
    repeat' (first|refine uN ?_|refine Yd S ?_|refine Yu S ?_|(refine uB ?_;intro b)|(refine uP ?_ ?_<;>(intro h;((try simp only [zs,zq,reduceCtorEq] at h);try exact zx)))|refine da 101 ?_|fail)
    exact Xn uZ ⟨c,hv,rfl⟩
end Go.HL
end

/-! WgC -/
section
namespace Go.HL
open Go Go.Proofs
set_option maxHeartbeats 2000000 attribute [local irreducible] HW HO HQ HD HC QOp Has Upd Zo Gets Ye Z6 Zq X0 Z5 Zj X7 Zw

end Go.HL
end

/-! LdD -/
section
namespace Go.HL
open Go Go.Proofs
def Zk (id deal:Int) (w:List Int) (att wait:Int):Ld:=⟨id,deal,att,w,sAsking,wait,0,List.replicate 7 W2,0,0⟩
def Zaf (id deal:Int) (w:List Int) (att:Int):Option Nat:=match Xt w with
 | some e=>some e
 | none=>if id<0∨w.length≤id∨deal<0∨6≤deal∨1048576<att then some 2 else none
def LdRes (T:Nat) (E:Nat→Addr) (e:Option Nat) (m:Ld) (L:Zb) (v:Value) (L':Zb):Prop:=match e with
 | some x=>v = .tuple ⟨[.pointer none,eV T E (some x)]⟩∧L'=L
 | none => ∃ lp wv wc,v = .tuple ⟨[pt lp 0,.nilIface]⟩∧LdOk wv wc m∧L'=Vs lp wv wc m::L
def tryE (id deal:Int) (w:List Int) (att:Int):Option Nat:=match Zaf id deal w att with
 | some e=>some e
 | none=>if att<1 then some 2 else none
set_option maxHeartbeats 2000000 attribute [local irreducible] HW HO HQ HD HC QOp Has Upd Zo Gets Ye Z6 Zq X0 Z5 Zj X7 Zw
theorem Zfo (T:Nat) (E:Nat→Addr) (id deal:Int) (a:Option Addr) (cap:Nat) (w:List Int) (att wait:Int) (L:Zb) (hG:Er T E [2,3,4] L) (hR:Rd ic 1 L a w) (hl:w.length≤1000000) :
  HC Tryz.prog 124 [iv id,iv deal,.slice a w.length cap,iv att,iv wait] L (LdRes T E (Zaf id deal w att) (Zk id deal w att wait) L):=by
 have kc:=Q7 T E a cap w L hG hR hl
 cases hc:Xt w with
 | some e =>
  rw [hc] at kc
  rw [show Zaf id deal w att=some e by unfold Zaf;rw [hc]]
  refine Za (fun _ _=>Tryz.call124 _ _) Tryz.func124 rfl Tryz.ntmps124 (Nat.le_of_ble_eq_true rfl) ?_;simp only [Ze,Nat.reduceAdd]
  repeat' (first|refine uN ?_|refine Z0 S ?_|refine uC (kc) ?_|refine Yy (fun _=>kc) ?_|refine Yz (fun _=>kc) ?_|refine Y0 (fun _=>kc) ?_|refine Y1 (fun _=>kc) ?_|(refine uB ?_;intro b)|refine dg S 100 (fun _ _=>?_)|(refine uP ?_ ?_<;>(intro h;((try simp only [zs,zq,reduceCtorEq] at h);try exact zx)))|refine da 101 ?_|fail)
  exact Wz (LS.refl _) ⟨rfl,rfl⟩
 | none =>
  rw [hc] at kc
  obtain ⟨c1,c2,c3,c4⟩:=V6 hc
  have hle:Zaf id deal w att=if id<0∨w.length≤id∨deal<0∨6≤deal∨1048576<att then some 2 else none:=by unfold Zaf;rw [hc]
  refine Za (fun _ _=>Tryz.call124 _ _) Tryz.func124 rfl Tryz.ntmps124 (Nat.le_of_ble_eq_true rfl) ?_;simp only [Ze,Nat.reduceAdd]
  repeat' (first|refine uN ?_|refine Z0 S ?_|refine uC (kc) ?_|refine Yy (fun _=>kc) ?_|refine Yz (fun _=>kc) ?_|refine Y0 (fun _=>kc) ?_|refine Y1 (fun _=>kc) ?_|(refine uB ?_;intro b)|refine dg S 100 (fun _ _=>?_)|(refine uP ?_ ?_<;>(intro h;((try simp only [zs,zq,reduceCtorEq] at h);try exact zx)))|refine da 101 ?_|fail)
  all_goals first|(rw [hle,if_pos (by omega)];exact Wz (LS.refl _) ⟨rfl,rfl⟩;done)|skip
  rw [hle,if_neg (by omega)]
  refine Zpe ?_
  refine wpA S (enc:=ic) (xs:=[]) (ys:=w) Yg ((hR.cons _).cons _) Xi Zno ?_ (by rfl) (by rfl) (by rfl) (by rfl) (by rfl) (by rfl) (by rfl) (by rfl) (by rfl) (by simp only [List.length_nil];omega) (by simp only [List.length_nil];omega)
  intro v' c' hv
  rw [List.nil_append] at hv
  obtain ⟨a',cap',rfl,-⟩:=hv.rd Xi
  repeat' (first|refine uN ?_|refine Z0 S ?_|refine uC (kc) ?_|refine Yy (fun _=>kc) ?_|refine Yz (fun _=>kc) ?_|refine Y0 (fun _=>kc) ?_|refine Y1 (fun _=>kc) ?_|(refine uB ?_;intro b)|refine dg S 100 (fun _ _=>?_)|(refine uP ?_ ?_<;>(intro h;((try simp only [zs,zq,reduceCtorEq] at h);try exact zx)))|refine da 101 ?_|fail)
  refine Wz (L':=Vs b (.slice a' w.length cap') c' (Zk id deal w att wait)::L) ?_ ⟨_,_,_,rfl,⟨hv,rfl,c2⟩,rfl⟩
  refine LS.of_perm ?_
  simp only [Vs,List.flatten_cons,List.cons_append,List.nil_append]
  exact List.perm_middle.symm
theorem Zkf (T:Nat) (E:Nat→Addr) (id deal:Int) (a:Option Addr) (cap:Nat) (w:List Int) (L:Zb) (hG:Er T E [2,3,4] L) (hR:Rd ic 1 L a w) (hl:w.length≤1000000) :
  HC Tryz.prog 69 [iv id,iv deal,.slice a w.length cap] L (LdRes T E (Zaf id deal w 0) (Zk id deal w 0 2) L):=by
 have kc:=Zfo T E id deal a cap w 0 2 L hG hR hl
 cases hc:Zaf id deal w 0 with
 | some e =>
  rw [hc] at kc
  refine Za (fun _ _=>Tryz.call69 _ _) Tryz.func69 rfl Tryz.ntmps69 (Nat.le_of_ble_eq_true rfl) ?_;simp only [Ze,Nat.reduceAdd]
  repeat' (first|refine uN ?_)
  refine gc kc ?_
  rintro v L' ⟨rfl,rfl⟩
  repeat' (first|refine uN ?_)
  exact Wz (LS.refl _) ⟨rfl,rfl⟩
 | none =>
  rw [hc] at kc
  refine Za (fun _ _=>Tryz.call69 _ _) Tryz.func69 rfl Tryz.ntmps69 (Nat.le_of_ble_eq_true rfl) ?_;simp only [Ze,Nat.reduceAdd]
  repeat' (first|refine uN ?_)
  refine gc kc ?_
  rintro v L' ⟨lp,wv,wc,rfl,hv,rfl⟩
  repeat' (first|refine uN ?_)
  exact Wz (LS.refl _) ⟨_,_,_,rfl,hv,rfl⟩
theorem Zsh (T:Nat) (E:Nat→Addr) (id deal:Int) (a:Option Addr) (cap:Nat) (w:List Int) (att:Int) (L:Zb) (hG:Er T E [2,3,4] L) (hR:Rd ic 1 L a w) (hl:w.length≤1000000) :
  HC Tryz.prog 192 [iv id,iv deal,.slice a w.length cap,iv att] L (LdRes T E (tryE id deal w att) (Zk id deal w att 4) L):=by
 have kc:=Zfo T E id deal a cap w att 4 L hG hR hl
 unfold tryE
 cases hc:Zaf id deal w att with
 | some e =>
  rw [hc] at kc
  refine Za (fun _ _=>Tryz.call192 _ _) Tryz.func192 rfl Tryz.ntmps192 (Nat.le_of_ble_eq_true rfl) ?_;simp only [Ze,Nat.reduceAdd]
  repeat' (first|refine uN ?_|refine Yd S ?_|(refine uP ?_ ?_<;>(intro h;((try simp only [zs,zq,reduceCtorEq] at h);try exact zx)))|fail)
  refine gc kc ?_
  rintro v L' ⟨rfl,rfl⟩
  repeat' (first|refine uN ?_|refine Z0 S ?_|refine dg S 100 (fun _ _=>?_)|(refine uP ?_ ?_<;>(intro h;((try simp only [zs,zq,reduceCtorEq] at h);try exact zx)))|refine da 101 ?_|fail)
  exact Wz (LS.refl _) ⟨rfl,rfl⟩
 | none =>
  rw [hc] at kc
  refine Za (fun _ _=>Tryz.call192 _ _) Tryz.func192 rfl Tryz.ntmps192 (Nat.le_of_ble_eq_true rfl) ?_;simp only [Ze,Nat.reduceAdd]
  repeat' (first|refine uN ?_|refine Yd S ?_|(refine uP ?_ ?_<;>(intro h;((try simp only [zs,zq,reduceCtorEq] at h);try exact zx)))|fail)
  refine gc kc ?_
  rintro v L' ⟨lp,wv,wc,rfl,hv,rfl⟩
  have hG2:=hG.cons (Vs lp wv wc (Zk id deal w att 4))
  repeat' (first|refine uN ?_|refine Z0 S ?_|refine dg S 100 (fun _ _=>?_)|(refine uP ?_ ?_<;>(intro h;((try simp only [zs,zq,reduceCtorEq] at h);try exact zx)))|refine da 101 ?_|fail)
  ·rw [if_pos h]
   exact Wz (LS.skips _ (LS.refl _)) ⟨rfl,rfl⟩
  ·rw [if_neg h]
   exact Wz (LS.refl _) ⟨_,_,_,rfl,hv,rfl⟩
end Go.HL
end

/-! WoC -/
section
namespace Go.HL
open Go Go.Proofs
structure Nd where
 pl:Pl
 site:Option (Jn × (Int→Bool))
 leads:List (Option Ld)
 done:List Bool
structure Wm where
 w:List Int
 n:List Nd
 br:Int × Int→Bool
 l:List Fr
 ev:List Evt
structure NdG where
 np:Nat
 bp:Nat
 ba:Nat
 sp:Nat
 bj:Nat
 mb:Nat
 es:List MapEntry
 ck:Nat
 ld:List (Nat × Value × List Zm)
def Zpm:Option Ld→Nat × Value × List Zm→Value
 | none,_ => .pointer none
 | some _,g=>pt g.1 0
def ldB:Option Ld→Nat × Value × List Zm→List Zm
 | none,_=>[]
 | some m,g=>Vs g.1 g.2.1 g.2.2 m
def Zd9 (g:NdG):Option (Jn × (Int→Bool))→Value
 | none => .pointer none
 | some _=>pt g.sp 0
def siB (g:NdG) (i:Int):Option (Jn × (Int→Bool))→List Zm
 | none=>[]
 | some (j,_)=>Zek g.sp g.bj g.mb i++Zeq g.mb g.es g.ck++jC g.bj g.bp j
def X6 (sv:Value) (bp:Nat) (lv:List Value) (dn:List Bool):List Value:=[sv,pt bp 0]++lv++dn.map Value.bool
def Yj (g:NdG) (m:Nd):List Value:=List.zipWith Zpm m.leads g.ld
def Qm (g:NdG) (m:Nd):List Zm:=(List.zipWith ldB m.leads g.ld).flatten
def Qb (g:NdG) (m:Nd):Obj := .cells ⟨X6 (Zd9 g m.site) g.bp (Yj g m) m.done⟩ 122
def Q1 (g:NdG) (m:Nd):List Zm:=[(g.np,Qb g m)]
def Zfv (g:NdG) (i:Int) (m:Nd):List Zm:=Q1 g m++Yo g.bp g.ba m.pl++siB g i m.site++Qm g m
def Vi:List NdG→List Nd→Nat→List Zm
 | g::gs,m::ms,i=>Zfv g i m++Vi gs ms (i+1)
 | _,_,_=>[]
def X9:List NdG→List Nd→Nat→Nat→List Zm
 | g::gs,m::ms,i,0=>Vi gs ms (i+1)
 | g::gs,m::ms,i,s+1=>Zfv g i m++X9 gs ms (i+1) s
 | _,_,_,_=>[]
theorem Zfw : ∀ {gs:List NdG} {ms:List Nd} {i s:Nat} {g:NdG} {m:Nd},gs[s]? = some g→ms[s]? = some m→List.Perm (Vi gs ms i) (Zfv g ((i+s:Nat):Int) m++X9 gs ms i s)
 | [],_,_,_,_,_,h,_=>by simp at h
 | _::_,[],_,_,_,_,_,h=>by simp at h
 | g0::gs,m0::ms,i,0,g,m,h,h2=>by
  simp at h h2;subst h;subst h2
  exact .refl _
 | g0::gs,m0::ms,i,s+1,g,m,h,h2=>by
  have ih:=Zfw (gs:=gs) (ms:=ms) (i:=i+1) (s:=s) (g:=g) (m:=m) (by simpa using h) (by simpa using h2)
  simp only [Vi,X9]
  rw [show i+(s+1)=i+1+s by omega]
  refine (ih.append_left _).trans ?_
  rw [← List.append_assoc,← List.append_assoc]
  exact List.perm_append_comm.append_right _
theorem Zps : ∀ {gs:List NdG} {ms:List Nd} {i s:Nat} {g:NdG} {m:Nd},X9 (gs.set s g) (ms.set s m) i s=X9 gs ms i s
 | [],_,_,_,_,_=>by simp [X9]
 | _::_,[],_,s,_,_=>by cases s<;>simp [X9]
 | g0::gs,m0::ms,i,0,g,m=>rfl
 | g0::gs,m0::ms,i,s+1,g,m=>by
  simp only [List.set_cons_succ,X9]
  rw [Zps]
structure WdG where
 wp:Nat
 wv:Value
 wc:List Zm
 nv:Value
 nc:List Zm
 mb:Nat
 es:List MapEntry
 ck:Nat
 lv:Value
 lc:List Zm
 ev:Value
 ec:List Zm
 nd:List NdG
def Ur (G:WdG):Obj := .cells ⟨[G.wv,G.nv,.map (some G.mb),G.lv,G.ev]⟩ 110
def pc (p:Nat):List Value:=[pt p 0]
theorem Zf2 (p:Nat):(pc p).length=1:=rfl
theorem pc_one (p:Nat):(pc p).all Value.oneCell'=true:=rfl
def Zc0 (G:WdG):Zb:=[[(G.wp,Ur G)],G.wc,G.nc,[(G.mb,.map ⟨G.es⟩ G.ck)],G.lc,G.ec]
def Yl (G:WdG) (M:Wm):Zb:=Zc0 G++[Vi G.nd M.n 0]
structure LdI (w:List Int) (s d:Nat) (x:Ld):Prop where
 ww:x.w=w
 id:x.id=s
 deal:x.deal=d
 att0:0≤x.att
 att1:x.att≤1048576
 told:x.told.length=7
 tok : ∀ t∈x.told,0≤t.ph∧t.ph≤5
 heard:x.heard<2 ^ w.length
 ph0:0≤x.phase
 ph1:x.phase≤5
 seen0:0≤x.seen
 seen1:x.seen≤1048576
structure NdI (w:List Int) (s:Nat) (m:Nd):Prop where
 leads:m.leads.length=6
 done:m.done.length=6
 b512:m.pl.b.length=512
 si:SI m.pl ⟨Zv m.pl.b,m.pl.off⟩
 up : ∀ j ref,m.site=some (j,ref)→j=⟨Zv m.pl.b,false⟩∧m.pl.off=false
 dn:m.site=none→m.pl.off=true
 ldi : ∀ (d:Nat) x,m.leads[d]? = some (some x)→LdI w s d x
structure NdOk (g:NdG) (m:Nd):Prop where
 ld:g.ld.length=6
 lok : ∀ (d:Nat) x,m.leads[d]? = some (some x) → ∀ q,g.ld[d]? = some q→LdOk q.2.1 q.2.2 x
 map : ∀ j ref,m.site=some (j,ref)→Zw iv g.es ref
theorem NdI.pl {w:List Int} {s:Nat} {m:Nd} (h:NdI w s m):PlOk m.pl:=h.si.ji.pl
theorem NdI.jn {w:List Int} {s:Nat} {m:Nd} (h:NdI w s m) {j:Jn} {ref:Int→Bool} (hs:m.site=some (j,ref)):SI m.pl j:=by
 obtain ⟨e1,e2⟩:=h.up j ref hs
 have:=h.si
 rw [e2] at this
 rw [e1]
 exact this
structure WI (M:Wm):Prop where
 w0:Xt M.w=none
 wl:M.w.length≤7
 w1:1≤M.w.length
 wn:M.n.length=M.w.length
 fr : ∀ f∈M.l,¬ Wq f∧f.to<M.w.length∧f.fr<M.w.length
 evl:M.ev.length≤500
 nd : ∀ (s:Nat) m,M.n[s]? = some m→NdI M.w s m
structure WdOk (G:WdG) (M:Wm):Prop where
 w:Vec 3 1 ic G.wv M.w G.wc
 nodes:Vec 117 1 pc G.nv (G.nd.map (·.np)) G.nc
 ndl:G.nd.length=M.n.length
 br:Zw pk G.es M.br
 l:Xs G.lv M.l G.lc
 ev:Vec 81 3 ec G.ev M.ev G.ec
 nd : ∀ (s:Nat) g m,G.nd[s]? = some g→M.n[s]? = some m→NdOk g m
end Go.HL
end

/-! WoD -/
section
namespace Go.HL
open Go Go.Proofs
structure WdIn (L:Zb) (G:WdG) (M:Wm):Prop where
 wp:Has L G.wp (Ur G)
 ns : ∃ a cap,G.nv = .slice a M.n.length cap∧Rd pc 1 L a (G.nd.map (·.np))
 ws : ∃ a cap,G.wv = .slice a M.w.length cap∧Rd ic 1 L a M.w
 ls : ∃ a cap,G.lv = .slice a M.l.length cap∧Rd fc 9 L a M.l
 es : ∃ a cap,G.ev = .slice a M.ev.length cap
theorem Rd.mono {α:Type} {enc:α→List Value} {sz:Nat} {L L':Zb} {a:Option Addr} {xs:List α} (h:Rd enc sz L a xs) (hl : ∀ b o,Has L b o→Has L' b o):Rd enc sz L' a xs:=by
 rcases h with h|⟨b,i,l,E,fr,h1,hb,hg⟩
 ·exact .inl h
 ·exact .inr ⟨b,i,l,E,fr,h1,hl _ _ hb,hg⟩
theorem wdIn {L:Zb} {G:WdG} {M:Wm} (h:WdOk G M) (hl : ∀ b o,Has (Zc0 G) b o→Has L b o):WdIn L G M:=by
 refine ⟨hl _ _ Zh,?_,?_,?_,?_⟩
 ·obtain ⟨a,cap,e,-,hR⟩:=h.nodes.rd Zf2
  refine ⟨a,cap,by rw [e,List.length_map,h.ndl],(hR []).mono fun b o hb=>hl b o ?_⟩
  simp only [Has,List.flatten_cons,List.flatten_nil,List.append_nil,Zc0] at hb ⊢
  simp [hb]
 ·obtain ⟨a,cap,e,-,hR⟩:=h.w.rd Xi
  refine ⟨a,cap,e,(hR []).mono fun b o hb=>hl b o ?_⟩
  simp only [Has,List.flatten_cons,List.flatten_nil,List.append_nil,Zc0] at hb ⊢
  simp [hb]
 ·obtain ⟨a,cap,e,-,hR⟩:=h.l.rd Zs
  refine ⟨a,cap,e,(hR []).mono fun b o hb=>hl b o ?_⟩
  simp only [Has,List.flatten_cons,List.flatten_nil,List.append_nil,Zc0] at hb ⊢
  simp [hb]
 ·obtain ⟨a,cap,e,-,hR⟩:=h.ev.rd Qh
  exact ⟨a,cap,e⟩
def X2 (M:Wm) (s:Int):Option Nat:=if s<0∨M.n.length≤s then some 2 else none
def Zf (M:Wm) (s:Int):Nd:=M.n.getD s.toNat ⟨⟨[],false,0⟩,none,[],[]⟩
def Zgy (M:Wm) (s:Int):Option Nat:=match X2 M s with
 | some e=>some e
 | none=>if (Zf M s).site.isNone then some 6 else none
def Zg (G:WdG) (s:Int):NdG:=G.nd.getD s.toNat ⟨0,0,0,0,0,0,[],0,[]⟩
theorem Yp {M:Wm} {s:Int} (h:X2 M s=none):0≤s∧s<M.n.length:=by
 unfold X2 at h
 split at h
 ·cases h
 ·omega
theorem nodeE_ok {M:Wm} {s:Int} (h0:0≤s) (h1:s<M.n.length):X2 M s=none:=if_neg (by omega)
theorem getD_some {α:Type} {l:List α} {i:Nat} {x:α} (h:i<l.length):l[i]? = some (l.getD i x):=by simp [List.getD,h]
theorem wd_np {L:Zb} {G:WdG} {M:Wm} {s:Int} (hI:WdIn L G M) (hl:G.nd.length=M.n.length) (h0:0≤s) (h1:s<M.n.length) : ∃ b i l F fr cap,G.nv=sl b i M.n.length cap∧Has L b (.cells ⟨l⟩ F fr)∧l[i+s.toNat]? = some (pt (Zg G s).np 0):=by
 obtain ⟨a,cap,hnv,hR⟩:=hI.ns
 obtain ⟨b,i,l,F,fr,rfl,hb,hg⟩:=hR.at1 (j:=s) h0 (by simp;omega)
 refine ⟨b,i,l,F,fr,cap,hnv,hb,?_⟩
 have e:(G.nd.map (·.np))[s.toNat]'(by simp;omega)=(Zg G s).np:=by
  rw [List.getElem_map]
  unfold Zg
  rw [List.getD,List.getElem?_eq_getElem (by omega)]
  rfl
 rw [e] at hg
 exact hg 0 _ rfl
theorem Xe {sv:Value} {bp:Nat} {lv:List Value} {dn:List Bool} {k:Nat} {v:Value} (h:[sv,pt bp 0][k]? = some v):(X6 sv bp lv dn)[0+k]? = some v:=by
 have hlt:k<[sv,pt bp 0].length:=(List.getElem?_eq_some_iff.1 h).1
 rw [Nat.zero_add,X6,List.append_assoc,List.getElem?_append_left hlt,h]
theorem Wt {M:Wm} (s:Int):(X2 M s=some 2)∨(X2 M s=none∧0≤s∧s<M.n.length):=by
 by_cases h:s<0∨M.n.length≤s
 ·exact .inl (if_pos h)
 ·exact .inr ⟨if_neg h,by omega,by omega⟩
set_option maxHeartbeats 2000000 attribute [local irreducible] HW HO HQ HD HC QOp Has Upd Zo Gets Ye Z6 Zq X0 Z5 Zj X7 Zw
attribute [local irreducible] X6
theorem Wf (T:Nat) (E:Nat→Addr) (G:WdG) (M:Wm) (s:Int) (L:Zb) (hG:Er T E [2] L) (hI:WdIn L G M) (hl:G.nd.length=M.n.length):HC Tryz.prog 76 [pt G.wp 0,iv s] L (fun v L'=>v=(match X2 M s with
  | some e => .tuple ⟨[.pointer none,eV T E (some e)]⟩
  | none => .tuple ⟨[pt (Zg G s).np 0,.nilIface]⟩)∧L'=L):=by
 have hw:=hI.wp
 unfold Ur at hw
 by_cases h:s<0∨M.n.length≤s
 ·have e:X2 M s=some 2:=if_pos h
  obtain ⟨a,cap,hnv,hR⟩:=hI.ns
  rw [hnv] at hw
  simp only [e]
  by_cases h0:s<0
  ·refine Za (fun _ _=>Tryz.call76 _ _) Tryz.func76 rfl Tryz.ntmps76 (Nat.le_of_ble_eq_true rfl) ?_;simp only [Ze,Nat.reduceAdd]
   repeat' (first|refine uN ?_|refine Yd S ?_|(refine uP ?_ ?_<;>(intro h;((try simp only [zs,zq,reduceCtorEq] at h);try exact zx)))|fail)
   exact Zbj rfl ⟨rfl,rfl⟩
  ·refine Za (fun _ _=>Tryz.call76 _ _) Tryz.func76 rfl Tryz.ntmps76 (Nat.le_of_ble_eq_true rfl) ?_;simp only [Ze,Nat.reduceAdd]
   repeat' (first|refine uN ?_|refine Yd S ?_|(refine uP ?_ ?_<;>(intro h;((try simp only [zs,zq,reduceCtorEq] at h);try exact zx)))|fail)
   exact Zbj rfl ⟨rfl,rfl⟩
 ·have e:X2 M s=none:=if_neg h
  simp only [e]
  obtain ⟨b,i,l,F,fr,cap,hnv,hb,hg⟩:=wd_np hI hl (s:=s) (by omega) (by omega)
  rw [hnv] at hw
  refine Za (fun _ _=>Tryz.call76 _ _) Tryz.func76 rfl Tryz.ntmps76 (Nat.le_of_ble_eq_true rfl) ?_;simp only [Ze,Nat.reduceAdd]
  repeat' (first|refine uN ?_|refine Yd S ?_|(refine uP ?_ ?_<;>(intro h;((try simp only [zs,zq,reduceCtorEq] at h);try exact zx)))|fail)
  exact Zbj rfl ⟨rfl,rfl⟩
theorem Zso (T:Nat) (E:Nat→Addr) (G:WdG) (M:Wm) (s:Int) (L:Zb) (hG:Er T E [2,6] L) (hI:WdIn L G M) (hl:G.nd.length=M.n.length) (hN:X2 M s=none→Has L (Zg G s).np (Qb (Zg G s) (Zf M s))):HC Tryz.prog 66 [pt G.wp 0,iv s] L (fun v L'=>v=(match X2 M s with
  | some e => .tuple ⟨[.pointer none,eV T E (some e)]⟩
  | none => .tuple ⟨[pt (Zg G s).np 0,eV T E (Zgy M s)]⟩)∧L'=L):=by
 have kn:=Wf T E G M s L hG.sub hI hl
 rcases Wt (M:=M) s with he|⟨he,h0,h1⟩
 ·simp only [he] at kn ⊢
  refine Za (fun _ _=>Tryz.call66 _ _) Tryz.func66 rfl Tryz.ntmps66 (Nat.le_of_ble_eq_true rfl) ?_;simp only [Ze,Nat.reduceAdd]
  repeat' (first|refine uN ?_|refine uC (kn) ?_|(refine uP ?_ ?_<;>(intro h;((try simp only [zs,zq,reduceCtorEq] at h);try exact zx)))|fail)
  exact Zbj rfl ⟨rfl,rfl⟩
 ·have hN':=hN he
  have hu:Zgy M s=if (Zf M s).site.isNone then some 6 else none:=by unfold Zgy;rw [he]
  simp only [he] at kn ⊢
  unfold Qb at hN'
  cases hs:(Zf M s).site with
  | none =>
   rw [hs] at hN' hu
   rw [hu]
   have g0:(X6 (.pointer none) (Zg G s).bp (Yj (Zg G s) (Zf M s)) (Zf M s).done)[0+0]? = some (.pointer none):=Xe rfl
   refine Za (fun _ _=>Tryz.call66 _ _) Tryz.func66 rfl Tryz.ntmps66 (Nat.le_of_ble_eq_true rfl) ?_;simp only [Ze,Nat.reduceAdd]
   repeat' (first|refine uN ?_|refine uC (kn) ?_|(refine uP ?_ ?_<;>(intro h;((try simp only [zs,zq,reduceCtorEq] at h);try exact zx)))|fail)
   exact Zbj rfl ⟨rfl,rfl⟩
  | some q =>
   rw [hs] at hN' hu
   rw [hu]
   have g0:(X6 (pt (Zg G s).sp 0) (Zg G s).bp (Yj (Zg G s) (Zf M s)) (Zf M s).done)[0+0]? = some (pt (Zg G s).sp 0):=Xe rfl
   obtain ⟨q1,q2⟩:=q
   refine Za (fun _ _=>Tryz.call66 _ _) Tryz.func66 rfl Tryz.ntmps66 (Nat.le_of_ble_eq_true rfl) ?_;simp only [Ze,Nat.reduceAdd]
   repeat' (first|refine uN ?_|refine uC (kn) ?_|(refine uP ?_ ?_<;>(intro h;((try simp only [zs,zq,reduceCtorEq] at h);try exact zx)))|fail)
   exact Zbj rfl ⟨rfl,rfl⟩
def Zsj (M:Wm) (k:Int):Option Nat:=if k<0∨M.l.length≤k then some 4 else none
theorem Za3 (T:Nat) (E:Nat→Addr) (G:WdG) (M:Wm) (k:Int) (L:Zb) (hG:Er T E [4] L) (hI:WdIn L G M):HC Tryz.prog 72 [pt G.wp 0,iv k] L (fun v L'=>v=eV T E (Zsj M k)∧L'=L):=by
 have hw:=hI.wp
 unfold Ur at hw
 obtain ⟨a,cap,hlv,-⟩:=hI.ls
 rw [hlv] at hw
 unfold Zsj
 by_cases h0:k<0
 ·rw [if_pos (.inl h0)]
  refine Za (fun _ _=>Tryz.call72 _ _) Tryz.func72 rfl Tryz.ntmps72 (Nat.le_of_ble_eq_true rfl) ?_;simp only [Ze,Nat.reduceAdd]
  repeat' (first|refine uN ?_|(refine uP ?_ ?_<;>(intro h;((try simp only [zs,zq,reduceCtorEq] at h);try exact zx)))|fail)
  exact Uu rfl ⟨rfl,rfl⟩
 ·by_cases h1:M.l.length≤k
  ·rw [if_pos (.inr h1)]
   refine Za (fun _ _=>Tryz.call72 _ _) Tryz.func72 rfl Tryz.ntmps72 (Nat.le_of_ble_eq_true rfl) ?_;simp only [Ze,Nat.reduceAdd]
   repeat' (first|refine uN ?_|(refine uP ?_ ?_<;>(intro h;((try simp only [zs,zq,reduceCtorEq] at h);try exact zx)))|fail)
   exact Uu rfl ⟨rfl,rfl⟩
  ·rw [if_neg (by omega)]
   refine Za (fun _ _=>Tryz.call72 _ _) Tryz.func72 rfl Tryz.ntmps72 (Nat.le_of_ble_eq_true rfl) ?_;simp only [Ze,Nat.reduceAdd]
   repeat' (first|refine uN ?_|(refine uP ?_ ?_<;>(intro h;((try simp only [zs,zq,reduceCtorEq] at h);try exact zx)))|fail)
   exact Uu rfl ⟨rfl,rfl⟩
end Go.HL
end

/-! WoE -/
section
namespace Go.HL
open Go Go.Proofs
def Wo (s:Int) (ph:Nat→Int) (q:List Bool × List Evt) (d:Nat):List Bool × List Evt:=
 if q.1.getD d true=true∨(ph d≠2∧ph d≠3) then q else (q.1.set d true,if q.2.length<500 then q.2++[⟨s,d,ph d⟩] else q.2)
def Ud (s:Int) (ph:Nat→Int) (q:List Bool × List Evt) (k:Nat):List Bool × List Evt:=(List.range k).foldl (Wo s ph) q
def U2 (j:Jn) (d:Nat):Int:=(j.l.getD d Zl).s.ph
def Xk (s:Int) (m:Nd) (ev:List Evt):List Bool × List Evt:=match m.site with
 | none=>(m.done,ev)
 | some (j,_)=>Ud s (U2 j) (m.done,ev) 6
theorem Ue (s:Int) (ph:Nat→Int) (q:List Bool × List Evt) (k:Nat):Ud s ph q (k+1)=Wo s ph (Ud s ph q k) k:=by
 unfold Ud
 rw [List.range_succ,List.foldl_append]
 rfl
theorem Zru {s:Int} {ph:Nat→Int} {q:List Bool × List Evt} {d:Nat}:(Wo s ph q d).1.length=q.1.length:=by
 unfold Wo;split<;>simp
theorem noteD_ev {s:Int} {ph:Nat→Int} {q:List Bool × List Evt} {d:Nat} (h:q.2.length≤500):(Wo s ph q d).2.length≤500:=by
 unfold Wo
 split
 ·exact h
 ·simp only
  split
  ·simp;omega
  ·exact h
theorem Zaz {s:Int} {ph:Nat→Int} {q:List Bool × List Evt} : ∀ k,(Ud s ph q k).1.length=q.1.length
 | 0=>rfl
 | k+1=>by rw [Ue,Zru,Zaz k]
theorem Zfy {s:Int} {ph:Nat→Int} {q:List Bool × List Evt} (h:q.2.length≤500) : ∀ k,(Ud s ph q k).2.length≤500
 | 0=>h
 | k+1=>by rw [Ue];exact noteD_ev (Zfy h k)
theorem Zcl {sv:Value} {bp:Nat} {lv:List Value} {dn:List Bool} (h:lv.length=6):([sv,pt bp 0]++lv).length=8:=by simp [h]
theorem ndL_done {sv:Value} {bp:Nat} {lv:List Value} {dn:List Bool} {d:Nat} {b:Bool} (hl:lv.length=6) (h:dn[d]? = some b):(X6 sv bp lv dn)[0+8+(d:Int).toNat*1]? = some (.bool b):=by
 rw [X6,List.getElem?_append_right (by rw [Zcl (dn:=dn) (bp:=bp) (sv:=sv) hl];omega),Zcl (dn:=dn) (bp:=bp) (sv:=sv) hl]
 rw [show 0+8+(d:Int).toNat*1-8=d by omega,List.getElem?_map,h]
 rfl
theorem ndL_putD {sv:Value} {bp:Nat} {lv:List Value} {dn:List Bool} {d:Nat} (b:Bool) (hl:lv.length=6) (h:d<dn.length):Zo (X6 sv bp lv dn) (0+8+(d:Int).toNat*1) [.bool b] (X6 sv bp lv (dn.set d b)):=by
 have e:X6 sv bp lv (dn.set d b)=(X6 sv bp lv dn).set (0+8+(d:Int).toNat*1) (.bool b):=by
  rw [X6,X6,List.set_append_right _ _ (by rw [Zcl (dn:=dn) (bp:=bp) (sv:=sv) hl];omega),Zcl (dn:=dn) (bp:=bp) (sv:=sv) hl,List.map_set]
  rw [show 0+8+(d:Int).toNat*1-8=d by omega]
 rw [e]
 refine W5 ?_
 rw [X6,List.length_append,Zcl (dn:=dn) (bp:=bp) (sv:=sv) hl,List.length_map]
 omega
set_option maxHeartbeats 2000000 attribute [local irreducible] HW HO HQ HD HC QOp Has Upd Zo Gets Ye Z6 Zq X0 Z5 Zj X7 Zw
attribute [local irreducible] X6 Z2 Wo
theorem Zbq (sp bj mb bp:Nat) (id:Int) (j:Jn) (d:Nat) (L:Zb) (h1:Has L sp (.cells ⟨[pt bj 0,iv id,.map (some mb)]⟩ 187)) (h2:Has L bj (.cells ⟨Z2 bp j⟩ 261)) (hl:j.l.length=6) (hd:d<6) :
  HC Tryz.prog 143 [pt sp 0,iv d] L (fun v L'=>v = .tuple ⟨[.agg ⟨sc (j.l.getD d Zl).s⟩,.nilIface]⟩∧L'=L):=by
 have kg : ∀ c:List Zm,HC _ _ _ (c::L) _:=fun c=>Zdw bj bp j d (c::L) (Zc h2) hl hd
 refine Za (fun _ _=>Tryz.call143 _ _) Tryz.func143 rfl Tryz.ntmps143 (Nat.le_of_ble_eq_true rfl) ?_;simp only [Ze,Nat.reduceAdd]
 repeat' (first|refine uN ?_|refine uC (kg _) ?_|(refine uB ?_;intro b)|fail)
 exact Wz (LS.c (LS.refl _)) ⟨rfl,rfl⟩ (hx:=Vw S (hg:=Zd rfl (Zd rfl (Zd rfl Zx))))
structure SiIn (L:Zb) (g:NdG) (id:Int) (j:Jn):Prop where
 si:Has L g.sp (.cells ⟨[pt g.bj 0,iv id,.map (some g.mb)]⟩ 187)
 jn:Has L g.bj (.cells ⟨Z2 g.bp j⟩ 261)
structure NpIn (L:Zb) (nv:Value) (n:Nat) (s:Int) (np:Nat):Prop where
 at_ : ∃ b i l F fr cap,nv=sl b i n cap∧Has L b (.cells ⟨l⟩ F fr)∧l[i+s.toNat]? = some (pt np 0)
 lo:0≤s
 hi:s<n
theorem Zed (G:WdG) (s:Int) (g:NdG) (m:Nd) (ev:List Evt) (n:Nat) (L:Zb) (hv:Vec 81 3 ec G.ev ev G.ec) (hl:ev.length≤500) (hp:NpIn L G.nv n s g.np) (hd:m.done.length=6) (hlv:(Yj g m).length=6)
  (hs : ∀ j ref,m.site=some (j,ref)→SiIn L g s j∧j.l.length=6):HC Tryz.prog 101 [pt G.wp 0,iv s] ([(G.wp,Ur G)]::G.ec::Q1 g m::L)
  (fun v L' => ∃ evv c,Vec 81 3 ec evv (Xk s m ev).2 c∧v = .tuple ⟨[]⟩∧L'=[(G.wp,Ur { G with ev:=evv,ec:=c })]::c::Q1 g { m with done:=(Xk s m ev).1 }::L):=by
 obtain ⟨wp,wv,wc,nv,nc,mb,es,ck,lv,lc,evv,evc,nd⟩:=G
 simp only at hv hp
 obtain ⟨⟨b,i,l,F,fr,cap,rfl,hb,hg⟩,h0,h1⟩:=hp
 obtain ⟨pl,site,leads,done⟩:=m
 simp only at hd hs
 simp only [Ur,Q1,Qb]
 cases site with
 | none =>
  have g0:(X6 (.pointer none) g.bp (Yj g ⟨pl,none,leads,done⟩) done)[0+0]? = some (.pointer none):=Xe rfl
  simp only [Xk,Zd9]
  refine Za (fun _ _=>Tryz.call101 _ _) Tryz.func101 rfl Tryz.ntmps101 (Nat.le_of_ble_eq_true rfl) ?_;simp only [Ze,Nat.reduceAdd]
  repeat' (first|refine uN ?_|refine Yd S ?_|refine Yu S ?_|(refine uB ?_;intro b)|(refine uP ?_ ?_<;>(intro h;((try simp only [zs,zq,reduceCtorEq] at h);try exact zx)))|refine da 101 ?_|fail)
  exact er0 rfl ⟨_,_,hv,rfl,rfl⟩
 | some q =>
  obtain ⟨j,ref⟩:=q
  obtain ⟨⟨hsi,hjn⟩,hjl⟩:=hs j ref rfl
  have g0 : ∀ dn,(X6 (pt g.sp 0) g.bp (Yj g ⟨pl,some (j,ref),leads,done⟩) dn)[0+0]? = some (pt g.sp 0):=fun dn=>Xe rfl
  have hlv2 : ∀ dn,(Yj g ⟨pl,some (j,ref),leads,dn⟩)=(Yj g ⟨pl,some (j,ref),leads,done⟩):=fun dn=>rfl
  generalize hLV:Yj g ⟨pl,some (j,ref),leads,done⟩=LV at g0 hlv hlv2
  simp only [Xk,Zd9]
  have g00:=g0 done
  refine Za (fun _ _=>Tryz.call101 _ _) Tryz.func101 rfl Tryz.ntmps101 (Nat.le_of_ble_eq_true rfl) ?_;simp only [Ze,Nat.reduceAdd]
  repeat' (first|refine uN ?_|refine Yd S ?_|refine Yu S ?_|(refine uB ?_;intro b)|(refine uP ?_ ?_<;>(intro h;((try simp only [zs,zq,reduceCtorEq] at h);try exact zx)))|refine da 101 ?_|fail)
  refine Zz (σ:=Nat × (Value × List Zm)) (fun q=>[(0,pt wp 0),(1,iv s),(4,pt g.np 0),(20,iv q.1)])
   (fun q=>[(wp,.cells ⟨[wv,sl b i n cap,.map (some mb),lv,q.2.1]⟩ 110)]::q.2.2::[(g.np,.cells ⟨X6 (pt g.sp 0) g.bp LV (Ud s (U2 j) (done,ev) q.1).1⟩ 122)]::L)
   (fun q=>q.1≤6∧Vec 81 3 ec q.2.1 (Ud s (U2 j) (done,ev) q.1).2 q.2.2) (fun q=>6-q.1) (0,evv,evc) uS (List.Sublist.refl _) ⟨by simp,hv⟩ ?_
  rintro ⟨d,ev1,c1⟩ ⟨hd6,hv1⟩
  simp only at hd6 hv1 ⊢
  have hdl:=Zaz (s:=s) (ph:=U2 j) (q:=(done,ev)) d
  have hel:=Zfy (s:=s) (ph:=U2 j) (q:=(done,ev)) hl d
  have hsucc:=Ue s (U2 j) (done,ev) d
  generalize hRR:Ud s (U2 j) (done,ev) d=R at *
  obtain ⟨dn,es1⟩:=R
  simp only at hdl hel hv1 ⊢
  by_cases hlt:d<6
  ·have ks : ∀ c1 c2 c3:List Zm,HC _ _ _ (c1::c2::c3::L) _:=fun c1 c2 c3=>Zbq g.sp g.bj g.mb g.bp s j d (c1::c2::c3::L) (Zc (Zc (Zc hsi))) (Zc (Zc (Zc hjn))) hjl hlt
   have g00:=g0 dn
   have hdn:dn[d]? = some (dn.getD d true):=getD_some (by omega)
   have gD:=ndL_done (sv:=pt g.sp 0) (bp:=g.bp) (lv:=LV) hlv hdn
   have gP:=ndL_putD (sv:=pt g.sp 0) (bp:=g.bp) (lv:=LV) (dn:=dn) (d:=d) true hlv (by omega)
   obtain ⟨a5,cap5,he5,-,-⟩:=hv1.rd Qh
   subst he5
   have hnx:Ud s (U2 j) (done,ev) (d+1)=Wo s (U2 j) (dn,es1) d:=hsucc
   by_cases hdone:dn.getD d true=true
   ·rw [hdone] at gD
    have e2:Wo s (U2 j) (dn,es1) d=(dn,es1):=by unfold Wo;rw [if_pos (.inl hdone)]
    rw [e2] at hnx
    repeat' (first|refine uN ?_|refine Yd S ?_|refine Yu S ?_|refine uC (ks _ _ _) ?_|refine Yy (fun _=>ks _ _ _) ?_|refine Yz (fun _=>ks _ _ _) ?_|refine Y0 (fun _=>ks _ _ _) ?_|refine Y1 (fun _=>ks _ _ _) ?_|(refine uB ?_;intro b)|(refine uP ?_ ?_<;>(intro h;((try simp only [zs,zq,reduceCtorEq] at h);try exact zx)))|refine da 101 ?_|fail)
    refine Zy (d+1,.slice a5 es1.length cap5,c1) uS ?_ ⟨by simp only;omega,?_⟩ (by simp only;omega)
    ·rw [hnx];exact LS.c (LS.refl _)
    ·rw [hnx];exact hv1
   ·have hdf:dn.getD d true=false:=by simpa using hdone
    rw [hdf] at gD
    by_cases hph:U2 j d≠2∧U2 j d≠3
    ·have e2:Wo s (U2 j) (dn,es1) d=(dn,es1):=by unfold Wo;rw [if_pos (.inr hph)]
     rw [e2] at hnx
     unfold U2 at hph
     repeat' (first|refine uN ?_|refine Yd S ?_|refine Yu S ?_|refine uC (ks _ _ _) ?_|refine Yy (fun _=>ks _ _ _) ?_|refine Yz (fun _=>ks _ _ _) ?_|refine Y0 (fun _=>ks _ _ _) ?_|refine Y1 (fun _=>ks _ _ _) ?_|(refine uB ?_;intro b)|(refine uP ?_ ?_<;>(intro h;((try simp only [zs,zq,reduceCtorEq] at h);try exact zx)))|refine da 101 ?_|fail)
     all_goals refine Zy (d+1,.slice a5 es1.length cap5,c1) uS ?_ ⟨by simp only;omega,?_⟩ (by simp only;omega)
     all_goals rw [hnx]
     all_goals first|exact hv1|exact LS.c (LS.refl _)
    ·have e2:Wo s (U2 j) (dn,es1) d=(dn.set d true,if es1.length<500 then es1++[⟨s,d,U2 j d⟩] else es1):=by unfold Wo;rw [if_neg (by simp only [hdf];intro h;rcases h with h|h;cases h;exact hph h)]
     rw [e2] at hnx
     have hph':=hph
     unfold U2 at hph'
     by_cases h500:es1.length<500
     ·rw [if_pos h500] at hnx
      repeat' (first|refine uN ?_|refine Yd S ?_|refine Yu S ?_|refine uC (ks _ _ _) ?_|refine Yy (fun _=>ks _ _ _) ?_|refine Yz (fun _=>ks _ _ _) ?_|refine Y0 (fun _=>ks _ _ _) ?_|refine Y1 (fun _=>ks _ _ _) ?_|(refine uB ?_;intro b)|(refine uP ?_ ?_<;>(intro h;((try simp only [zs,zq,reduceCtorEq] at h);try exact zx)))|refine da 101 ?_|fail)
      all_goals refine fo 3 ?_
      all_goals refine wp1 S ⟨s,d,U2 j d⟩ hv1 Qh ec_one ?_
      all_goals intro v' c' hv'
      all_goals obtain ⟨a6,cap6,he6,-,-⟩:=hv'.rd Qh
      all_goals subst he6
      all_goals repeat' (first|refine uN ?_|refine Yd S ?_|refine Yu S ?_|refine uC (ks _ _ _) ?_|refine Yy (fun _=>ks _ _ _) ?_|refine Yz (fun _=>ks _ _ _) ?_|refine Y0 (fun _=>ks _ _ _) ?_|refine Y1 (fun _=>ks _ _ _) ?_|(refine uB ?_;intro b)|(refine uP ?_ ?_<;>(intro h;((try simp only [zs,zq,reduceCtorEq] at h);try exact zx)))|refine da 101 ?_|fail)
      all_goals refine Zy (d+1,.slice a6 (es1++[⟨s,d,U2 j d⟩]:List Evt).length cap6,c') uS ?_ ⟨by simp only;omega,?_⟩ (by simp only;omega)
      all_goals rw [hnx]
      all_goals first|exact hv'|exact uL
     ·rw [if_neg h500] at hnx
      repeat' (first|refine uN ?_|refine Yd S ?_|refine Yu S ?_|refine uC (ks _ _ _) ?_|refine Yy (fun _=>ks _ _ _) ?_|refine Yz (fun _=>ks _ _ _) ?_|refine Y0 (fun _=>ks _ _ _) ?_|refine Y1 (fun _=>ks _ _ _) ?_|(refine uB ?_;intro b)|(refine uP ?_ ?_<;>(intro h;((try simp only [zs,zq,reduceCtorEq] at h);try exact zx)))|refine da 101 ?_|fail)
      all_goals refine Zy (d+1,.slice a5 es1.length cap5,c1) uS ?_ ⟨by simp only;omega,?_⟩ (by simp only;omega)
      all_goals rw [hnx]
      all_goals first|exact hv1|exact LS.c (LS.refl _)
  ·obtain rfl:d=6:=by omega
   have hR6:Ud s (U2 j) (done,ev) 6=(dn,es1):=hRR
   rw [hR6]
   repeat' (first|refine uN ?_|refine Yd S ?_|refine Yu S ?_|(refine uB ?_;intro b)|(refine uP ?_ ?_<;>(intro h;((try simp only [zs,zq,reduceCtorEq] at h);try exact zx)))|refine da 101 ?_|fail)
   exact ee0 rfl ⟨_,_,hv1,rfl,by rw [hlv2 dn]⟩
end Go.HL
end

/-! WoF -/
section
namespace Go.HL
open Go Go.Proofs
def Yn:List (Option Ld):=List.replicate 6 none
def nil6:List Value:=List.replicate 6 (.pointer none)
theorem Zn1 : ∀ (ld:List (Nat × Value × List Zm)),ld.length=6→List.zipWith Zpm Yn ld=nil6
 | [_,_,_,_,_,_],_=>rfl
theorem Zlp {sv sv':Value} {bp:Nat} {lv:List Value} {dn:List Bool}:Zo (X6 sv bp lv dn) (0+0) [sv'] (X6 sv' bp lv dn):=by
 have:X6 sv' bp lv dn=(X6 sv bp lv dn).set (0+0) sv':=rfl
 rw [this]
 exact W5 (by simp [X6])
theorem ndL_putL {sv:Value} {bp:Nat} {lv lv':List Value} {dn:List Bool} (h:lv'.length=lv.length):Zo (X6 sv bp lv dn) (0+2) lv' (X6 sv bp lv' dn):=by
 have key:=Zf5 (l:=X6 sv bp lv dn) (i:=0+2) (vs:=lv') (by rw [X6,h];simp;omega)
 have e:(X6 sv bp lv dn).take (0+2)++lv'++(X6 sv bp lv dn).drop (0+2+lv'.length)=X6 sv bp lv' dn:=by
  rw [h]
  have e1:(X6 sv bp lv dn).drop (0+2+lv.length)=dn.map Value.bool:=by
   rw [X6]
   have:0+2+lv.length=([sv,pt bp 0]++lv).length:=by simp;omega
   rw [this,List.drop_left]
  rw [e1]
  simp [X6]
 rw [e] at key
 exact key
theorem Zag {sv:Value} {bp:Nat} {lv:List Value} {dn:List Bool} {d:Nat} {v:Value} (h:lv[d]? = some v):(X6 sv bp lv dn)[0+2+(d:Int).toNat*1]? = some v:=by
 have hlt:d<lv.length:=(List.getElem?_eq_some_iff.1 h).1
 rw [X6,List.append_assoc,List.getElem?_append_right (by simp<;>omega),List.getElem?_append_left (by simp<;>omega)]
 rw [show 0+2+(d:Int).toNat*1-[sv,pt bp 0].length=d by simp<;>omega]
 exact h
theorem Zlq {sv:Value} {bp:Nat} {lv:List Value} {dn:List Bool} {d:Nat} (v:Value) (h:d<lv.length):Zo (X6 sv bp lv dn) (0+2+(d:Int).toNat*1) [v] (X6 sv bp (lv.set d v) dn):=by
 have e:X6 sv bp (lv.set d v) dn=(X6 sv bp lv dn).set (0+2+(d:Int).toNat*1) v:=by
  rw [X6,X6,List.append_assoc,List.append_assoc,List.set_append_right _ _ (by simp<;>omega),List.set_append_left _ _ (by simp<;>omega)]
  rw [show 0+2+(d:Int).toNat*1-[sv,pt bp 0].length=d by simp<;>omega]
 rw [e]
 refine W5 ?_
 simp [X6]
 omega
set_option maxHeartbeats 2000000 attribute [local irreducible] HW HO HQ HD HC QOp Has Upd Zo Gets Ye Z6 Zq X0 Z5 Zj X7 Zw
attribute [local irreducible] X6 Z2 Yo Z3
theorem Zeb (g:NdG) (m:Nd) (L:Zb) (hl:(Yj g m).length=6) (hd:g.ld.length=6):HC Tryz.prog 99 [pt g.np 0] (Q1 g m::L) (fun v L'=>v = .tuple ⟨[]⟩∧L'=Q1 g { m with site:=none,leads:=Yn }::L):=by
 have e:Yj g { m with site:=none,leads:=Yn }=nil6:=Zn1 _ hd
 simp only [Q1,Qb,e,Zd9]
 have p0:=Zlp (sv:=Zd9 g m.site) (sv' := .pointer none) (bp:=g.bp) (lv:=Yj g m) (dn:=m.done)
 have p1:=ndL_putL (sv := .pointer none) (bp:=g.bp) (lv:=Yj g m) (lv':=nil6) (dn:=m.done) (by rw [hl];rfl)
 refine Za (fun _ _=>Tryz.call99 _ _) Tryz.func99 rfl Tryz.ntmps99 (Nat.le_of_ble_eq_true rfl) ?_;simp only [Ze,Nat.reduceAdd]
 repeat' (first|refine uN ?_)
 exact ee0 rfl ⟨rfl,rfl⟩
def Xv (s:Int) (m:Nd) (ev:List Evt) (f:Fr):Nd × List Evt × List Fr × Bool:=match m.site with
 | none=>(m,ev,[],false)
 | some (j,ref)=>if (Z3 s ref m.pl j f).1.off then (⟨(Z3 s ref m.pl j f).1,none,Yn,m.done⟩,ev,[],false)
  else (⟨(Z3 s ref m.pl j f).1,some ((Z3 s ref m.pl j f).2.1,ref),m.leads,(Xk s ⟨(Z3 s ref m.pl j f).1,some ((Z3 s ref m.pl j f).2.1,ref),m.leads,m.done⟩ ev).1⟩,
   (Xk s ⟨(Z3 s ref m.pl j f).1,some ((Z3 s ref m.pl j f).2.1,ref),m.leads,m.done⟩ ev).2,(Z3 s ref m.pl j f).2.2.1,(Z3 s ref m.pl j f).2.2.2.isNone)
theorem NpIn.cons {L:Zb} {nv:Value} {n:Nat} {s:Int} {np:Nat} (h:NpIn L nv n s np) (c:List Zm):NpIn (c::L) nv n s np:=by
 obtain ⟨⟨b,i,l,F,fr,cap,h1,h2,h3⟩,h4,h5⟩:=h
 exact ⟨⟨b,i,l,F,fr,cap,h1,Zc h2,h3⟩,h4,h5⟩
def HearQ (G:WdG) (s:Int) (g:NdG) (m:Nd) (ref:Int→Bool) (ev:List Evt) (r:Pl × Jn × List Fr × Option Nat) (L:Zb) (v:Value) (L':Zb):Prop:=
 if r.1.off then v = .tuple ⟨[Wn,.bool false]⟩∧L'=[(G.wp,Ur G)]::G.ec::Q1 g ⟨r.1,none,Yn,m.done⟩::Yo g.bp g.ba r.1::L
 else ∃ fv c evv c2,Xs fv r.2.2.1 c∧Vec 81 3 ec evv (Xk s ⟨r.1,some (r.2.1,ref),m.leads,m.done⟩ ev).2 c2∧v = .tuple ⟨[fv,.bool r.2.2.2.isNone]⟩ ∧
  L'=[(G.wp,Ur { G with ev:=evv,ec:=c2 })]::c2::Q1 g ⟨r.1,some (r.2.1,ref),m.leads,(Xk s ⟨r.1,some (r.2.1,ref),m.leads,m.done⟩ ev).1⟩::Zek g.sp g.bj g.mb s::Zeq g.mb g.es g.ck::Yo g.bp g.ba r.1::jC g.bj g.bp r.2.1::c::L
theorem Zmq (T:Nat) (E:Nat→Addr) (G:WdG) (s:Int) (g:NdG) (m:Nd) (f:Fr) (ev:List Evt) (n:Nat) (j:Jn) (ref:Int→Bool) (L:Zb) (hG:Er T E [2,3,5,6] L) (hp:NpIn L G.nv n s g.np) (hv:Vec 81 3 ec G.ev ev G.ec) (hl:ev.length≤500)
  (hN:NdOk g m) (w:List Int) (sn:Nat) (hI:NdI w sn m) (hs:m.site=some (j,ref)) (hj':(Z3 s ref m.pl j f).2.1.l.length=6):HC Tryz.prog 75 [pt G.wp 0,iv s,.agg ⟨fc f⟩] ([(G.wp,Ur G)]::G.ec::Q1 g m::Zek g.sp g.bj g.mb s::Zeq g.mb g.es g.ck::Yo g.bp g.ba m.pl::jC g.bj g.bp j::L)
  (HearQ G s g m ref ev (Z3 s ref m.pl j f) L):=by
 have hF:=hN.map j ref hs
 have hj:=(hI.jn hs).ji.jn
 have kh:=fun L hG=>Zmc T E g.sp g.bj g.mb g.bp g.ba s g.es g.ck ref m.pl j f L hG hF hI.pl hj
 generalize Z3 s ref m.pl j f=r at kh hj' ⊢
 obtain ⟨pl',j',fs,er⟩:=r
 simp only at kh hj' ⊢
 have hlvs : ∀ x,(Yj g ⟨pl',x,m.leads,m.done⟩).length=6:=fun x=>by simp [Yj,hI.leads,hN.ld]
 have hlvs0:(Yj g m).length=6:=by simp [Yj,hI.leads,hN.ld]
 have hpw:=Zd4 g.bp g.ba pl'
 have kf:=fun L=>Zeb g m L hlvs0 hN.ld
 unfold HearQ
 obtain ⟨pl,site,leads,done⟩:=m
 simp only at hs kh kf hlvs ⊢
 subst hs
 obtain ⟨wp,wv,wc,nv,nc,mb,es,ck,lv,lc,evv,evc,nd⟩:=G
 simp only at hv hp ⊢
 have hp0:=hp
 obtain ⟨⟨nb,i,l,F,fr,cap,rfl,hb,hg⟩,h0,h1⟩:=hp
 have g0:(X6 (pt g.sp 0) g.bp (Yj g ⟨pl,some (j,ref),leads,done⟩) done)[0+0]? = some (pt g.sp 0):=Xe rfl
 have g1:(X6 (pt g.sp 0) g.bp (Yj g ⟨pl,some (j,ref),leads,done⟩) done)[0+1]? = some (pt g.bp 0):=Xe rfl
 simp only [Ur,Q1,Qb,Zd9] at kf ⊢
 cases hoff:pl'.off with
 | true =>
  simp only [if_true]
  rw [hoff] at hpw
  refine Za (fun _ _=>Tryz.call75 _ _) Tryz.func75 rfl Tryz.ntmps75 (Nat.le_of_ble_eq_true rfl) ?_;simp only [Ze,Nat.reduceAdd]
  repeat' (first|refine uN ?_|refine Z0 S ?_|(refine uB ?_;intro b)|(refine uP ?_ ?_<;>(intro h;((try simp only [zs,zq,reduceCtorEq] at h);try exact zx)))|refine da 101 ?_|fail)
  refine fo 7 ?_
  refine fo 7 ?_
  refine fo 7 ?_
  refine fo 7 ?_
  refine gc (kh _ ?_) ?_
  ·exact ((((hG.cons _).cons _).cons _).cons _)
  rintro v L' ⟨fv,c,rfl,hfv,rfl⟩
  repeat' (first|refine uN ?_|refine Z0 S ?_|refine Vb (qC (V0 (hpw) 2)) ?_|refine Yy (fun _=>V0 (hpw) 2) ?_|refine Yz (fun _=>V0 (hpw) 2) ?_|refine Y0 (fun _=>V0 (hpw) 2) ?_|refine Y1 (fun _=>V0 (hpw) 2) ?_|(refine uB ?_;intro b)|(refine uP ?_ ?_<;>(intro h;((try simp only [zs,zq,reduceCtorEq] at h);try exact zx)))|refine da 101 ?_|fail)
  refine fo 8 ?_
  refine gc (kf _) ?_
  rintro v L' ⟨rfl,rfl⟩
  repeat' (first|refine uN ?_|refine Z0 S ?_|(refine uB ?_;intro b)|(refine uP ?_ ?_<;>(intro h;((try simp only [zs,zq,reduceCtorEq] at h);try exact zx)))|refine da 101 ?_|fail)
  exact Wz (L':=[(wp,.cells ⟨[wv,sl nb i n cap,.map (some mb),lv,evv]⟩ 110)]::evc::Q1 g ⟨pl',none,Yn,done⟩::Yo g.bp g.ba pl'::L) (by simp only [Q1,Qb];exact uL) ⟨rfl,rfl⟩
 | false =>
  simp only [Bool.false_eq_true,if_false]
  rw [hoff] at hpw
  have hkn:=fun (M1:Nd) (hM:M1=⟨pl',some (j',ref),leads,done⟩) (G1:WdG) (hG1:G1=⟨wp,wv,wc,sl nb i n cap,nc,mb,es,ck,lv,lc,evv,evc,nd⟩) L (hq:NpIn L (sl nb i n cap) n s g.np) (hsi:SiIn L g s j')=>Zed G1 s g M1 ev n L (by subst hG1;exact hv) hl (by subst hG1;exact hq) (by subst hM;exact hI.done) (by subst hM;exact hlvs _) (by subst hM;intro j2 r2 h2;cases h2;exact ⟨hsi,hj'⟩)
  have hkn:=fun L hq hsi=>hkn _ rfl _ rfl L hq hsi
  simp only [Ur,Q1,Qb,Zd9] at hkn
  refine Za (fun _ _=>Tryz.call75 _ _) Tryz.func75 rfl Tryz.ntmps75 (Nat.le_of_ble_eq_true rfl) ?_;simp only [Ze,Nat.reduceAdd]
  repeat' (first|refine uN ?_|refine Z0 S ?_|(refine uB ?_;intro b)|(refine uP ?_ ?_<;>(intro h;((try simp only [zs,zq,reduceCtorEq] at h);try exact zx)))|refine da 101 ?_|fail)
  refine fo 7 ?_
  refine fo 7 ?_
  refine fo 7 ?_
  refine fo 7 ?_
  refine gc (kh _ ?_) ?_
  ·exact ((((hG.cons _).cons _).cons _).cons _)
  rintro v L' ⟨fv,c,rfl,hfv,rfl⟩
  repeat' (first|refine uN ?_|refine Z0 S ?_|refine Vb (qC (V0 (hpw) 2)) ?_|refine Yy (fun _=>V0 (hpw) 2) ?_|refine Yz (fun _=>V0 (hpw) 2) ?_|refine Y0 (fun _=>V0 (hpw) 2) ?_|refine Y1 (fun _=>V0 (hpw) 2) ?_|(refine uB ?_;intro b)|(refine uP ?_ ?_<;>(intro h;((try simp only [zs,zq,reduceCtorEq] at h);try exact zx)))|refine da 101 ?_|fail)
  refine fo 8 ?_
  refine fo 8 ?_
  refine fo 8 ?_
  refine gc (hkn _ ?_ ?_) ?_
  ·exact (((((((⟨⟨nb,i,l,F,fr,cap,rfl,hb,hg⟩,h0,h1⟩:NpIn L (sl nb i n cap) n s g.np).cons _).cons _).cons _).cons _).cons _).cons _)
  ·exact ⟨Zh,Zc (Zc (Zc Zh))⟩
  rintro v L' ⟨evv',c2,hv2,rfl,rfl⟩
  obtain ⟨af,capf,rfl,-,-⟩:=hfv.rd Zs
  cases er with
  | none =>
   repeat' (first|refine uN ?_|refine Z0 S ?_|(refine uB ?_;intro b)|(refine uP ?_ ?_<;>(intro h;((try simp only [zs,zq,reduceCtorEq] at h);try exact zx)))|refine da 101 ?_|fail)
   exact Wz uL ⟨_,_,_,_,hfv,hv2,rfl,rfl⟩
  | some x =>
   repeat' (first|refine uN ?_|refine Z0 S ?_|(refine uB ?_;intro b)|(refine uP ?_ ?_<;>(intro h;((try simp only [zs,zq,reduceCtorEq] at h);try exact zx)))|refine da 101 ?_|fail)
   exact Wz uL ⟨_,_,_,_,hfv,hv2,rfl,rfl⟩
end Go.HL
end

/-! PlR -/
section
namespace Go.HL
open Go Go.Proofs
set_option maxHeartbeats 2000000 attribute [local irreducible] HW HO HQ HD HC QOp Has Upd Zo Gets Ye Z6 Zq X0 Z5 Zj X7 Zw
end Go.HL
end

/-! ErD1 -/
section
namespace Go.HL
open Go Go.Proofs
set_option maxHeartbeats 2000000 attribute [local irreducible] HW HO HQ HD HC QOp Has Upd Zo Gets Ye Z6 Zq X0 Z5 Zj X7 Zw
end Go.HL
end

/-! PlC -/
section
namespace Go.HL
open Go Go.Proofs
theorem hcHas2 {P:Program} {F:Nat} {args:List Value} {b c:Nat} {o q:Obj} {V:Value} (h : ∀ L,HC P F args ([(b,o),(c,q)]::L) (fun v L'=>v=V∧L'=[(b,o),(c,q)]::L)) (hne:(c,q)≠(b,o)) {L:Zb} (hb:Has L b o) (hc:Has L c q):HC P F args L (fun v L'=>v=V∧L'=L):=by
 obtain ⟨l1,l2,e⟩:=List.append_of_mem hb
 have hm:(c,q)∈l1++l2:=by
  have:(c,q)∈l1++(b,o)::l2:=e▸hc
  simp only [List.mem_append,List.mem_cons] at this ⊢
  rcases this with h|h|h
  ·exact .inl h
  ·exact absurd h hne
  ·exact .inr h
 obtain ⟨m1,m2,e2⟩:=List.append_of_mem hm
 have hp:List.Perm L.flatten ([(b,o),(c,q)]::[m1++m2]).flatten:=by
  rw [e]
  simp only [List.flatten_cons,List.flatten_nil,List.append_nil,List.cons_append,List.nil_append]
  refine List.perm_middle.trans (.cons _ ?_)
  rw [e2]
  exact List.perm_middle
 exact ⟨(h []).1,fun k w hs=>((h [m1++m2]).2 k w (hs.sp (LS.of_perm hp.symm))).mono fun e w' ⟨v,L',he,hs',hv,hL⟩=>⟨v,L,he,(hL▸hs').sp (LS.of_perm hp),hv,rfl⟩⟩
def plB (bp ba:Nat) (m:Pl):Zm:=(bp,.cells ⟨[sl ba 0 m.b.length m.b.length,.bool m.off,iv m.cut]⟩ 181)
def plD (ba:Nat) (m:Pl):Zm:=(ba,.cells ⟨m.b.map u8⟩ 5)
theorem Zqs (bp ba:Nat) (m:Pl) (L:Zb) (h : ∀ p∈[plB bp ba m,plD ba m],Has L p.1 p.2):HC Tryz.prog 123 [pt bp 0] L (fun v L'=>v=bs m.b∧L'=L):=
 hcHas2 (Zdr bp ba m) (by simp) (h (plB bp ba m) (by simp)) (h (plD ba m) (by simp))
section dt
variable {P:Program} (S:Tab P) {n:Nat} {ops:List Oper} {Q:Exit→Zr→Zb→Prop} {Ss:List (Nat × Zm)} {rem rem':List (Nat × Oper)} {ρ:Zr} {L:Zb} {ty:TypeId} {pos:String} {af:Array Edge} {g:Option (Nat × Bool)} {d i:Nat}
end dt
set_option maxHeartbeats 2000000 attribute [local irreducible] HW HO HQ HD HC QOp Has Upd Zo Gets Ye Z6 Zq X0 Z5 Zj X7 Zw
attribute [local irreducible] Yo Z4 plB plD
end Go.HL
end

/-! WoG -/
section
namespace Go.HL
open Go Go.Proofs
def Zcq (m:Pl) (d:Int):St:=((Zv m.b).getD d.toNat Zl).s
def X8 (M:Wm) (s d:Int):Option Nat:=match X2 M s with
 | some e=>some e
 | none=>if d<0∨6≤d then some 2 else none
def Uj (M:Wm) (s d:Int):St:=match X8 M s d with
 | some _=>W2
 | none=>Zcq (Zf M s).pl d
theorem Zh2 (b:List UInt8):(Zv b).length=6:=by simp [Zv]
theorem WdIn.cons {L:Zb} {G:WdG} {M:Wm} (h:WdIn L G M) (c:List Zm):WdIn (c::L) G M:=by
 obtain ⟨h1,⟨a2,c2,e2,r2⟩,⟨a3,c3,e3,r3⟩,⟨a4,c4,e4,r4⟩,h5⟩:=h
 exact ⟨Zc h1,⟨a2,c2,e2,r2.cons c⟩,⟨a3,c3,e3,r3.cons c⟩,⟨a4,c4,e4,r4.cons c⟩,h5⟩
set_option maxHeartbeats 2000000 attribute [local irreducible] HW HO HQ HD HC QOp Has Upd Zo Gets Ye Z6 Zq X0 Z5 Zj X7 Zw
attribute [local irreducible] X6 Z2 Yo Zv
theorem Zc3 (T:Nat) (E:Nat→Addr) (G:WdG) (M:Wm) (s d:Int) (L:Zb) (hG:Er T E [2,6] L) (hI:WdIn L G M) (hl:G.nd.length=M.n.length) (hN:X2 M s=none→Has L (Zg G s).np (Qb (Zg G s) (Zf M s)))
  (hP:X2 M s=none→216≤(Zf M s).pl.b.length∧(Zf M s).pl.b.length≤512 ∧ ∀ p∈[plB (Zg G s).bp (Zg G s).ba (Zf M s).pl,plD (Zg G s).ba (Zf M s).pl],Has L p.1 p.2) :
  HC Tryz.prog 68 [pt G.wp 0,iv s,iv d] L (fun v L'=>v = .tuple ⟨[.agg ⟨sc (Uj M s d)⟩,eV T E (X8 M s d)]⟩∧L'=L):=by
 have kn:=fun L hG hI=>Wf T E G M s L hG hI hl
 unfold Uj X8
 rcases Wt (M:=M) s with he|⟨he,h0,h1⟩
 ·simp only [he] at kn ⊢
  refine Za (fun _ _=>Tryz.call68 _ _) Tryz.func68 rfl Tryz.ntmps68 (Nat.le_of_ble_eq_true rfl) ?_;simp only [Ze,Nat.reduceAdd]
  repeat' (first|refine uN ?_|refine Vb (qC (kn _ (hG.sub.cons _) (hI.cons _))) ?_|(refine uB ?_;intro b)|(refine uP ?_ ?_<;>(intro h;((try simp only [zs,zq,reduceCtorEq] at h);try exact zx)))|fail)
  exact Wz (LS.c (LS.refl _)) ⟨rfl,rfl⟩ (hx:=Vw S (hg:=Zd rfl (Zd rfl (Zd rfl Zx))))
 ·have hN':=hN he
  obtain ⟨hp1,hp2,hp3⟩:=hP he
  simp only [he] at kn ⊢
  generalize Zf M s=m at hN' hp1 hp2 hp3 ⊢
  generalize hg:Zg G s=g at hN' hp3 kn
  have hbh : ∀ c:List Zm,∀ p∈[plB g.bp g.ba m.pl,plD g.ba m.pl],Has (c::L) p.1 p.2:=fun c p hp=>Zc (hp3 p hp)
  unfold Qb at hN'
  have g1:(X6 (Zd9 g m.site) g.bp (Yj g m) m.done)[0+1]? = some (pt g.bp 0):=Xe rfl
  refine Za (fun _ _=>Tryz.call68 _ _) Tryz.func68 rfl Tryz.ntmps68 (Nat.le_of_ble_eq_true rfl) ?_;simp only [Ze,Nat.reduceAdd]
  repeat' (first|refine uN ?_|refine Vb (qC (kn _ (hG.sub.cons _) (hI.cons _))) ?_|refine Vb (qC (Zqs g.bp g.ba m.pl _ (hbh _))) ?_|(refine uB ?_;intro b)|(refine uP ?_ ?_<;>(intro h;((try simp only [zs,zq,reduceCtorEq] at h);try exact zx)))|fail)
  refine gc (Zng T E m.pl.b _ (hG.sub.cons _) (by omega)) ?_
  simp only [if_pos hp2]
  rintro v L' ⟨bp,ba,rfl,rfl⟩
  repeat' (first|refine uN ?_|refine Vb (qC (kn _ (hG.sub.cons _) (hI.cons _))) ?_|(refine uB ?_;intro b)|(refine uP ?_ ?_<;>(intro h;((try simp only [zs,zq,reduceCtorEq] at h);try exact zx)))|fail)
  refine gc (Zf1 T E bp ba _ _ (hG.cons _) (by simp only;omega)) ?_
  have hnl : ¬ (m.pl.b.length<216):=by omega
  simp only [if_neg hnl,Bool.false_eq_true,if_false]
  rintro v L' ⟨bj,rfl,rfl⟩
  repeat' (first|refine uN ?_|refine Vb (qC (kn _ (hG.sub.cons _) (hI.cons _))) ?_|(refine uB ?_;intro b)|(refine uP ?_ ?_<;>(intro h;((try simp only [zs,zq,reduceCtorEq] at h);try exact zx)))|fail)
  refine gc (Zhl T E bj bp _ d _ ((hG.sub.cons _).cons _) (Zh2 _)) ?_
  by_cases hd:d<0∨6≤d
  ·simp only [if_pos hd]
   rintro v L' ⟨rfl,rfl⟩
   repeat' (first|refine uN ?_|refine Vb (qC (kn _ (hG.sub.cons _) (hI.cons _))) ?_|(refine uB ?_;intro b)|(refine uP ?_ ?_<;>(intro h;((try simp only [zs,zq,reduceCtorEq] at h);try exact zx)))|fail)
   exact Wz (LS.c (LS.c (LS.c (LS.refl _)))) ⟨rfl,rfl⟩ (hx:=Vw S (hg:=Zd rfl (Zd rfl (Zd rfl Zx))))
  ·simp only [if_neg hd]
   rintro v L' ⟨rfl,rfl⟩
   repeat' (first|refine uN ?_|refine Vb (qC (kn _ (hG.sub.cons _) (hI.cons _))) ?_|(refine uB ?_;intro b)|(refine uP ?_ ?_<;>(intro h;((try simp only [zs,zq,reduceCtorEq] at h);try exact zx)))|fail)
   exact Wz (LS.c (LS.c (LS.c (LS.refl _)))) ⟨rfl,rfl⟩ (hx:=Vw S (hg:=Zd rfl (Zd rfl (Zd rfl Zx))))
end Go.HL
end

/-! WoM -/
section
namespace Go.HL
open Go Go.Proofs
def Xb (M:Wm) (s:Int) (m:Nd):Wm:={ M with n:=M.n.set s.toNat m }
def Ua (d:Int) (m:Nd):Bool:=decide (Zcq m.pl d≠W2) || (m.leads.getD d.toNat none).isSome
def Vg (M:Wm) (s d:Int):Wm × Option Nat:=
 if d<0∨6≤d∨s<0∨M.n.length≤s then (M,some 2) else
 match Zgy M s with
 | some e=>(M,some e)
 | none=>if M.n.any (Ua d) then (M,some 8) else
  ({ Xb M s { Zf M s with leads:=(Zf M s).leads.set d.toNat (some (Zk s d M.w 0 2)) } with l:=M.l++Xx (Zk s d M.w 0 2) },none)
def Za0 (m:Nd) (d:Int):Nd:=match m.site with
 | none=>m
 | some (j,ref)=>{ m with site:=some (j,fun x=>if x=d then true else ref x) }
def W7 (M:Wm) (s d:Int):Wm × Option Nat:=
 if d<0∨6≤d then (M,some 2) else
 match Zgy M s with
 | some e=>(M,some e)
 | none=>(Xb M s (Za0 (Zf M s) d),none)
def Y3 (M:Wm) (s:Int) (f:Fr):Wm × List Fr × Bool:=
 ({ Xb M s (Xv s (Zf M s) M.ev f).1 with ev:=(Xv s (Zf M s) M.ev f).2.1 },(Xv s (Zf M s) M.ev f).2.2)
def Z8 (m:Ld) (l:List Fr):Ld × List Fr:=l.foldl (fun q f=>((Yf q.1 f).1,q.2++(Yf q.1 f).2)) (m,[])
def Xc (m:Nd) (d promise:Int):Int:=match m.leads.getD d.toNat none with
 | none=>promise
 | some x=>max promise x.seen
def Zdi (k s a:Int):Int:=a+(s-a) % k
def Zbd (s d a:Int):Fr:=⟨s,s,d,3,a,false,W2⟩
def Zcy (M:Wm) (s d promise:Int):Wm × Bool:=
 let a:=Zdi M.w.length s (Xc (Zf M s) d promise+1)
 if 1048576<a then (M,true) else
 let r:=Y3 M s (Zbd s d a)
 if r.2.2=false then (r.1,false) else
 let q:=Z8 (Zk s d M.w a 4) r.2.1
 ({ Xb r.1 s { Zf r.1 s with leads:=(Zf r.1 s).leads.set d.toNat (some q.1) } with l:=r.1.l++Xx (Zk s d M.w a 4)++q.2 },true)
def Uk (M:Wm) (s:Int) (d:Int) (st:St):List Fr:=(List.range M.w.length).map fun (i:Nat)=>(⟨s,(i:Int),d,7,st.pr,false,⟨st.ph,0,0⟩⟩:Fr)
def Zan (s:Int) (q:Wm × Bool) (d:Nat):Wm × Bool:=
 if q.2=false then q else
 match (Zf q.1 s).site with
 | none=>(q.1,false)
 | some (j,_) =>
  if Y4 j d=W2 then q else
  if (Y4 j d).ph=2∨(Y4 j d).ph=3 then ({ q.1 with l:=q.1.l++Uk q.1 s d (Y4 j d) },true) else
  Zcy q.1 s d (Y4 j d).pr
def U8 (M:Wm) (s:Int):Wm × Option Nat:=match Zgy M s with
 | some e=>(M,some e)
 | none=>(((List.range 6).foldl (Zan s) (M,true)).1,none)
def Zpp (f:Fr):Int × Int:=(min f.fr f.to,max f.fr f.to)
def Yc (M:Wm) (k:Int):Wm × Option Nat:=match Zsj M k with
 | some e=>(M,some e)
 | none =>
  let f:=M.l.getD k.toNat W1
  let M1:Wm:={ M with l:=M.l.eraseIdx k.toNat }
  if (Zf M1 f.to).site.isNone∨M.br (Zpp f)=true then (M1,none) else
  if f.kd=2∨f.kd=4∨f.kd=6 then
   match (Zf M1 f.to).leads.getD f.dl.toNat none with
   | none=>(M1,none)
   | some x=>({ Xb M1 f.to { Zf M1 f.to with leads:=(Zf M1 f.to).leads.set f.dl.toNat (some (Yf x f).1) } with l:=M1.l++(Yf x f).2 },none)
  else ({ (Y3 M1 f.to f).1 with l:=M1.l++(Y3 M1 f.to f).2.1 },none)
def Q9 (M:Wm) (k:Int):Wm × Option Nat:=match Zsj M k with
 | some e=>(M,some e)
 | none=>({ M with l:=M.l.eraseIdx k.toNat },none)
def Uh (M:Wm) (k:Int):Wm × Option Nat:=match Zsj M k with
 | some e=>(M,some e)
 | none=>({ M with l:=M.l.take (k+1).toNat++M.l.getD k.toNat W1::M.l.drop (k+1).toNat },none)
def U1 (M:Wm) (a b:Int) (whole:Bool):Wm × Option Nat:=
 if a<0∨M.n.length≤a∨b<0∨M.n.length≤b then (M,some 2) else
 ({ M with br:=fun x=>if x=(min a b,max a b) then (!whole && decide (a≠b)) else M.br x },none)
def Ze6 (M:Wm) (s n:Int):Wm × Option Nat:=
 if n<0 then (M,some 2) else
 match Zgy M s with
 | some e=>(M,some e)
 | none=>(Xb M s { Zf M s with pl:={ (Zf M s).pl with cut:=n } },none)
def Zo6 (m:Nd):Nd:=⟨{ m.pl with off:=true },none,Yn,m.done⟩
def Q8 (M:Wm) (s:Int):Wm × Option Nat:=match Zgy M s with
 | some e=>(M,some e)
 | none=>(Xb M s (Zo6 (Zf M s)),none)
def Q6 (m:Nd):Nd:=⟨{ m.pl with off:=false,cut := -1 },some (⟨Zv m.pl.b,false⟩,fun _=>false),m.leads,m.done⟩
def Zst (M:Wm) (s:Int):Wm × Option Nat:=match X2 M s with
 | some e=>(M,some e)
 | none=>if (Zf M s).site.isSome then (M,some 8) else
  ({ Xb M s { Q6 (Zf M s) with done:=(Xk s (Q6 (Zf M s)) M.ev).1 } with ev:=(Xk s (Q6 (Zf M s)) M.ev).2 },none)
def Znq (M:Wm) (s:Int):Bool × Option Nat:=match X2 M s with
 | some e=>(false,some e)
 | none=>((Zf M s).site.isSome,none)
def Zbl (M:Wm) (s d:Int):List UInt8 × Option Nat:=
 if s<0∨M.n.length≤s∨d<0∨6≤d then ([],some 2) else
 match (Zf M s).leads.getD d.toNat none with
 | none=>([110,111,110,101],none)
 | some x=>(x.state,none)
def newNd:Nd:=⟨⟨Z4 512,false,-1⟩,some (⟨Zv (Z4 512),false⟩,fun _=>false),Yn,List.replicate 6 false⟩
def Q2 (w:List Int):Wm:=⟨w,List.replicate w.length newNd,fun _=>false,[],[]⟩
end Go.HL
end

/-! WoN -/
section
namespace Go.HL
open Go Go.Proofs
def Zh6 (g:NdG) (i:Int):Option (Jn × (Int→Bool))→List Zm
 | none=>[]
 | some _=>Zek g.sp g.bj g.mb i
def Zh5 (g:NdG):Option (Jn × (Int→Bool))→List Zm
 | none=>[]
 | some _=>Zeq g.mb g.es g.ck
def Zh4 (g:NdG):Option (Jn × (Int→Bool))→List Zm
 | none=>[]
 | some (j,_)=>jC g.bj g.bp j
theorem siB_cut (g:NdG) (i:Int) (s:Option (Jn × (Int→Bool))):siB g i s=Zh6 g i s++(Zh5 g s++Zh4 g s):=by
 rcases s with _|⟨j,r⟩
 ·rfl
 ·simp [siB,Zh6,Zh5,Zh4]
def Xh (G:WdG) (s:Int) (g:NdG) (m:Nd) (X:List Zm) (L:Zb):Zb:=
 [(G.wp,Ur G)]::G.ec::Q1 g m::Zh6 g s m.site::Zh5 g m.site::Yo g.bp g.ba m.pl::Zh4 g m.site::Qm g m::G.lc::G.wc::G.nc::[(G.mb,.map ⟨G.es⟩ G.ck)]::X::L
theorem Zmm (G:WdG) (s:Int) (g:NdG) (m:Nd) (X:List Zm) (L:Zb):(Zc0 G++[Zfv g s m++X]++L).flatten=([(G.wp,Ur G)]::G.wc::G.nc::[(G.mb,.map ⟨G.es⟩ G.ck)]::G.lc::G.ec::Q1 g m::Yo g.bp g.ba m.pl::Zh6 g s m.site::Zh5 g m.site::Zh4 g m.site::Qm g m::X::L).flatten:=by
 simp only [Zc0,Zfv,siB_cut,List.flatten_cons,List.flatten_append,List.cons_append,List.nil_append,List.append_assoc,List.flatten_nil,List.append_nil]
theorem wdOp_ls (G:WdG) (s:Int) (g:NdG) (m:Nd) (X:List Zm) (L:Zb):LS (Xh G s g m X L).flatten (Zc0 G++[Zfv g s m++X]++L).flatten:=by
 rw [Zmm,Xh]
 exact uL
theorem Zqc (G:WdG) (s:Int) (g:NdG) (m:Nd) (X:List Zm) (L:Zb):LS (Zc0 G++[Zfv g s m++X]++L).flatten (Xh G s g m X L).flatten:=by
 rw [Zmm,Xh]
 exact uL
theorem Zao {s:Int} (h:0≤s):((0+s.toNat:Nat):Int)=s:=by omega
theorem Zlr {gs:List NdG} {ms:List Nd} {s:Int} {g:NdG} {m:Nd} (h0:0≤s) (hg:gs[s.toNat]? = some g) (hm:ms[s.toNat]? = some m) (T:Zb) (L:Zb):List.Perm (T++[Vi gs ms 0]++L).flatten (T++[Zfv g s m++X9 gs ms 0 s.toNat]++L).flatten:=by
 have:=Zfw (i:=0) hg hm
 rw [Zao h0] at this
 simp only [List.flatten_append,List.flatten_cons,List.flatten_nil,List.append_nil]
 exact (this.append_left _).append_right _
theorem Zew {G:WdG} {M:Wm} {s:Int} (hl:G.nd.length=M.n.length) (h0:0≤s) (h1:s<M.n.length) (L:Zb):LS (Xh G s (Zg G s) (Zf M s) (X9 G.nd M.n 0 s.toNat) L).flatten (Yl G M++L).flatten:=by
 have hg:G.nd[s.toNat]? = some (Zg G s):=getD_some (by omega)
 have hm:M.n[s.toNat]? = some (Zf M s):=getD_some (by omega)
 refine LS.trans (wdOp_ls _ _ _ _ _ _) (LS.of_perm ?_)
 exact (Zlr h0 hg hm (Zc0 G) L).symm
theorem Zgr {G:WdG} {gs:List NdG} {ms:List Nd} {s:Int} {g:NdG} {m:Nd} (h0:0≤s) (h1:s.toNat<gs.length) (h2:s.toNat<ms.length) (L:Zb):LS (Zc0 G++[Vi (gs.set s.toNat g) (ms.set s.toNat m) 0]++L).flatten (Xh G s g m (X9 gs ms 0 s.toNat) L).flatten:=by
 have hg:(gs.set s.toNat g)[s.toNat]? = some g:=by simp [h1]
 have hm:(ms.set s.toNat m)[s.toNat]? = some m:=by simp [h2]
 refine LS.trans (LS.of_perm (Zlr h0 hg hm (Zc0 G) L)) ?_
 rw [Zps]
 exact Zqc _ _ _ _ _ _
theorem Zdk {G:WdG} {M:Wm} {s:Int} (hl:G.nd.length=M.n.length) (h0:0≤s) (h1:s<M.n.length) {b:Nat} {o:Obj} (hb:(b,o)∈Zfv (Zg G s) s (Zf M s)) (L:Zb):Has (Vi G.nd M.n 0::L) b o:=by
 have hg:G.nd[s.toNat]? = some (Zg G s):=getD_some (by omega)
 have hm:M.n[s.toNat]? = some (Zf M s):=getD_some (by omega)
 have:=Zfw (i:=0) hg hm
 rw [Zao h0] at this
 unfold Has
 rw [List.flatten_cons]
 exact List.mem_append_left _ (this.mem_iff.2 (List.mem_append_left _ hb))
theorem Zqd {G:WdG} {M:Wm} {s:Int} (hl:G.nd.length=M.n.length) (h0:0≤s) (h1:s<M.n.length) (L:Zb):Has (Vi G.nd M.n 0::L) (Zg G s).np (Qb (Zg G s) (Zf M s)):=
 Zdk hl h0 h1 (by simp [Zfv,Q1]) L
theorem Wp {G:WdG} {M:Wm} (h:WdOk G M) {s:Int} (h0:0≤s) (h1:s<M.n.length):NdOk (Zg G s) (Zf M s):=by
 have hl:=h.ndl
 exact h.nd s.toNat _ _ (getD_some (by omega)) (getD_some (by omega))
theorem Qa {M:Wm} (h:WI M) {s:Int} (h0:0≤s) (h1:s<M.n.length):NdI M.w s.toNat (Zf M s):=h.nd s.toNat _ (getD_some (by omega))
theorem WdOk.setL {G:WdG} {M:Wm} (h:WdOk G M) {lv:Value} {lc:List Zm} {l:List Fr} (hv:Xs lv l lc):WdOk { G with lv:=lv,lc:=lc } { M with l:=l }:=⟨h.w,h.nodes,h.ndl,h.br,hv,h.ev,h.nd⟩
theorem WdOk.setE {G:WdG} {M:Wm} (h:WdOk G M) {ev:Value} {c:List Zm} {l:List Evt} (hv:Vec 81 3 ec ev l c):WdOk { G with ev:=ev,ec:=c } { M with ev:=l }:=⟨h.w,h.nodes,h.ndl,h.br,h.l,hv,h.nd⟩
theorem WdOk.setB {G:WdG} {M:Wm} (h:WdOk G M) {es:List MapEntry} {ck:Nat} {f:Int × Int→Bool} (hv:Zw pk es f):WdOk { G with es:=es,ck:=ck } { M with br:=f }:=⟨h.w,h.nodes,h.ndl,hv,h.l,h.ev,h.nd⟩
theorem WdOk.put {G:WdG} {M:Wm} (h:WdOk G M) {s:Int} {g:NdG} {m:Nd} (h0:0≤s) (h1:s<M.n.length) (hn:NdOk g m) (hp:g.np=(Zg G s).np):WdOk { G with nd:=G.nd.set s.toNat g } (Xb M s m):=by
 have hl:=h.ndl
 have e:(G.nd.set s.toNat g).map (·.np)=G.nd.map (·.np):=by
  rw [List.map_set,hp]
  have hg:G.nd[s.toNat]? = some (Zg G s):=getD_some (by omega)
  refine List.ext_getElem? fun i=>?_
  rw [List.getElem?_set]
  split
  ·rename_i hi
   subst hi
   rw [if_pos (by simp;omega),List.getElem?_map,hg]
   rfl
  ·rfl
 refine ⟨h.w,by simp only [e];exact h.nodes,by simp [Xb,hl],h.br,h.l,h.ev,fun q g1 m1 V0 hq2=>?_⟩
 simp only [Xb,List.getElem?_set] at V0 hq2
 by_cases hq:s.toNat=q
 ·rw [if_pos hq] at V0 hq2
  split at V0
  ·split at hq2
   ·cases V0;cases hq2;exact hn
   ·cases hq2
  ·cases V0
 ·rw [if_neg hq] at V0 hq2
  exact h.nd q g1 m1 V0 hq2
theorem Zjf {G:WdG} {s:Int} {g:NdG} (h0:0≤s) (h1:s<G.nd.length) (hp:g.np=(Zg G s).np):(G.nd.set s.toNat g).map (·.np)=G.nd.map (·.np):=by
 rw [List.map_set,hp]
 have hg:G.nd[s.toNat]? = some (Zg G s):=getD_some (by omega)
 refine List.ext_getElem? fun i=>?_
 rw [List.getElem?_set]
 split
 ·rename_i hi
  subst hi
  rw [if_pos (by simp;omega),List.getElem?_map,hg]
  rfl
 ·rfl
def Zdp (G:WdG) (M':Wm) (L L':Zb):Prop := ∃ G',G'.wp=G.wp∧G'.nd.map (·.np)=G.nd.map (·.np)∧WdOk G' M'∧L'=Yl G' M'++L
theorem We {G:WdG} {M:Wm} (h:WdOk G M) (L:Zb):Zdp G M L (Yl G M++L):=⟨G,rfl,rfl,h,rfl⟩
theorem Zpu {G G':WdG} (h:G'.nd.map (·.np)=G.nd.map (·.np)) {s:Int} (h0:0≤s) (h1:s<G.nd.length):(Zg G' s).np=(Zg G s).np:=by
 have hl:G'.nd.length=G.nd.length:=by simpa using congrArg List.length h
 have e1:G'.nd[s.toNat]? = some (Zg G' s):=getD_some (by omega)
 have e2:G.nd[s.toNat]? = some (Zg G s):=getD_some (by omega)
 have:=congrArg (fun l=>l[s.toNat]?) h
 simp only [List.getElem?_map,e1,e2,Option.map_some,Option.some.injEq] at this
 exact this
theorem HC.node {F:Nat} {args:List Value} {G:WdG} {M M':Wm} {s:Int} {L:Zb} {V:Value→Prop} (h:WdOk G M) (h0:0≤s) (h1:s<M.n.length)
  (k:HC Tryz.prog F args (Xh G s (Zg G s) (Zf M s) (X9 G.nd M.n 0 s.toNat) L) (fun v L'=>V v ∧ ∃ G' M1 g' m',WdOk G' M1∧G'.nd=G.nd∧M1.n=M.n∧G'.wp=G.wp∧NdOk g' m'∧g'.np=(Zg G s).np∧M'=Xb M1 s m'∧L'=Xh G' s g' m' (X9 G.nd M.n 0 s.toNat) L)) :
  HC Tryz.prog F args (Yl G M++L) (fun v L'=>V v∧Zdp G M' L L'):=by
 have hl:=h.ndl
 refine HC.post (HC.sp k (Zew hl h0 h1 L)) ?_
 rintro v L' ⟨hv,G',M1,g',m',hW,e1,e2,e3,hN,e4,rfl,rfl⟩
 have hnp:g'.np=(Zg G' s).np:=by rw [e4];unfold Zg;rw [e1]
 refine ⟨Yl { G' with nd:=G'.nd.set s.toNat g' } (Xb M1 s m')++L,?_,hv,{ G' with nd:=G'.nd.set s.toNat g' },e3,?_,hW.put h0 (by rw [e2];exact h1) hN hnp,rfl⟩
 ·simp only [Yl,Xb,e1,e2]
  exact Zgr (G:=G') h0 (by omega) (by omega) L
 ·simp only
  rw [← e1]
  exact Zjf h0 (by rw [e1];omega) hnp
theorem HC.nodeC {F:Nat} {args:List Value} {G:WdG} {M M':Wm} {s:Int} {L:Zb} {V:Value→List Zm→Prop} (h:WdOk G M) (h0:0≤s) (h1:s<M.n.length)
  (k:HC Tryz.prog F args (Xh G s (Zg G s) (Zf M s) (X9 G.nd M.n 0 s.toNat) L) (fun v L' => ∃ c,V v c ∧ ∃ G' M1 g' m',WdOk G' M1∧G'.nd=G.nd∧M1.n=M.n∧G'.wp=G.wp∧NdOk g' m'∧g'.np=(Zg G s).np∧M'=Xb M1 s m'∧L'=Xh G' s g' m' (X9 G.nd M.n 0 s.toNat) (c::L))) :
  HC Tryz.prog F args (Yl G M++L) (fun v L' => ∃ c,V v c∧Zdp G M' (c::L) L'):=by
 have hl:=h.ndl
 refine HC.post (HC.sp k (Zew hl h0 h1 L)) ?_
 rintro v L' ⟨c,hv,G',M1,g',m',hW,e1,e2,e3,hN,e4,rfl,rfl⟩
 have hnp:g'.np=(Zg G' s).np:=by rw [e4];unfold Zg;rw [e1]
 refine ⟨Yl { G' with nd:=G'.nd.set s.toNat g' } (Xb M1 s m')++(c::L),?_,c,hv,{ G' with nd:=G'.nd.set s.toNat g' },e3,?_,hW.put h0 (by rw [e2];exact h1) hN hnp,rfl⟩
 ·simp only [Yl,Xb,e1,e2]
  exact Zgr (G:=G') h0 (by omega) (by omega) _
 ·simp only
  rw [← e1]
  exact Zjf h0 (by rw [e1];omega) hnp
theorem NdOk.fall {g:NdG} {m:Nd} (h:NdOk g m) (pl:Pl) (dn:List Bool):NdOk g ⟨pl,none,Yn,dn⟩:=by
 refine ⟨h.ld,fun d x hx=>?_,fun j ref hs=>by cases hs⟩
 simp only [Yn,List.getElem?_replicate] at hx
 split at hx<;>cases hx
theorem NdOk.same {g:NdG} {m:Nd} (h:NdOk g m) {j:Jn} {ref:Int→Bool} (hs:m.site=some (j,ref)) (pl:Pl) (j':Jn) (dn:List Bool):NdOk g ⟨pl,some (j',ref),m.leads,dn⟩:=
 ⟨h.ld,h.lok,fun j2 r2 e=>by cases e;exact h.map j ref hs⟩
theorem Zcm {G:WdG} {M:Wm} (h:WdOk G M) {s:Int} (h0:0≤s) (h1:s<M.n.length) {H:Zb} (hH : ∀ b o,(b,o)∈G.nc→Has H b o):NpIn H G.nv M.n.length s (Zg G s).np:=by
 have hl:=h.ndl
 obtain ⟨a,cap,hnv,-,hR⟩:=h.nodes.rd Zf2
 have hR2:=(hR []).mono (L':=H) fun b o hb=>hH b o (by simpa [Has] using hb)
 obtain ⟨b,i,l,F,fr,rfl,hb,hg⟩:=hR2.at1 (j:=s) h0 (by simp;omega)
 refine ⟨⟨b,i,l,F,fr,cap,by rw [hnv,List.length_map,hl],hb,?_⟩,h0,h1⟩
 have e:(G.nd.map (·.np))[s.toNat]'(by simp;omega)=(Zg G s).np:=by
  rw [List.getElem_map]
  unfold Zg
  rw [List.getD,List.getElem?_eq_getElem (by omega)]
  rfl
 rw [e] at hg
 exact hg 0 _ rfl
set_option maxHeartbeats 2000000 attribute [local irreducible] HW HO HQ HD HC QOp Has Upd Zo Gets Ye Z6 Zq X0 Z5 Zj X7 Zw
attribute [local irreducible] X6 Z2 Yo Z3
theorem Zc1 (T:Nat) (E:Nat→Addr) (G:WdG) (M:Wm) (s:Int) (f:Fr) (L:Zb) (hG:Er T E [2,3,5,6] L) (h:WdOk G M) (hI:WI M) (h0:0≤s) (h1:s<M.n.length) (hs:(Zf M s).site≠none) :
  HC Tryz.prog 75 [pt G.wp 0,iv s,.agg ⟨fc f⟩] (Yl G M++L) (fun v L' => ∃ c,(∃ fv,Xs fv (Y3 M s f).2.1 c∧v = .tuple ⟨[fv,.bool (Y3 M s f).2.2]⟩)∧Zdp G (Y3 M s f).1 (c::L) L'):=by
 refine HC.nodeC h h0 h1 ?_
 have hN:=Wp h h0 h1
 have hi:=Qa hI h0 h1
 have hn:=hI.wn
 have hnp:=Zcm h h0 h1 (H:=Qm (Zg G s) (Zf M s)::G.lc::G.wc::G.nc::[(G.mb,.map ⟨G.es⟩ G.ck)]::X9 G.nd M.n 0 s.toNat::L) fun b o hb=>Zc (Zc (Zc (Yi hb)))
 unfold Y3 Xv
 generalize hm:Zf M s=m at *
 cases hsi:m.site with
 | none=>exact absurd hsi hs
 | some q =>
  obtain ⟨j,ref⟩:=q
  have hsj:=Zme (id:=s) (ref:=ref) (hi.jn hsi) f
  have hj6:(Z3 s ref m.pl j f).2.1.l.length=6:=hsj.1.ji.jn.len
  have kh:=Zmq T E G s (Zg G s) m f M.ev M.n.length j ref (Qm (Zg G s) m::G.lc::G.wc::G.nc::[(G.mb,.map ⟨G.es⟩ G.ck)]::X9 G.nd M.n 0 s.toNat::L) ((((((hG.cons _).cons _).cons _).cons _).cons _).cons _) hnp h.ev hI.evl hN M.w s.toNat hi hsi hj6
  have ew:Xh G s (Zg G s) m (X9 G.nd M.n 0 s.toNat) L=[(G.wp,Ur G)]::G.ec::Q1 (Zg G s) m::Zek (Zg G s).sp (Zg G s).bj (Zg G s).mb s::Zeq (Zg G s).mb (Zg G s).es (Zg G s).ck::Yo (Zg G s).bp (Zg G s).ba m.pl::jC (Zg G s).bj (Zg G s).bp j::(Qm (Zg G s) m::G.lc::G.wc::G.nc::[(G.mb,.map ⟨G.es⟩ G.ck)]::X9 G.nd M.n 0 s.toNat::L):=by
   unfold Xh;rw [hsi];rfl
  rw [ew]
  refine HC.post kh ?_
  intro v L' hq
  unfold HearQ at hq
  simp only
  split at hq
  ·rename_i hoff
   obtain ⟨rfl,rfl⟩:=hq
   refine ⟨Xh G s (Zg G s) ⟨(Z3 s ref m.pl j f).1,none,Yn,m.done⟩ (X9 G.nd M.n 0 s.toNat) ([]::L),?_,[],?_,G,M,Zg G s,_,h,rfl,rfl,rfl,hN.fall _ _,rfl,?_,rfl⟩
   ·simp only [Xh,Zh6,Zh5,Zh4]
    have:Qm (Zg G s) ⟨(Z3 s ref m.pl j f).1,none,Yn,m.done⟩=[]:=by
     unfold Qm Yn
     have:=hN.ld
     obtain ⟨a,b,c,d,e,f,hh⟩ : ∃ a b c d e f,(Zg G s).ld=[a,b,c,d,e,f]:=by
      match (Zg G s).ld,this with
      | [a,b,c,d,e,f],_=>exact ⟨_,_,_,_,_,_,rfl⟩
     rw [hh];rfl
    rw [this]
    exact uL
   ·rw [if_pos hoff]
    exact ⟨_,Yg,rfl⟩
   ·rw [if_pos hoff];rfl
  ·rename_i hoff
   obtain ⟨fv,c,evv,c2,hfv,hev,rfl,rfl⟩:=hq
   refine ⟨Xh { G with ev:=evv,ec:=c2 } s (Zg G s) ⟨(Z3 s ref m.pl j f).1,some ((Z3 s ref m.pl j f).2.1,ref),m.leads,(Xk s ⟨(Z3 s ref m.pl j f).1,some ((Z3 s ref m.pl j f).2.1,ref),m.leads,m.done⟩ M.ev).1⟩ (X9 G.nd M.n 0 s.toNat) (c::L),?_,c,?_,{ G with ev:=evv,ec:=c2 },_,Zg G s,_,h.setE hev,rfl,rfl,rfl,hN.same hsi _ _ _,rfl,?_,rfl⟩
   ·simp only [Xh,Zh6,Zh5,Zh4]
    exact uL
   ·rw [if_neg hoff]
    exact ⟨_,hfv,rfl⟩
   ·rw [if_neg hoff];rfl
end Go.HL
end

/-! WoO -/
section
namespace Go.HL
open Go Go.Proofs
theorem LS.mem {a b:List Zm} (h:LS a b) {x:Zm} (hx:x∈a):x∈b:=by
 obtain ⟨l,h1,h2⟩:=h
 exact h2.subset (h1.mem_iff.2 hx)
theorem Ui {G:WdG} {M:Wm} (h:WdOk G M) (L:Zb):WdIn (Yl G M++L) G M:=wdIn h fun b o hb=>by
 unfold Has Yl at *
 rw [List.append_assoc,List.flatten_append]
 exact List.mem_append_left _ hb
theorem Zjx {G:WdG} {M:Wm} (h:WdOk G M) (s:Int) (g:NdG) (m:Nd) (X:List Zm) (L:Zb):WdIn (Xh G s g m X L) G M:=wdIn h fun b o hb=>by
 unfold Has at *
 refine (Zqc G s g m X L).mem ?_
 rw [List.append_assoc,List.flatten_append]
 exact List.mem_append_left _ hb
theorem Qw {G:WdG} {M:Wm} {s:Int} (hl:G.nd.length=M.n.length) (h0:0≤s) (h1:s<M.n.length) (L:Zb):Has (Yl G M++L) (Zg G s).np (Qb (Zg G s) (Zf M s)):=by
 have:=Zqd hl h0 h1 L
 unfold Has Yl at *
 rw [List.append_assoc,List.flatten_append]
 exact List.mem_append_right _ this
theorem wdOp_has {G:WdG} {s:Int} {g:NdG} {m:Nd} {X:List Zm} {L:Zb}:Has (Xh G s g m X L) g.np (Qb g m):=by
 unfold Xh Q1
 exact Zc (Zc Zh)
def upV (G:WdG) (M:Wm) (s:Int):Value:=match X2 M s with
 | some _ => .pointer none
 | none=>pt (Zg G s).np 0
theorem Zqa {M:Wm} {s:Int} (h:Zgy M s=none):X2 M s=none∧0≤s∧s<M.n.length ∧ ∃ j ref,(Zf M s).site=some (j,ref):=by
 unfold Zgy at h
 rcases Wt (M:=M) s with he|⟨he,h0,h1⟩
 ·rw [he] at h;cases h
 ·rw [he] at h
  refine ⟨he,h0,h1,?_⟩
  cases hs:(Zf M s).site with
  | none=>rw [hs] at h;cases h
  | some q=>exact ⟨q.1,q.2,rfl⟩
theorem Zon {G:WdG} {M:Wm} {s:Int} (h:X2 M s=none):upV G M s=pt (Zg G s).np 0:=by unfold upV;rw [h]
theorem Zax {g:NdG} {m:Nd} {d:Nat} {o:Option Ld} {q:Nat × Value × List Zm} (h1:m.leads[d]? = some o) (h2:g.ld[d]? = some q):(Yj g m)[d]? = some (Zpm o q):=by
 unfold Yj
 rw [List.getElem?_zipWith,h1,h2]
theorem Zla {g:NdG} {m:Nd} {d:Nat} {x:Ld} {q:Nat × Value × List Zm} (h1:m.leads[d]? = some (some x)) (h2:g.ld[d]? = some q) {y:Zm} (hy:y∈Vs q.1 q.2.1 q.2.2 x):y∈Qm g m:=by
 unfold Qm
 refine List.mem_flatten.2 ⟨Vs q.1 q.2.1 q.2.2 x,?_,hy⟩
 refine List.mem_iff_getElem?.2 ⟨d,?_⟩
 rw [List.getElem?_zipWith,h1,h2]
 rfl
set_option maxHeartbeats 2000000 attribute [local irreducible] HW HO HQ HD HC QOp Has Upd Zo Gets Ye Z6 Zq X0 Z5 Zj X7 Zw
attribute [local irreducible] X6 Z2 Yo Z3 Y5
theorem lstateH (lp:Nat) (wv:Value) (m:Ld) (L:Zb) (h:Has L lp (.cells ⟨Y5 wv m⟩ 193)):HC Tryz.prog 77 [pt lp 0] L (fun v L'=>v=bs m.state∧L'=L):=hcHas (fun L=>Zi9 lp wv [] m L) h
theorem lseenH (lp:Nat) (wv:Value) (m:Ld) (L:Zb) (ht:m.told.length=7) (h:Has L lp (.cells ⟨Y5 wv m⟩ 193)):HC Tryz.prog 191 [pt lp 0] L (fun v L'=>v=iv m.seen∧L'=L):=hcHas (fun L=>Zlm lp wv [] m L ht) h
theorem Zgu (T:Nat) (E:Nat→Addr) (G:WdG) (M:Wm) (s:Int) (L:Zb) (hG:Er T E [2,6] L) (hI:WdIn L G M) (hl:G.nd.length=M.n.length) (hN:X2 M s=none→Has L (Zg G s).np (Qb (Zg G s) (Zf M s))) :
  HC Tryz.prog 66 [pt G.wp 0,iv s] L (fun v L'=>v = .tuple ⟨[upV G M s,eV T E (Zgy M s)]⟩∧L'=L):=by
 have k:=Zso T E G M s L hG hI hl hN
 unfold upV
 rcases Wt (M:=M) s with he|⟨he,h0,h1⟩
 ·have:Zgy M s=some 2:=by unfold Zgy;rw [he]
  simp only [he,this] at k ⊢
  exact k
 ·simp only [he] at k ⊢
  exact k
theorem Zsk (T:Nat) (E:Nat→Addr) (G:WdG) (M:Wm) (s:Int) (L:Zb) (hG:Er T E [2] L) (hI:WdIn L G M) (hl:G.nd.length=M.n.length) (hN:X2 M s=none→Has L (Zg G s).np (Qb (Zg G s) (Zf M s))) :
  HC Tryz.prog 94 [pt G.wp 0,iv s] L (fun v L'=>v = .tuple ⟨[.bool (Znq M s).1,eV T E (Znq M s).2]⟩∧L'=L):=by
 have kn:=Wf T E G M s L hG.sub hI hl
 unfold Znq
 rcases Wt (M:=M) s with he|⟨he,h0,h1⟩
 ·simp only [he] at kn ⊢
  refine Za (fun _ _=>Tryz.call94 _ _) Tryz.func94 rfl Tryz.ntmps94 (Nat.le_of_ble_eq_true rfl) ?_;simp only [Ze,Nat.reduceAdd]
  repeat' (first|refine uN ?_|refine uC (kn) ?_|(refine uP ?_ ?_<;>(intro h;((try simp only [zs,zq,reduceCtorEq] at h);try exact zx)))|fail)
  exact Zbj rfl ⟨rfl,rfl⟩
 ·have hN':=hN he
  simp only [he] at kn ⊢
  unfold Qb at hN'
  cases hs:(Zf M s).site with
  | none =>
   rw [hs] at hN'
   have g0:(X6 (.pointer none) (Zg G s).bp (Yj (Zg G s) (Zf M s)) (Zf M s).done)[0+0]? = some (.pointer none):=Xe rfl
   refine Za (fun _ _=>Tryz.call94 _ _) Tryz.func94 rfl Tryz.ntmps94 (Nat.le_of_ble_eq_true rfl) ?_;simp only [Ze,Nat.reduceAdd]
   repeat' (first|refine uN ?_|refine uC (kn) ?_|(refine uP ?_ ?_<;>(intro h;((try simp only [zs,zq,reduceCtorEq] at h);try exact zx)))|fail)
   exact Zbj rfl ⟨rfl,rfl⟩
  | some q =>
   rw [hs] at hN'
   obtain ⟨q1,q2⟩:=q
   have g0:(X6 (pt (Zg G s).sp 0) (Zg G s).bp (Yj (Zg G s) (Zf M s)) (Zf M s).done)[0+0]? = some (pt (Zg G s).sp 0):=Xe rfl
   refine Za (fun _ _=>Tryz.call94 _ _) Tryz.func94 rfl Tryz.ntmps94 (Nat.le_of_ble_eq_true rfl) ?_;simp only [Ze,Nat.reduceAdd]
   repeat' (first|refine uN ?_|refine uC (kn) ?_|(refine uP ?_ ?_<;>(intro h;((try simp only [zs,zq,reduceCtorEq] at h);try exact zx)))|fail)
   exact Zbj rfl ⟨rfl,rfl⟩
theorem Zmr (T:Nat) (E:Nat→Addr) (G:WdG) (M:Wm) (s d:Int) (L:Zb) (hG:Er T E [2] L) (hW:WdOk G M) (hM:WI M) :
  HC Tryz.prog 25 [pt G.wp 0,iv s,iv d] (Yl G M++L) (fun v L'=>v = .tuple ⟨[bs (Zbl M s d).1,eV T E (Zbl M s d).2]⟩∧L'=Yl G M++L):=by
 have hl:=hW.ndl
 have hI:=Ui hW L
 have hG':Er T E [2] (Yl G M++L):=by
  unfold Yl Zc0
  exact ((((((hG.cons _).cons _).cons _).cons _).cons _).cons _).cons _
 have kn:=Wf T E G M s _ hG' hI hl
 have hAt : ∀ (h0:0≤s) (h1:s<M.n.length),Has (Yl G M++L) (Zg G s).np (Qb (Zg G s) (Zf M s)):=fun h0 h1=>Qw hl h0 h1 L
 have hB : ∀ (h0:0≤s) (h1:s<M.n.length) {b:Nat} {o:Obj},(b,o)∈Zfv (Zg G s) s (Zf M s)→Has (Yl G M++L) b o:=fun h0 h1 {b o} hb=>by
  have:=Zdk hl h0 h1 hb L
  unfold Has Yl at *
  rw [List.append_assoc,List.flatten_append]
  exact List.mem_append_right _ this
 generalize Yl G M++L=H at *
 unfold Zbl
 rcases Wt (M:=M) s with he|⟨he,h0,h1⟩
 ·have h2:s<0 ∨ ↑M.n.length≤s∨d<0∨6≤d:=by
   unfold X2 at he
   split at he
   ·omega
   ·cases he
  simp only [if_pos h2,he] at kn ⊢
  refine Za (fun _ _=>Tryz.call25 _ _) Tryz.func25 rfl Tryz.ntmps25 (Nat.le_of_ble_eq_true rfl) ?_;simp only [Ze,Nat.reduceAdd]
  repeat' (first|refine uN ?_|refine Yd S ?_|refine uC (kn) ?_|(refine uP ?_ ?_<;>(intro h;((try simp only [zs,zq,reduceCtorEq] at h);try exact zx)))|fail)
  exact Zbj rfl ⟨rfl,rfl⟩
 ·simp only [he] at kn
  by_cases hd:d<0∨6≤d
  ·have h2:s<0 ∨ ↑M.n.length≤s∨d<0∨6≤d := .inr (.inr hd)
   simp only [if_pos h2]
   refine Za (fun _ _=>Tryz.call25 _ _) Tryz.func25 rfl Tryz.ntmps25 (Nat.le_of_ble_eq_true rfl) ?_;simp only [Ze,Nat.reduceAdd]
   repeat' (first|refine uN ?_|refine Yd S ?_|refine uC (kn) ?_|(refine uP ?_ ?_<;>(intro h;((try simp only [zs,zq,reduceCtorEq] at h);try exact zx)))|fail)
   all_goals exact Zbj rfl ⟨rfl,rfl⟩
  ·have h2 : ¬ (s<0 ∨ ↑M.n.length≤s∨d<0∨6≤d):=by omega
   simp only [if_neg h2]
   have hN:=hAt h0 h1
   have hok:=Wp hW h0 h1
   have hni:=Qa hM h0 h1
   have hBB:=fun {b o}=>hB h0 h1 (b:=b) (o:=o)
   generalize Zf M s=m at *
   generalize hg:Zg G s=g at *
   obtain ⟨dn,rfl⟩:=Int.eq_ofNat_of_zero_le (show 0≤d by omega)
   have hd6:dn<6:=by omega
   simp only [Int.toNat_natCast]
   have hm1:m.leads[dn]? = some (m.leads.getD dn none):=getD_some (by rw [hni.leads];exact hd6)
   obtain ⟨q,hq⟩ : ∃ q,g.ld[dn]? = some q:=⟨_,List.getElem?_eq_getElem (by rw [hok.ld];exact hd6)⟩
   have hv:=Zax hm1 hq
   unfold Qb at hN
   have gL:=Zag (sv:=Zd9 g m.site) (bp:=g.bp) (dn:=m.done) hv
   cases hx:m.leads.getD dn none with
   | none =>
    rw [hx] at gL
    simp only [Zpm] at gL
    refine Za (fun _ _=>Tryz.call25 _ _) Tryz.func25 rfl Tryz.ntmps25 (Nat.le_of_ble_eq_true rfl) ?_;simp only [Ze,Nat.reduceAdd]
    repeat' (first|refine uN ?_|refine Yd S ?_|refine uC (kn) ?_|(refine uP ?_ ?_<;>(intro h;((try simp only [zs,zq,reduceCtorEq] at h);try exact zx)))|fail)
    exact Zbj rfl ⟨rfl,rfl⟩
   | some x =>
    rw [hx] at gL hm1
    simp only [Zpm] at gL
    have hLd:Has H q.1 (.cells ⟨Y5 q.2.1 x⟩ 193):=hBB (by
     unfold Zfv
     exact List.mem_append_right _ (Zla hm1 hq (by simp [Vs])))
    refine Za (fun _ _=>Tryz.call25 _ _) Tryz.func25 rfl Tryz.ntmps25 (Nat.le_of_ble_eq_true rfl) ?_;simp only [Ze,Nat.reduceAdd]
    repeat' (first|refine uN ?_|refine Yd S ?_|refine uC (kn) ?_|refine uC (lstateH q.1 q.2.1 x _ hLd) ?_|(refine uP ?_ ?_<;>(intro h;((try simp only [zs,zq,reduceCtorEq] at h);try exact zx)))|fail)
    exact Zbj rfl ⟨rfl,rfl⟩
end Go.HL
end

/-! WoP -/
section
namespace Go.HL
open Go Go.Proofs
theorem Ziv {T:Nat} {E:Nat→Addr} {ns:List Nat} {L:Zb} (h:Er T E ns L) (G:WdG) (s:Int) (g:NdG) (m:Nd) (X:List Zm):Er T E ns (Xh G s g m X L):=
 ((((((((((((h.cons _).cons _).cons _).cons _).cons _).cons _).cons _).cons _).cons _).cons _).cons _).cons _).cons _
theorem Xp {T:Nat} {E:Nat→Addr} {ns:List Nat} {L:Zb} (h:Er T E ns L) (G:WdG) (M:Wm):Er T E ns (Yl G M++L):=
 ((((((h.cons _).cons _).cons _).cons _).cons _).cons _).cons _
theorem Zgp {M:Wm} {s:Int}:(∃ e,Zgy M s=some e)∨(Zgy M s=none∧X2 M s=none∧0≤s∧s<M.n.length ∧ ∃ j ref,(Zf M s).site=some (j,ref)):=by
 cases h:Zgy M s with
 | some e=>exact .inl ⟨e,rfl⟩
 | none=>exact .inr ⟨rfl,Zqa h⟩
set_option maxHeartbeats 2000000 attribute [local irreducible] HW HO HQ HD HC QOp Has Upd Zo Gets Ye Z6 Zq X0 Z5 Zj X7 Zw
attribute [local irreducible] X6 Z2 Yo Z3 Y5
theorem Zfj {T:Nat} {E:Nat→Addr} {G:WdG} {M:Wm} (s:Int) {L:Zb} (hG:Er T E [2,6] L) (hW:WdOk G M):HC Tryz.prog 66 [pt G.wp 0,iv s] (Yl G M++L) (fun v L'=>v = .tuple ⟨[upV G M s,eV T E (Zgy M s)]⟩∧L'=Yl G M++L):=
 Zgu T E G M s _ (Xp hG G M) (Ui hW L) hW.ndl (fun hn=>by
  obtain ⟨h0,h1⟩:=Yp hn
  exact Qw hW.ndl h0 h1 L)
theorem Znw {T:Nat} {E:Nat→Addr} {G:WdG} {M:Wm} {s:Int} {L:Zb} (hG:Er T E [2,6] L) (hW:WdOk G M) (hu:Zgy M s=none) (X:List Zm):HC Tryz.prog 66 [pt G.wp 0,iv s] (Xh G s (Zg G s) (Zf M s) X L) (fun v L'=>v = .tuple ⟨[pt (Zg G s).np 0,.nilIface]⟩∧L'=Xh G s (Zg G s) (Zf M s) X L):=by
 have:=Zgu T E G M s _ (Ziv hG G s (Zg G s) (Zf M s) X) (Zjx hW s _ _ X L) hW.ndl (fun hn=>wdOp_has)
 rw [hu,Zon (Zqa hu).1] at this
 exact this
theorem Zhb (T:Nat) (E:Nat→Addr) (G:WdG) (M:Wm) (s d:Int) (L:Zb) (hG:Er T E [2,6] L) (hW:WdOk G M) (hM:WI M) :
  HC Tryz.prog 20 [pt G.wp 0,iv s,iv d] (Yl G M++L) (fun v L'=>v=eV T E (W7 M s d).2∧Zdp G (W7 M s d).1 L L'):=by
 unfold W7
 have hself:=We hW L
 by_cases hd:d<0∨6≤d
 ·simp only [if_pos hd]
  have hG':=Xp hG G M
  generalize Yl G M++L=H at *
  refine Za (fun _ _=>Tryz.call20 _ _) Tryz.func20 rfl Tryz.ntmps20 (Nat.le_of_ble_eq_true rfl) ?_;simp only [Ze,Nat.reduceAdd]
  repeat' (first|refine uN ?_|(refine uP ?_ ?_<;>(intro h;((try simp only [zs,zq,reduceCtorEq] at h);try exact zx)))|fail)
  all_goals exact Uu rfl ⟨rfl,hself⟩
 simp only [if_neg hd]
 rcases Zgp (M:=M) (s:=s) with ⟨e,he⟩|⟨he,hn,h0,h1,j,ref,hs⟩
 ·have ku:=Zfj s hG hW
  have hG':=Xp hG G M
  generalize Yl G M++L=H at *
  simp only [he] at ku ⊢
  refine Za (fun _ _=>Tryz.call20 _ _) Tryz.func20 rfl Tryz.ntmps20 (Nat.le_of_ble_eq_true rfl) ?_;simp only [Ze,Nat.reduceAdd]
  repeat' (first|refine uN ?_|refine uC (ku) ?_|(refine uP ?_ ?_<;>(intro h;((try simp only [zs,zq,reduceCtorEq] at h);try exact zx)))|fail)
  exact Uu rfl ⟨rfl,hself⟩
 ·simp only [he]
  refine HC.node hW h0 h1 ?_
  have ku:=Znw (X:=X9 G.nd M.n 0 s.toNat) hG hW he
  have hok:=Wp hW h0 h1
  have hni:=Qa hM h0 h1
  generalize X9 G.nd M.n 0 s.toNat=X at *
  generalize Zf M s=m at *
  generalize Zg G s=g at *
  obtain ⟨pl,site,leads,done⟩:=m
  simp only at hs
  subst hs
  have hF:=hok.map j ref rfl
  have hj:=(hni.jn rfl).ji.jn
  have g0:(X6 (pt g.sp 0) g.bp (Yj g ⟨pl,some (j,ref),leads,done⟩) done)[0+0]? = some (pt g.sp 0):=Xe rfl
  have kr:=fun L hG=>Zjm T E g.sp g.bj g.mb g.bp s g.es g.ck ref j d L hG hj.len hF
  simp only [if_neg hd] at kr
  simp only [Xh,Q1,Qb,Zd9,Zh6,Zh5,Zh4] at ku ⊢
  refine Za (fun _ _=>Tryz.call20 _ _) Tryz.func20 rfl Tryz.ntmps20 (Nat.le_of_ble_eq_true rfl) ?_;simp only [Ze,Nat.reduceAdd]
  repeat' (first|refine uN ?_|refine uC (ku) ?_|(refine uP ?_ ?_<;>(intro h;((try simp only [zs,zq,reduceCtorEq] at h);try exact zx)))|fail)
  refine fo 6 ?_
  refine fo 5 ?_
  refine fo 5 ?_
  refine gc (kr _ ?_) ?_
  ·exact (((((((((hG.sub.cons _).cons _).cons _).cons _).cons _).cons _).cons _).cons _).cons _).cons _
  rintro v L' ⟨es',ck',hF',rfl,rfl⟩
  repeat' (first|refine uN ?_|refine uC (ku) ?_|(refine uP ?_ ?_<;>(intro h;((try simp only [zs,zq,reduceCtorEq] at h);try exact zx)))|fail)
  refine Xn (L':=Xh G s { g with es:=es',ck:=ck' } (Za0 ⟨pl,some (j,ref),leads,done⟩ d) X L) ?_ ⟨rfl,G,M,{ g with es:=es',ck:=ck' },Za0 ⟨pl,some (j,ref),leads,done⟩ d,hW,rfl,rfl,rfl,⟨hok.ld,hok.lok,fun j2 r2 e=>by cases e;exact hF'⟩,rfl,rfl,rfl⟩
  simp only [Xh,Q1,Qb,Zd9,Zh6,Zh5,Zh4,Za0]
  exact uL
theorem Zoq (T:Nat) (E:Nat→Addr) (G:WdG) (M:Wm) (s n:Int) (L:Zb) (hG:Er T E [2,6] L) (hW:WdOk G M) (hM:WI M) :
  HC Tryz.prog 91 [pt G.wp 0,iv s,iv n] (Yl G M++L) (fun v L'=>v=eV T E (Ze6 M s n).2∧Zdp G (Ze6 M s n).1 L L'):=by
 unfold Ze6
 have hself:=We hW L
 by_cases hd:n<0
 ·simp only [if_pos hd]
  have hG':=Xp hG G M
  generalize Yl G M++L=H at *
  refine Za (fun _ _=>Tryz.call91 _ _) Tryz.func91 rfl Tryz.ntmps91 (Nat.le_of_ble_eq_true rfl) ?_;simp only [Ze,Nat.reduceAdd]
  repeat' (first|refine uN ?_|(refine uP ?_ ?_<;>(intro h;((try simp only [zs,zq,reduceCtorEq] at h);try exact zx)))|fail)
  all_goals exact Uu rfl ⟨rfl,hself⟩
 simp only [if_neg hd]
 rcases Zgp (M:=M) (s:=s) with ⟨e,he⟩|⟨he,hn,h0,h1,j,ref,hs⟩
 ·have ku:=Zfj s hG hW
  have hG':=Xp hG G M
  generalize Yl G M++L=H at *
  simp only [he] at ku ⊢
  refine Za (fun _ _=>Tryz.call91 _ _) Tryz.func91 rfl Tryz.ntmps91 (Nat.le_of_ble_eq_true rfl) ?_;simp only [Ze,Nat.reduceAdd]
  repeat' (first|refine uN ?_|refine uC (ku) ?_|(refine uP ?_ ?_<;>(intro h;((try simp only [zs,zq,reduceCtorEq] at h);try exact zx)))|fail)
  exact Uu rfl ⟨rfl,hself⟩
 ·simp only [he]
  refine HC.node hW h0 h1 ?_
  have ku:=Znw (X:=X9 G.nd M.n 0 s.toNat) hG hW he
  have hok:=Wp hW h0 h1
  have hni:=Qa hM h0 h1
  generalize X9 G.nd M.n 0 s.toNat=X at *
  generalize hmm:Zf M s=m at *
  generalize Zg G s=g at *
  obtain ⟨pl,site,leads,done⟩:=m
  simp only at hs
  subst hs
  have hoff:pl.off=false:=(hni.up j ref rfl).2
  have g1:(X6 (pt g.sp 0) g.bp (Yj g ⟨pl,some (j,ref),leads,done⟩) done)[0+1]? = some (pt g.bp 0):=Xe rfl
  have kr:=fun L hG=>Zqy T E g.bp g.ba pl n L hG
  simp only [if_neg hd,hoff,Bool.false_eq_true,if_false] at kr
  simp only [Xh,Q1,Qb,Zd9,Zh6,Zh5,Zh4] at ku ⊢
  refine Za (fun _ _=>Tryz.call91 _ _) Tryz.func91 rfl Tryz.ntmps91 (Nat.le_of_ble_eq_true rfl) ?_;simp only [Ze,Nat.reduceAdd]
  repeat' (first|refine uN ?_|refine uC (ku) ?_|(refine uP ?_ ?_<;>(intro h;((try simp only [zs,zq,reduceCtorEq] at h);try exact zx)))|fail)
  refine fo 5 ?_
  refine gc (kr _ ?_) ?_
  ·exact ((((((((((((hG.sub.cons _).cons _).cons _).cons _).cons _).cons _).cons _).cons _).cons _).cons _).cons _).cons _)
  rintro v L' ⟨rfl,rfl⟩
  repeat' (first|refine uN ?_|refine uC (ku) ?_|(refine uP ?_ ?_<;>(intro h;((try simp only [zs,zq,reduceCtorEq] at h);try exact zx)))|fail)
  refine Xn (L':=Xh G s g ⟨{ pl with cut:=n },some (j,ref),leads,done⟩ X L) ?_ ⟨rfl,G,M,g,⟨{ pl with cut:=n },some (j,ref),leads,done⟩,hW,rfl,rfl,rfl,hok.same rfl _ _ _,rfl,rfl,rfl⟩
  have e1:Qm g ⟨{ pl with cut:=n },some (j,ref),leads,done⟩=Qm g ⟨pl,some (j,ref),leads,done⟩:=rfl
  have e2:Yj g ⟨{ pl with cut:=n },some (j,ref),leads,done⟩=Yj g ⟨pl,some (j,ref),leads,done⟩:=rfl
  simp only [Xh,Q1,Qb,Zd9,Zh6,Zh5,Zh4]
  rw [e1,e2]
  simp only [hoff]
  exact uL
theorem Zmo (T:Nat) (E:Nat→Addr) (G:WdG) (M:Wm) (s:Int) (L:Zb) (hG:Er T E [2,6] L) (hW:WdOk G M) (hM:WI M) :
  HC Tryz.prog 37 [pt G.wp 0,iv s] (Yl G M++L) (fun v L'=>v=eV T E (Q8 M s).2∧Zdp G (Q8 M s).1 L L'):=by
 unfold Q8
 have hself:=We hW L
 rcases Zgp (M:=M) (s:=s) with ⟨e,he⟩|⟨he,hn,h0,h1,j,ref,hs⟩
 ·have ku:=Zfj s hG hW
  have hG':=Xp hG G M
  generalize Yl G M++L=H at *
  simp only [he] at ku ⊢
  refine Za (fun _ _=>Tryz.call37 _ _) Tryz.func37 rfl Tryz.ntmps37 (Nat.le_of_ble_eq_true rfl) ?_;simp only [Ze,Nat.reduceAdd]
  repeat' (first|refine uN ?_|refine uC (ku) ?_|(refine uP ?_ ?_<;>(intro h;((try simp only [zs,zq,reduceCtorEq] at h);try exact zx)))|fail)
  exact Uu rfl ⟨rfl,hself⟩
 ·simp only [he]
  refine HC.node hW h0 h1 ?_
  have ku:=Znw (X:=X9 G.nd M.n 0 s.toNat) hG hW he
  have hok:=Wp hW h0 h1
  have hni:=Qa hM h0 h1
  generalize X9 G.nd M.n 0 s.toNat=X at *
  generalize hmm:Zf M s=m at *
  generalize Zg G s=g at *
  obtain ⟨pl,site,leads,done⟩:=m
  simp only at hs
  subst hs
  have g1:(X6 (pt g.sp 0) g.bp (Yj g ⟨pl,some (j,ref),leads,done⟩) done)[0+1]? = some (pt g.bp 0):=Xe rfl
  have kr:=fun L=>Zrx g.bp g.ba pl L
  have hlv:(Yj g ⟨pl,some (j,ref),leads,done⟩).length=6:=by simp [Yj,hni.leads,hok.ld]
  have kf:=fun L=>Zeb g ⟨pl,some (j,ref),leads,done⟩ L hlv hok.ld
  simp only [Xh,Q1,Qb,Zd9,Zh6,Zh5,Zh4] at ku kf ⊢
  refine Za (fun _ _=>Tryz.call37 _ _) Tryz.func37 rfl Tryz.ntmps37 (Nat.le_of_ble_eq_true rfl) ?_;simp only [Ze,Nat.reduceAdd]
  repeat' (first|refine uN ?_|refine uC (ku) ?_|(refine uP ?_ ?_<;>(intro h;((try simp only [zs,zq,reduceCtorEq] at h);try exact zx)))|fail)
  refine fo 5 ?_
  refine gc (kr _) ?_
  rintro v L' ⟨rfl,rfl⟩
  repeat' (first|refine uN ?_|refine uC (ku) ?_|(refine uP ?_ ?_<;>(intro h;((try simp only [zs,zq,reduceCtorEq] at h);try exact zx)))|fail)
  refine fo 3 ?_
  refine gc (kf _) ?_
  rintro v L' ⟨rfl,rfl⟩
  repeat' (first|refine uN ?_|refine uC (ku) ?_|(refine uP ?_ ?_<;>(intro h;((try simp only [zs,zq,reduceCtorEq] at h);try exact zx)))|fail)
  refine Xn (L':=Xh G s g (Zo6 ⟨pl,some (j,ref),leads,done⟩) X L) ?_ ⟨rfl,G,M,g,Zo6 ⟨pl,some (j,ref),leads,done⟩,hW,rfl,rfl,rfl,hok.fall _ _,rfl,rfl,rfl⟩
  simp only [Xh,Q1,Qb,Zd9,Zh6,Zh5,Zh4,Zo6]
  have:Qm g ⟨{ pl with off:=true },none,Yn,done⟩=[]:=by
   unfold Qm Yn
   have:=hok.ld
   obtain ⟨a,b,c,d,e,f,hh⟩ : ∃ a b c d e f,g.ld=[a,b,c,d,e,f]:=by
    match g.ld,this with
    | [a,b,c,d,e,f],_=>exact ⟨_,_,_,_,_,_,rfl⟩
   rw [hh];rfl
  rw [this]
  exact uL
end Go.HL
end

/-! WoQ -/
section
namespace Go.HL
open Go Go.Proofs
set_option maxHeartbeats 2000000 attribute [local irreducible] HW HO HQ HD HC QOp Has Upd Zo Gets Ye Z6 Zq X0 Z5 Zj X7 Zw
attribute [local irreducible] X6 Z2 Yo Z3 Y5 Zv
theorem Zox (T:Nat) (E:Nat→Addr) (G:WdG) (M:Wm) (s:Int) (L:Zb) (hG:Er T E [2,3,6,8] L) (hW:WdOk G M) (hM:WI M) :
  HC Tryz.prog 38 [pt G.wp 0,iv s] (Yl G M++L) (fun v L'=>v=eV T E (Zst M s).2∧Zdp G (Zst M s).1 L L'):=by
 unfold Zst
 have hself:=We hW L
 have hnl:=hM.wn
 have hwl:=hM.wl
 rcases Wt (M:=M) s with he|⟨he,h0,h1⟩
 ·have kn:=Wf T E G M s _ (Xp hG.sub G M) (Ui hW L) hW.ndl
  generalize Yl G M++L=H at *
  simp only [he] at kn ⊢
  refine Za (fun _ _=>Tryz.call38 _ _) Tryz.func38 rfl Tryz.ntmps38 (Nat.le_of_ble_eq_true rfl) ?_;simp only [Ze,Nat.reduceAdd]
  repeat' (first|refine uN ?_|refine uC (kn) ?_|(refine uP ?_ ?_<;>(intro h;((try simp only [zs,zq,reduceCtorEq] at h);try exact zx)))|fail)
  exact Uu rfl ⟨rfl,hself⟩
 ·simp only [he]
  cases hs:(Zf M s).site with
  | some q =>
   have kn:=Wf T E G M s _ (Xp hG.sub G M) (Ui hW L) hW.ndl
   have hN:=Qw hW.ndl h0 h1 L
   have hG':=Xp hG G M
   generalize Yl G M++L=H at *
   simp only [he,Option.isSome_some,if_true] at kn ⊢
   unfold Qb at hN
   rw [hs] at hN
   obtain ⟨q1,q2⟩:=q
   have g0:(X6 (pt (Zg G s).sp 0) (Zg G s).bp (Yj (Zg G s) (Zf M s)) (Zf M s).done)[0+0]? = some (pt (Zg G s).sp 0):=Xe rfl
   refine Za (fun _ _=>Tryz.call38 _ _) Tryz.func38 rfl Tryz.ntmps38 (Nat.le_of_ble_eq_true rfl) ?_;simp only [Ze,Nat.reduceAdd]
   repeat' (first|refine uN ?_|refine uC (kn) ?_|(refine uP ?_ ?_<;>(intro h;((try simp only [zs,zq,reduceCtorEq] at h);try exact zx)))|fail)
   exact Uu rfl ⟨rfl,hself⟩
  | none =>
   simp only [Option.isSome_none,Bool.false_eq_true,if_false]
   refine HC.node hW h0 h1 ?_
   have kn:=Wf T E G M s _ (Ziv hG.sub G s (Zg G s) (Zf M s) (X9 G.nd M.n 0 s.toNat)) (Zjx hW s _ _ _ L) hW.ndl
   have hok:=Wp hW h0 h1
   have hni:=Qa hM h0 h1
   have hnp:=fun H hH=>Zcm hW h0 h1 (H:=H) hH
   simp only [he] at kn
   generalize X9 G.nd M.n 0 s.toNat=X at *
   generalize hmm:Zf M s=m at *
   generalize Zg G s=g at *
   obtain ⟨pl,site,leads,done⟩:=m
   simp only at hs
   subst hs
   have hpl:pl.b.length=512:=hni.b512
   have g0 : ∀ v,(X6 v g.bp (Yj g ⟨pl,none,leads,done⟩) done)[0+0]? = some v:=fun v=>Xe rfl
   have g1 : ∀ v,(X6 v g.bp (Yj g ⟨pl,none,leads,done⟩) done)[0+1]? = some (pt g.bp 0):=fun v=>Xe rfl
   have g0n:=g0 (.pointer none)
   have g1n:=g1 (.pointer none)
   have p0:=fun v=>Zlp (sv := .pointer none) (sv':=v) (bp:=g.bp) (lv:=Yj g ⟨pl,none,leads,done⟩) (dn:=done)
   have kon:=fun L=>on_calls g.bp g.ba pl L
   have kne:=fun L hG=>Zgg T E s g.bp g.ba { pl with off:=false,cut := -1 } L hG (by simp only;omega)
   have hse:Zh7 s { pl with off:=false,cut := -1 }=none:=by
    unfold Zh7
    rw [if_neg (by omega)]
    simp only
    rw [if_neg (by omega)]
    simp
   simp only [hse] at kne
   have hlv:(Yj g ⟨pl,none,leads,done⟩).length=6:=by simp [Yj,hni.leads,hok.ld]
   simp only [Xh,Q1,Qb,Zd9,Zh6,Zh5,Zh4] at kn ⊢
   refine Za (fun _ _=>Tryz.call38 _ _) Tryz.func38 rfl Tryz.ntmps38 (Nat.le_of_ble_eq_true rfl) ?_;simp only [Ze,Nat.reduceAdd]
   repeat' (first|refine uN ?_|refine uC (kn) ?_|(refine uP ?_ ?_<;>(intro h;((try simp only [zs,zq,reduceCtorEq] at h);try exact zx)))|fail)
   refine fo 5 ?_
   refine gc (kon _) ?_
   rintro v L' ⟨rfl,rfl⟩
   repeat' (first|refine uN ?_|refine uC (kn) ?_|(refine uP ?_ ?_<;>(intro h;((try simp only [zs,zq,reduceCtorEq] at h);try exact zx)))|fail)
   refine gc (kne _ ?_) ?_
   ·exact ((((((((((((hG.sub.cons _).cons _).cons _).cons _).cons _).cons _).cons _).cons _).cons _).cons _).cons _).cons _)
   rintro v L' ⟨sp,bj,mb,rfl,rfl⟩
   have p0n:=p0 (pt sp 0)
   repeat' (first|refine uN ?_|refine uC (kn) ?_|(refine uP ?_ ?_<;>(intro h;((try simp only [zs,zq,reduceCtorEq] at h);try exact zx)))|fail)
   have kw:=fun L hp hs=>Zed G s { g with sp:=sp,bj:=bj,mb:=mb,es:=[],ck:=0 } (Q6 ⟨pl,none,leads,done⟩) M.ev M.n.length L hW.ev hM.evl hp hni.done hlv hs
   have g0s:=g0 (pt sp 0)
   refine fo 6 ?_
   refine fo 6 ?_
   refine fo 6 ?_
   refine gc (kw _ ?_ ?_) ?_
   ·exact hnp _ (fun b o hb=>Zc (Zc (Zc (Zc (Zc (Zc (Zc (Zc (Zc (Zc (Yi hb)))))))))))
   ·intro j r hjr
    cases hjr
    refine ⟨⟨Zh,?_⟩,Zh2 _⟩
    exact Zc (Zc (Zc Zh))
   rintro v L' ⟨evv,c,hev,rfl,rfl⟩
   repeat' (first|refine uN ?_|refine uC (kn) ?_|(refine uP ?_ ?_<;>(intro h;((try simp only [zs,zq,reduceCtorEq] at h);try exact zx)))|fail)
   refine Xn (L':=Xh { G with ev:=evv,ec:=c } s { g with sp:=sp,bj:=bj,mb:=mb,es:=[],ck:=0 } { Q6 ⟨pl,none,leads,done⟩ with done:=(Xk s (Q6 ⟨pl,none,leads,done⟩) M.ev).1 } X L) ?_ ⟨rfl,{ G with ev:=evv,ec:=c },{ M with ev:=(Xk s (Q6 ⟨pl,none,leads,done⟩) M.ev).2 },{ g with sp:=sp,bj:=bj,mb:=mb,es:=[],ck:=0 },{ Q6 ⟨pl,none,leads,done⟩ with done:=(Xk s (Q6 ⟨pl,none,leads,done⟩) M.ev).1 },hW.setE hev,rfl,rfl,rfl,⟨hok.ld,hok.lok,fun j2 r2 e=>by cases e;exact Zft⟩,rfl,rfl,rfl⟩
   simp only [Xh,Q6,Zh6,Zh5,Zh4]
   exact uL
end Go.HL
end

/-! WoR -/
section
namespace Go.HL
open Go Go.Proofs
section nd
variable {P:Program} {n:Nat} {ops:List Oper} {Q:Exit→Zr→Zb→Prop} {ρ:Zr} {L:Zb} {l:List Oper}
theorem ho_nodup (h:(L.flatten.map (·.1)).Nodup→HO P n ops Q l ρ L):HO P n ops Q l ρ L:=fun k w a hs ha=>h hs.nodup k w a hs ha
end nd
theorem Zev {G G':WdG} {M':Wm} {L:Zb} (h:WdOk G' M') (e1:G'.wp=G.wp) (e2:G'.nd=G.nd):Zdp G M' L (Yl G' M'++L):=⟨G',e1,by rw [e2],h,rfl⟩
set_option maxHeartbeats 2000000 attribute [local irreducible] HW HO HQ HD HC QOp Has Upd Zo Gets Ye Z6 Zq X0 Z5 Zj X7 Zw
attribute [local irreducible] X6 Z2 Yo Z3 Y5 Zv
theorem Zec (T:Nat) (E:Nat→Addr) (G:WdG) (M:Wm) (a b:Int) (whole:Bool) (L:Zb) (hG:Er T E [2] L) (hW:WdOk G M) :
  HC Tryz.prog 36 [pt G.wp 0,iv a,iv b,.bool whole] (Yl G M++L) (fun v L'=>v=eV T E (U1 M a b whole).2∧Zdp G (U1 M a b whole).1 L L'):=by
 unfold U1
 have hself:=We hW L
 have hI:=Ui hW L
 obtain ⟨an,capn,hnv,hnr⟩:=hI.ns
 by_cases h:a<0∨M.n.length≤a∨b<0∨M.n.length≤b
 ·simp only [if_pos h]
  have hG':=Xp hG G M
  have hw:=hI.wp
  unfold Ur at hw
  rw [hnv] at hw
  generalize Yl G M++L=H at *
  refine Za (fun _ _=>Tryz.call36 _ _) Tryz.func36 rfl Tryz.ntmps36 (Nat.le_of_ble_eq_true rfl) ?_;simp only [Ze,Nat.reduceAdd]
  repeat' (first|refine uN ?_|(refine uP ?_ ?_<;>(intro h;((try simp only [zs,zq,reduceCtorEq] at h);try exact zx)))|fail)
  all_goals exact Uu rfl ⟨rfl,hself⟩
 ·simp only [if_neg h]
  have hF:=hW.br
  have key : ∀ es' ck' x,Zw pk es' (fun y=>if y=(min a b,max a b) then x else M.br y)→Zdp G { M with br:=fun y=>if y=(min a b,max a b) then x else M.br y } L (Yl { G with es:=es',ck:=ck' } { M with br:=fun y=>if y=(min a b,max a b) then x else M.br y }++L):=fun es' ck' x hF'=>Zev (hW.setB hF') rfl rfl
  simp only [Yl,Zc0,Ur,List.cons_append,List.nil_append,hnv] at key ⊢
  cases whole with
  | true =>
   simp only [Bool.not_true,Bool.false_and]
   refine Za (fun _ _=>Tryz.call36 _ _) Tryz.func36 rfl Tryz.ntmps36 (Nat.le_of_ble_eq_true rfl) ?_;simp only [Ze,Nat.reduceAdd]
   repeat' (first|refine uN ?_|(refine uP ?_ ?_<;>(intro h;((try simp only [zs,zq,reduceCtorEq] at h);try exact zx)))|fail)
   all_goals refine fo 3 ?_
   all_goals refine wmP (v:=false) hF (fun es' ck' hF'=>?_)
   all_goals repeat' (first|refine uN ?_|(refine uP ?_ ?_<;>(intro h;((try simp only [zs,zq,reduceCtorEq] at h);try exact zx)))|fail)
   all_goals exact Xn uL ⟨rfl,key es' ck' _ hF'⟩
  | false =>
   simp only [Bool.not_false,Bool.true_and]
   refine Za (fun _ _=>Tryz.call36 _ _) Tryz.func36 rfl Tryz.ntmps36 (Nat.le_of_ble_eq_true rfl) ?_;simp only [Ze,Nat.reduceAdd]
   repeat' (first|refine uN ?_|(refine uP ?_ ?_<;>(intro h;((try simp only [zs,zq,reduceCtorEq] at h);try exact zx)))|fail)
   all_goals refine fo 3 ?_
   all_goals refine wmP (v:=decide (a≠b)) hF (fun es' ck' hF'=>?_)
   all_goals repeat' (first|refine uN ?_|(refine uP ?_ ?_<;>(intro h;((try simp only [zs,zq,reduceCtorEq] at h);try exact zx)))|fail)
   all_goals exact Xn uL ⟨rfl,key es' ck' _ hF'⟩
theorem Zmp (T:Nat) (E:Nat→Addr) (G:WdG) (M:Wm) (k:Int) (L:Zb) (hG:Er T E [4] L) (hW:WdOk G M) (hl:M.l.length≤100000000) :
  HC Tryz.prog 35 [pt G.wp 0,iv k] (Yl G M++L) (fun v L'=>v=eV T E (Q9 M k).2∧Zdp G (Q9 M k).1 L L'):=by
 unfold Q9
 have hself:=We hW L
 have hI:=Ui hW L
 have ka:=Za3 T E G M k _ (Xp hG G M) hI
 unfold Zsj at *
 by_cases h:k<0∨M.l.length≤k
 ·simp only [if_pos h] at ka ⊢
  generalize Yl G M++L=H at *
  refine Za (fun _ _=>Tryz.call35 _ _) Tryz.func35 rfl Tryz.ntmps35 (Nat.le_of_ble_eq_true rfl) ?_;simp only [Ze,Nat.reduceAdd]
  repeat' (first|refine uN ?_|refine uC (ka) ?_|(refine uP ?_ ?_<;>(intro h;((try simp only [zs,zq,reduceCtorEq] at h);try exact zx)))|fail)
  all_goals exact Uu rfl ⟨rfl,hself⟩
 ·simp only [if_neg h] at ka ⊢
  have key : ∀ lv lc,Xs lv (M.l.eraseIdx k.toNat) lc→Zdp G { M with l:=M.l.eraseIdx k.toNat } L (Yl { G with lv:=lv,lc:=lc } { M with l:=M.l.eraseIdx k.toNat }++L):=fun lv lc hv=>Zev (hW.setL hv) rfl rfl
  have kd:=fun L=>Zca G.lv M.l G.lc k (k+1) L hW.l hl (by omega) (by omega) rfl
  simp only [Yl,Zc0,Ur,List.cons_append,List.nil_append] at key ka ⊢
  obtain ⟨a5,cap5,he5,-,-⟩:=hW.l.rd Zs
  rw [he5] at ka kd ⊢
  refine Za (fun _ _=>Tryz.call35 _ _) Tryz.func35 rfl Tryz.ntmps35 (Nat.le_of_ble_eq_true rfl) ?_;simp only [Ze,Nat.reduceAdd]
  repeat' (first|refine uN ?_|refine uC (ka) ?_|(refine uP ?_ ?_<;>(intro h;((try simp only [zs,zq,reduceCtorEq] at h);try exact zx)))|fail)
  refine fo 4 ?_
  refine gc (kd _) ?_
  rintro v L' ⟨c',hv',rfl⟩
  obtain ⟨a6,cap6,rfl,-,-⟩:=hv'.rd Zs
  repeat' (first|refine uN ?_|refine uC (ka) ?_|(refine uP ?_ ?_<;>(intro h;((try simp only [zs,zq,reduceCtorEq] at h);try exact zx)))|fail)
  exact Xn uL ⟨rfl,key _ c' hv'⟩
theorem Zor (G:WdG) (M:Wm) (L:Zb) (hI:WdIn L G M):HC Tryz.prog 157 [pt G.wp 0] L (fun v L'=>v=iv M.l.length∧L'=L):=by
 have hw:=hI.wp
 unfold Ur at hw
 obtain ⟨a,cap,hlv,-⟩:=hI.ls
 rw [hlv] at hw
 refine Za (fun _ _=>Tryz.call157 _ _) Tryz.func157 rfl Tryz.ntmps157 (Nat.le_of_ble_eq_true rfl) ?_;simp only [Ze,Nat.reduceAdd]
 repeat' (first|refine uN ?_)
 exact Uu rfl ⟨rfl,rfl⟩
theorem Zjz (G:WdG) (M:Wm) (L:Zb) (hI:WdIn L G M):HC Tryz.prog 102 [pt G.wp 0] L (fun v L'=>v=iv M.n.length∧L'=L):=by
 have hw:=hI.wp
 unfold Ur at hw
 obtain ⟨a,cap,hlv,-⟩:=hI.ns
 rw [hlv] at hw
 refine Za (fun _ _=>Tryz.call102 _ _) Tryz.func102 rfl Tryz.ntmps102 (Nat.le_of_ble_eq_true rfl) ?_;simp only [Ze,Nat.reduceAdd]
 repeat' (first|refine uN ?_)
 exact Uu rfl ⟨rfl,rfl⟩
theorem Zbs (G:WdG) (M:Wm) (L:Zb) (hW:WdOk G M) (hl:M.ev.length≤100000000) :
  HC Tryz.prog 27 [pt G.wp 0] (Yl G M++L) (fun v L' => ∃ c,Vec 81 3 ec v M.ev c∧L'=c::(Yl G M++L)):=by
 have kd:=fun L=>Zip G.ev M.ev G.ec L hW.ev hl
 obtain ⟨a5,cap5,he5,-,-⟩:=hW.ev.rd Qh
 simp only [Yl,Zc0,Ur,List.cons_append,List.nil_append]
 rw [he5] at kd ⊢
 refine Za (fun _ _=>Tryz.call27 _ _) Tryz.func27 rfl Tryz.ntmps27 (Nat.le_of_ble_eq_true rfl) ?_;simp only [Ze,Nat.reduceAdd]
 repeat' (first|refine uN ?_)
 refine fo 5 ?_
 refine gc (kd _) ?_
 rintro v L' ⟨c',hv',rfl⟩
 repeat' (first|refine uN ?_)
 exact Xn uL ⟨c',hv',rfl⟩
theorem Zj1 (T:Nat) (E:Nat→Addr) (G:WdG) (M:Wm) (k:Int) (L:Zb) (hG:Er T E [4] L) (hW:WdOk G M) (hl:M.l.length≤99999999) :
  HC Tryz.prog 88 [pt G.wp 0,iv k] (Yl G M++L) (fun v L'=>v=eV T E (Uh M k).2∧Zdp G (Uh M k).1 L L'):=by
 unfold Uh
 have hself:=We hW L
 have hI:=Ui hW L
 have ka:=Za3 T E G M k _ (Xp hG G M) hI
 unfold Zsj at *
 by_cases h:k<0∨M.l.length≤k
 ·simp only [if_pos h] at ka ⊢
  generalize Yl G M++L=H at *
  refine Za (fun _ _=>Tryz.call88 _ _) Tryz.func88 rfl Tryz.ntmps88 (Nat.le_of_ble_eq_true rfl) ?_;simp only [Ze,Nat.reduceAdd]
  repeat' (first|refine uN ?_|refine Yd S ?_|refine Yu S ?_|refine uC (ka) ?_|refine Yy (fun _=>ka) ?_|refine Yz (fun _=>ka) ?_|refine Y0 (fun _=>ka) ?_|refine Y1 (fun _=>ka) ?_|(refine uB ?_;intro b)|(refine uP ?_ ?_<;>(intro h;((try simp only [zs,zq,reduceCtorEq] at h);try exact zx)))|refine da 101 ?_|fail)
  all_goals exact Uu rfl ⟨rfl,hself⟩
 ·simp only [if_neg h] at ka ⊢
  have key : ∀ lv lc,Xs lv (M.l.take (k+1).toNat++M.l.getD k.toNat W1::M.l.drop (k+1).toNat) lc→Zdp G { M with l:=M.l.take (k+1).toNat++M.l.getD k.toNat W1::M.l.drop (k+1).toNat } L (Yl { G with lv:=lv,lc:=lc } { M with l:=M.l.take (k+1).toNat++M.l.getD k.toNat W1::M.l.drop (k+1).toNat }++L):=fun lv lc hv=>Zev (hW.setL hv) rfl rfl
  have kd:=fun eb L hne=>Zi1 G.lv M.l G.lc (k+1) (M.l.getD k.toNat W1) eb L hW.l (by omega) (by omega) (by omega) hne
  obtain ⟨a5,cap5,he5,-,hR5⟩:=hW.l.rd Zs
  have hR6:=(hR5 []).mono (L':=Yl G M++L) fun b o hb=>by
   simp only [Has,Yl,Zc0,List.flatten_cons,List.flatten_nil,List.append_nil,List.cons_append,List.nil_append] at hb ⊢
   simp [hb]
  obtain ⟨b,i,l,F,fr,e6,hb,hg⟩:=hR6.at (j:=k) (by omega) (by omega)
  have hgk:M.l[k.toNat]'(by omega)=M.l.getD k.toNat W1:=by
   rw [List.getD,List.getElem?_eq_getElem (by omega)];rfl
  rw [hgk] at hg
  rw [e6] at he5
  simp only [Yl,Zc0,Ur,List.cons_append,List.nil_append] at key ka hb ⊢
  rw [he5] at ka kd hb ⊢
  refine Za (fun _ _=>Tryz.call88 _ _) Tryz.func88 rfl Tryz.ntmps88 (Nat.le_of_ble_eq_true rfl) ?_;simp only [Ze,Nat.reduceAdd]
  repeat' (first|refine uN ?_|refine Z0 S ?_|refine uC (ka) ?_|refine Yy (fun _=>ka) ?_|refine Yz (fun _=>ka) ?_|refine Y0 (fun _=>ka) ?_|refine Y1 (fun _=>ka) ?_|(refine uB ?_;intro b)|(refine uP ?_ ?_<;>(intro h;((try simp only [zs,zq,reduceCtorEq] at h);try exact zx)))|refine da 101 ?_|fail)
  refine ho_nodup fun hnd=>?_
  refine fo 5 ?_
  refine gc (kd b _ ?_) ?_
  ·intro q o hq hqe
   subst hqe
   rw [List.flatten_cons,List.singleton_append,List.map_cons,List.nodup_cons] at hnd
   refine hnd.1 (List.mem_map.2 ⟨(b,o),?_,rfl⟩)
   simp [hq]
  rintro v L' ⟨c',hv',rfl⟩
  obtain ⟨a6,cap6,rfl,-,-⟩:=hv'.rd Zs
  repeat' (first|refine uN ?_|refine Z0 S ?_|refine uC (ka) ?_|refine Yy (fun _=>ka) ?_|refine Yz (fun _=>ka) ?_|refine Y0 (fun _=>ka) ?_|refine Y1 (fun _=>ka) ?_|(refine uB ?_;intro b)|(refine uP ?_ ?_<;>(intro h;((try simp only [zs,zq,reduceCtorEq] at h);try exact zx)))|refine da 101 ?_|fail)
  exact Xn uL ⟨rfl,key _ c' hv'⟩
end Go.HL
end

/-! WgD -/
section
namespace Go.HL
open Go Go.Proofs

def quor (ws:List Int) (s:Nat):Bool:=decide (Zbe ws (2 ^ ws.length-1)<2*Zbe ws s)
end Go.HL
end

/-! RfW -/
section
namespace Go.HL
open Go Go.Proofs
set_option maxHeartbeats 2000000 attribute [local irreducible] HW HO HQ HD HC QOp Has Upd Zo Gets Ye Z6 Zq X0 Z5 Zj X7 Zw
end Go.HL
end

/-! RfA -/
section
namespace Go.HL
open Go Go.Proofs
set_option maxHeartbeats 2000000 attribute [local irreducible] HW HO HQ HD HC QOp Has Upd Zo Gets Ye Z6 Zq X0 Z5 Zj X7 Zw
theorem Zjs {α:Type} {xs ys:List α} {i:Nat} (h:i<xs.length) (h':i<ys.length):xs.take (i+1)=ys.take (i+1)↔xs.take i=ys.take i∧xs[i]=ys[i]:=by
 rw [List.take_succ_eq_append_getElem h,List.take_succ_eq_append_getElem h']
 constructor
 ·intro e
  obtain ⟨e1,e2⟩:=List.append_inj e (by simp;omega)
  exact ⟨e1,by simpa using e2⟩
 ·rintro ⟨e1,e2⟩
  rw [e1,e2]
end Go.HL
end

/-! RfF -/
section
namespace Go.HL
open Go Go.Proofs
set_option maxHeartbeats 2000000 attribute [local irreducible] HW HO HQ HD HC QOp Has Upd Zo Gets Ye Z6 Zq X0 Z5 Zj X7 Zw
end Go.HL
end

/-! LdE -/
section
namespace Go.HL
open Go Go.Proofs
set_option maxHeartbeats 2000000 attribute [local irreducible] HW HO HQ HD HC QOp Has Upd Zo Gets Ye Z6 Zq X0 Z5 Zj X7 Zw
structure LdIs (ws:List Int) (id deal att:Int) (m:Ld):Prop where
 hid:m.id=id
 hdl:m.deal=deal
 hat:m.att=att
 hw:m.w=ws
 htl:m.told.length=7
 hhd:m.heard<2 ^ ws.length
theorem LdIs.ok {w:List Int} {id deal att:Int} {m m':Ld} {wv:Value} {wc:List Zm} (h:LdIs w id deal att m) (h':LdIs w id deal att m') (ho:LdOk wv wc m):LdOk wv wc m':=ho.of (by rw [h.hw,h'.hw]) (by rw [h.htl,h'.htl])
theorem LdIs.done {w:List Int} {id deal att:Int} {m:Ld} (h:LdIs w id deal att m):LdIs w id deal att (Ul m):=⟨h.hid,h.hdl,h.hat,h.hw,h.htl,h.hhd⟩
theorem LdIs.prep {w:List Int} {id deal att:Int} {m:Ld} (h:LdIs w id deal att m) (p:Int):LdIs w id deal att (Zbn m p):=⟨h.hid,h.hdl,h.hat,h.hw,h.htl,Nat.two_pow_pos _⟩
theorem LdIs.m1 {w:List Int} {id deal att:Int} {m:Ld} (h:LdIs w id deal att m) (f:Fr):LdIs w id deal att (Zg4 m f):=by
 unfold Zg4;split
 ·exact h
 ·exact ⟨h.hid,h.hdl,h.hat,h.hw,h.htl,h.hhd⟩
theorem LdIs.m2 {w:List Int} {id deal att:Int} {m:Ld} (h:LdIs w id deal att m) (f:Fr) (hf:Vm m f):LdIs w id deal att (Zfs m f):=by
 have h1:=h.m1 f
 refine ⟨h1.hid,h1.hdl,h1.hat,h1.hw,?_,?_⟩
 ·simp [Zfs,h.htl]
 ·have:=hf.2.2.2.2.2.1
  have:=hf.2.2.2.2.1
  rw [h.hw] at *
  exact Zfg h.hhd (by omega)
theorem LdIs.count {w:List Int} {id deal att:Int} {m:Ld} (h:LdIs w id deal att m):LdIs w id deal att (Xl m).1:=by
 unfold Xl
 split
 ·exact h.prep _
 split
 ·exact h
 split
 ·exact h.done
 split
 ·exact h.done
 ·exact h.prep _
theorem LdIs.hear {w:List Int} {id deal att:Int} {m:Ld} (h:LdIs w id deal att m) (f:Fr):LdIs w id deal att (Yf m f).1:=by
 unfold Yf
 split
 ·exact h
 rename_i hw
 have hf:Vm m f:=by
  by_cases hf:Vm m f
  ·exact hf
  ·exact absurd (.inr hf) hw
 split
 ·unfold noM
  have h1:=h.m1 f
  split
  ·exact h1.done
  ·exact ⟨h1.hid,h1.hdl,h1.hat,h1.hw,h1.htl,h1.hhd⟩
 ·exact (h.m2 f hf).count
theorem Zey (m:Ld) (k p:Int):(Zeg m k p).length≤m.w.length:=Vn (Zef m k p) (Zel m k p) m.w.length
theorem Zce (m:Ld) (f:Fr):(Yf m f).2.length≤m.w.length:=by
 have e1:(Zg4 m f).w=m.w:=by unfold Zg4;split<;>rfl
 have e2:(Zfs m f).w=m.w:=e1
 unfold Yf
 split
 ·simp
 split
 ·unfold noM
  split
  ·have:=Zey (Ul (Zg4 m f)) 7 3
   rw [show (Ul (Zg4 m f)).w=m.w from e1] at this
   exact this
  ·simp
 ·unfold Xl
  have hp : ∀ p,(Zn8 (Zfs m f) p).2.length≤m.w.length:=fun p=>by
   have:=Zey (Zbn (Zfs m f) p) 5 p
   rw [show (Zbn (Zfs m f) p).w=m.w from e1] at this
   exact this
  have hd : ∀ p,(Ze7 (Zfs m f) p).2.length≤m.w.length:=fun p=>by
   have:=Zey (Ul (Zfs m f)) 7 p
   rw [show (Ul (Zfs m f)).w=m.w from e1] at this
   exact this
  split
  ·exact hp _
  split
  ·simp
  split
  ·exact hd _
  split
  ·exact hd _
  ·exact hp _
end Go.HL
end

/-! WoI -/
section
namespace Go.HL
open Go Go.Proofs
def Zfz (n:Nat) (f:Fr):Prop := ¬ Wq f∧f.to<n∧f.fr<n
theorem SI.eq {m:Pl} {j:Jn} (h:SI m j):j=⟨Zv m.b,m.off⟩:=by
 obtain ⟨l,d⟩:=j
 have h1:d=m.off:=h.ji.off
 have h2:l=Zv m.b:=h.ji.l
 rw [h1,h2]
theorem allM_mem {m:Ld} {k p:Int} {f:Fr} (h:f∈Zeg m k p) : ∃ i,i<m.w.length∧f=⟨m.id,i,m.deal,k,m.att,false,⟨p,0,0⟩⟩∧(k≠3∨(i:Int)≠m.id):=by
 unfold Zeg at h
 obtain ⟨i,hi,hf⟩:=List.mem_flatMap.1 h
 unfold Zef at hf
 split at hf
 ·rename_i hc
  simp at hf
  exact ⟨i,List.mem_range.1 hi,hf,hc⟩
 ·cases hf
theorem Zb6 {w:List Int} {s d:Nat} {m:Ld} (hi:LdI w s d m) (hs:s<w.length) (hw:w.length≤7) (hd:d<6) {k p:Int} (hk:1≤k∧k≤7) (hp:0≤p∧p≤5) : ∀ f∈Zeg m k p,Zfz w.length f:=by
 intro f hf
 obtain ⟨i,h1,rfl,-⟩:=allM_mem hf
 rw [hi.ww] at h1
 have e1:=hi.id
 have e2:=hi.deal
 have e3:=hi.att0
 have e4:=hi.att1
 unfold Zfz Wq
 simp only
 omega
theorem LdI.is {w:List Int} {s d:Nat} {x:Ld} (h:LdI w s d x):LdIs w s d x.att x:=⟨h.id,h.deal,rfl,h.ww,h.told,h.heard⟩
theorem LdI.of {w:List Int} {s d:Nat} {x y:Ld} (h:LdI w s d x) (hy:LdIs w s d x.att y) (ht : ∀ t∈y.told,0≤t.ph∧t.ph≤5) (hp:0≤y.phase∧y.phase≤5) (hs:0≤y.seen∧y.seen≤1048576):LdI w s d y:=
 ⟨hy.hw,hy.hid,hy.hdl,by rw [hy.hat];exact h.att0,by rw [hy.hat];exact h.att1,hy.htl,ht,hy.hhd,hp.1,hp.2,hs.1,hs.2⟩
theorem LdI.done {w:List Int} {s d:Nat} {x:Ld} (h:LdI w s d x):LdI w s d (Ul x):=h.of h.is.done h.tok ⟨h.ph0,h.ph1⟩ ⟨h.seen0,h.seen1⟩
theorem LdI.prep {w:List Int} {s d:Nat} {x:Ld} (h:LdI w s d x) {p:Int} (hp:0≤p∧p≤5):LdI w s d (Zbn x p):=h.of (h.is.prep p) h.tok hp ⟨h.seen0,h.seen1⟩
theorem LdI.m1 {w:List Int} {s d:Nat} {x:Ld} (h:LdI w s d x) {f:Fr} (hf : ¬ Wq f):LdI w s d (Zg4 x f):=by
 refine h.of (h.is.m1 f) ?_ ?_ ?_
 ·unfold Zg4;split<;>exact h.tok
 ·unfold Zg4;split<;>exact ⟨h.ph0,h.ph1⟩
 ·have h1:=h.seen0
  have h2:=h.seen1
  unfold Wq at hf
  unfold Zg4
  split
  ·exact ⟨h1,h2⟩
  ·simp only
   omega
theorem LdI.m2 {w:List Int} {s d:Nat} {x:Ld} (h:LdI w s d x) {f:Fr} (hf : ¬ Wq f) (hfit:Vm x f):LdI w s d (Zfs x f):=by
 have h1:=h.m1 hf
 refine h.of (h.is.m2 f hfit) ?_ ⟨h1.ph0,h1.ph1⟩ ⟨h1.seen0,h1.seen1⟩
 intro t ht
 unfold Zfs at ht
 rcases List.mem_or_eq_of_mem_set ht with h2|h2
 ·exact h.tok t h2
 ·subst h2
  unfold Wq at hf
  omega
theorem Zqe (p:Int):0≤Vr p∧Vr p≤5:=by unfold Vr;split<;>(try split)<;>omega
theorem Ze4 (xs:List St):0≤(Y8 xs).1∧(Y8 xs).1≤5:=by
 unfold Y8
 split
 ·simp
 split
 ·simp
 split<;>simp
theorem LdI.count {w:List Int} {s d:Nat} {x:Ld} (h:LdI w s d x) (hs:s<w.length) (hw:w.length≤7) (hd:d<6):LdI w s d (Xl x).1 ∧ ∀ f∈(Xl x).2,Zfz w.length f:=by
 have hpre : ∀ p,0≤p∧p≤5→LdI w s d (Zn8 x p).1 ∧ ∀ f∈(Zn8 x p).2,Zfz w.length f:=fun p hp=>⟨h.prep hp,Zb6 (h.prep hp) hs hw hd (by omega) hp⟩
 have hdec : ∀ p,0≤p∧p≤5→LdI w s d (Ze7 x p).1 ∧ ∀ f∈(Ze7 x p).2,Zfz w.length f:=fun p hp=>⟨h.done,Zb6 h.done hs hw hd (by omega) hp⟩
 unfold Xl
 split
 ·exact hpre 4 (by omega)
 split
 ·exact ⟨h,fun f hf=>by cases hf⟩
 split
 ·exact hdec _ (Zqe _)
 split
 ·exact hdec _ (Ze4 _)
 ·exact hpre _ (Ze4 _)
theorem LdI.hear {w:List Int} {s d:Nat} {x:Ld} (h:LdI w s d x) (hs:s<w.length) (hw:w.length≤7) (hd:d<6) {f:Fr} (hf : ¬ Wq f):LdI w s d (Yf x f).1 ∧ ∀ g∈(Yf x f).2,Zfz w.length g:=by
 unfold Yf
 split
 ·exact ⟨h,fun g hg=>by cases hg⟩
 rename_i hwt
 have hfit:Vm x f:=by
  by_cases hfit:Vm x f
  ·exact hfit
  ·exact absurd (.inr hfit) hwt
 split
 ·unfold noM
  have h1:=h.m1 hf
  split
  ·exact ⟨h1.done,Zb6 h1.done hs hw hd (by omega) (by omega)⟩
  ·exact ⟨⟨h1.ww,h1.id,h1.deal,h1.att0,h1.att1,h1.told,h1.tok,h1.heard,h1.ph0,h1.ph1,h1.seen0,h1.seen1⟩,fun g hg=>by cases hg⟩
 ·exact (h.m2 hf hfit).count hs hw hd
theorem Zjd {w:List Int} {s d:Nat} {a k:Int} (h0:0≤a) (h1:a≤1048576):LdI w s d (Zk s d w a k):=
 ⟨rfl,rfl,rfl,h0,h1,rfl,fun t ht=>by
  rw [List.mem_replicate.1 ht |>.2]
  simp [W2],Nat.two_pow_pos _,by simp [Zk],by simp [Zk],by simp [Zk],by simp [Zk]⟩
theorem Zic {w:List Int} {s d:Nat} {m:Ld} (hi:LdI w s d m) (hs:s<w.length) (hw:w.length≤7) (hd:d<6) : ∀ f∈Xx m,Zfz w.length f:=by
 unfold Xx
 split
 ·exact Zb6 hi hs hw hd (by omega) (by omega)
 ·exact Zb6 hi hs hw hd (by omega) (by omega)
theorem WI.set {M:Wm} (h:WI M) {s:Int} {m:Nd} (h0:0≤s) (hm:NdI M.w s.toNat m):WI (Xb M s m):=by
 refine ⟨h.w0,h.wl,h.w1,by simp [Xb,h.wn],h.fr,h.evl,fun q x hx=>?_⟩
 simp only [Xb,List.getElem?_set] at hx
 by_cases hq:s.toNat=q
 ·rw [if_pos hq] at hx
  split at hx
  ·cases hx
   rw [← hq]
   exact hm
  ·cases hx
 ·rw [if_neg hq] at hx
  exact h.nd q x hx
theorem WI.setL {M:Wm} (h:WI M) {l:List Fr} (hl : ∀ f∈l,Zfz M.w.length f):WI { M with l:=l }:=⟨h.w0,h.wl,h.w1,h.wn,hl,h.evl,h.nd⟩
theorem WI.setE {M:Wm} (h:WI M) {l:List Evt} (hl:l.length≤500):WI { M with ev:=l }:=⟨h.w0,h.wl,h.w1,h.wn,h.fr,hl,h.nd⟩
theorem WI.setB {M:Wm} (h:WI M) (f:Int × Int→Bool):WI { M with br:=f }:=⟨h.w0,h.wl,h.w1,h.wn,h.fr,h.evl,h.nd⟩
theorem WI.erase {M:Wm} (h:WI M) (k:Nat):WI { M with l:=M.l.eraseIdx k }:=h.setL fun f hf=>h.fr f (List.mem_of_mem_eraseIdx hf)
theorem Zhx (s:Int) (m:Nd) (ev:List Evt):(Xk s m ev).1.length=m.done.length:=by
 unfold Xk
 split
 ·rfl
 ·exact Zaz 6
theorem Zlu (s:Int) (m:Nd) (ev:List Evt) (h:ev.length≤500):(Xk s m ev).2.length≤500:=by
 unfold Xk
 split
 ·exact h
 ·exact Zfy h 6
theorem NdI.fall {w:List Int} {s:Nat} {m:Nd} (h:NdI w s m) {pl:Pl} (hb:pl.b.length=512) (hsi:SI pl ⟨Zv pl.b,pl.off⟩) (hoff:pl.off=true):NdI w s ⟨pl,none,Yn,m.done⟩:=
 ⟨by simp [Yn],h.done,hb,hsi,fun j ref hs=>(by cases hs),fun _=>hoff,fun d x hx=>(by
  simp only [Yn,List.getElem?_replicate] at hx
  split at hx<;>cases hx)⟩
theorem NdI.lead {w:List Int} {s:Nat} {m:Nd} (h:NdI w s m) {d:Nat} {x:Ld} (hx:LdI w s d x):NdI w s { m with leads:=m.leads.set d (some x) }:=by
 refine ⟨by simp [h.leads],h.done,h.b512,h.si,h.up,h.dn,fun q y hy=>?_⟩
 simp only [List.getElem?_set] at hy
 by_cases hq:d=q
 ·rw [if_pos hq] at hy
  split at hy
  ·cases hy
   rw [← hq]
   exact hx
  ·cases hy
 ·rw [if_neg hq] at hy
  exact h.ldi q y hy
theorem Zry {n:Nat} {s:Nat} {f:Fr} {ref:Int→Bool} {st:St} (hs:s<n) (hn:n≤7) (hf : ¬ Wq f) (hfr:f.fr<n) (hst:Zgi st) (hk:(Yq ref f st).2.1≠0):Zfz n ⟨s,f.fr,f.dl,(Yq ref f st).2.1,f.att,(Yq ref f st).2.2,(Yq ref f st).1⟩:=by
 obtain ⟨⟨g1,g2,g3,g4,g5⟩,-⟩:=Zp6 (ref:=ref) hst hf
 have hk7:(Yq ref f st).2.1=0∨(Yq ref f st).2.1=2∨(Yq ref f st).2.1=4∨(Yq ref f st).2.1=6:=by
  unfold Yq
  split
  ·simp
  split
  ·simp
  split
  ·split
   ·simp
   ·split<;>simp
  split<;>simp
 unfold Zfz Wq at *
 simp only
 omega
theorem NdI.hear {w:List Int} {s:Nat} {m:Nd} (h:NdI w s m) (hs:s<w.length) (hw:w.length≤7) (ev:List Evt) (hev:ev.length≤500) {f:Fr} (hfr:f.fr<w.length) :
  NdI w s (Xv s m ev f).1∧(Xv s m ev f).2.1.length≤500 ∧ ∀ g∈(Xv s m ev f).2.2.1,Zfz w.length g:=by
 unfold Xv
 cases hsi:m.site with
 | none=>exact ⟨h,hev,fun g hg=>by cases hg⟩
 | some q =>
  obtain ⟨j,ref⟩:=q
  simp only
  have hS:=h.jn hsi
  obtain ⟨a1,a2,a3,a4⟩:=Zme (id:=(s:Int)) (ref:=ref) hS f
  generalize hr:Z3 s ref m.pl j f=r at *
  obtain ⟨pl',j',fs,er⟩:=r
  simp only at a1 a2 a3 a4 ⊢
  have hj':=a1.eq
  have hb:pl'.b.length=512:=by rw [a2];exact h.b512
  split
  ·rename_i hoff
   exact ⟨h.fall hb (hj'▸a1) hoff,hev,fun g hg=>by cases hg⟩
  ·rename_i hoff
   have hoff':pl'.off=false:=by simpa using hoff
   refine ⟨⟨h.leads,by rw [Zhx];exact h.done,hb,hj'▸a1,fun j2 r2 e=>?_,fun e=>(by cases e),h.ldi⟩,Zlu _ _ _ hev,?_⟩
   ·cases e
    rw [hj']
    exact ⟨by rw [hoff'],hoff'⟩
   ·intro g hg
    rcases a4 with a4|⟨b1,b2,b3,b4,b5,b6,b7⟩
    ·rw [a4] at hg;cases hg
    ·rw [b7] at hg
     simp only [List.mem_singleton] at hg
     subst hg
     unfold Wq at b1
     exact Zry hs hw (by unfold Wq;exact b1) hfr (hS.st f.dl.toNat (by omega)) b4
theorem WI.hear {M:Wm} (h:WI M) {s:Int} (h0:0≤s) (h1:s<M.n.length) {f:Fr} (hfr:f.fr<M.w.length):WI (Y3 M s f).1 ∧ ∀ g∈(Y3 M s f).2.1,Zfz M.w.length g:=by
 have hn:=h.wn
 have hx:=h.nd s.toNat (Zf M s) (getD_some (by omega))
 have e:((s.toNat:Nat):Int)=s:=by omega
 have key:=hx.hear (by omega) h.wl M.ev h.evl hfr
 rw [e] at key
 obtain ⟨k1,k2,k3⟩:=key
 exact ⟨(h.set h0 k1).setE k2,k3⟩
theorem Zc8 {w:List Int} {s d:Nat} (hs:s<w.length) (hw:w.length≤7) (hd:d<6) : ∀ (l:List Fr) (x:Ld) (acc:List Fr),LdI w s d x→(∀ f∈l,Zfz w.length f)→(∀ f∈acc,Zfz w.length f) →
  LdI w s d (l.foldl (fun q f=>((Yf q.1 f).1,q.2++(Yf q.1 f).2)) (x,acc)).1 ∧ ∀ f∈(l.foldl (fun q f=>((Yf q.1 f).1,q.2++(Yf q.1 f).2)) (x,acc)).2,Zfz w.length f
 | [],x,acc,hx,_,ha=>⟨hx,ha⟩
 | f::l,x,acc,hx,hl,ha=>by
  rw [List.foldl_cons]
  obtain ⟨k1,k2⟩:=hx.hear hs hw hd (hl f (by simp)).1
  refine Zc8 hs hw hd l _ _ k1 (fun g hg=>hl g (by simp [hg])) fun g hg=>?_
  rcases List.mem_append.1 hg with hg|hg
  ·exact ha g hg
  ·exact k2 g hg
end Go.HL
end
