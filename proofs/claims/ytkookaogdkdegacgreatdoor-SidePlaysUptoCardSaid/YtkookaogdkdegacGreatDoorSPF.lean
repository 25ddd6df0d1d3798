/- Texts laid into one, without what the claim does not use. Conditions: none. -/
import Derived.Test.YtkookaogdkdegacGreatDoorSPE
import Derived.Stop.Asserts
set_option linter.unusedVariables false
set_option linter.unusedSimpArgs false
set_option linter.unusedSectionVars false
set_option maxHeartbeats 4000000
set_option maxRecDepth 100000
namespace Go.HL
open Go Go.Proofs Go.Proofs.Tryz
variable[Tasks]
theorem HC.nodup{P:Program}{f:Nat}{args:List Value}{L:Za}{Q:Value→Za→Prop}(h0:Enters P f)(h:(L.flatten.map (·.1)).Nodup→HC P f args L Q):HC P f args L Q:=
 ⟨h0,fun main Φ fr cs hc=>Lo.nodup rfl fun hn=>(h hn).2 main Φ fr cs hc⟩
attribute [local irreducible] HW HO HQ HD HC QOp Has Upd Yi Gets Vv W6 Xn Zaf Wa Yz Zcl Xy
def Zby:List Int→Nat→Int
 | [],_=>0
 | x::r,s=>(if s % 2=1 then x else 0)+Zby r (s / 2)
theorem Zip(y:Int):∀(l:List Int) (s:Nat),Zby (l++[y]) s=Zby l s+(if s / 2 ^ l.length % 2=1 then y else 0)
 | [],s=>by simp[Zby]
 | x::r,s=>by
  simp only[Z19,Zby,Zip y r (s / 2),Z2y,Nat.div_div_eq_div_mul,Z6i,Nat.mul_comm 2]
  omega
theorem Ze3:∀(l:List Int) (s:Nat),(∀x∈l,0≤x∧x≤1000)→0≤Zby l s∧Zby l s≤1000*l.length
 | [],s,_=>by simp[Zby]
 | x::r,s,h=>by
  have h1:=Ze3 r (s / 2) (fun y hy=>h y (by simp[hy]))
  have h2:=h x (by simp)
  simp only[Zby,Z2y]
  split<;>omega
def Zcf(ws:List Int)(set:Int):Int × Option Nat:=
 match Ys ws with
 | some e=>(0,some e)
 | none=>if set<0∨ws.length<Zag set.toNat then (0,some 2) else (Zby ws set.toNat,none)
theorem Vm{ws:List Int}(h:Ys ws=none):1≤ws.length∧ws.length≤7∧(∀x∈ws,0≤x∧x≤1000)∧mx ws≠0:=by
 unfold Ys at h
 split at h
 ·cases h
 ·split at h
  ·cases h
  ·split at h
   ·cases h
   ·rename_i h1 h2 h3
    refine⟨by omega,by omega,fun x hx=>?_,h3⟩
    simp only[Z5z,Z4y,Zpm,Z3r]at h2
    have:=h2 x hx
    omega
theorem Zx0(n k:Nat):(((((n:Int) / 2 ^ k).toNat &&& Int.toNat 1:Nat):Int)=1)↔n / 2 ^ k % 2=1:=by
 have e:((n:Int) / 2 ^ k).toNat=n / 2 ^ k:=by
  have:((n:Int) / 2 ^ k)=((n / 2 ^ k:Nat):Int):=by simp
  rw[this];rfl
 rw[e,show Int.toNat 1=1 from rfl,Nat.and_one_is_mod]
 omega
theorem Zpn(n k:Nat)(h:(n:Int)≤9223372036854775807):0≤(n:Int) / 2 ^ k∧(n:Int) / 2 ^ k≤Ze6 .i64∧(0:Int)≤1∧(1:Int)≤Ze6 .i64:=by
 have:((n:Int) / 2 ^ k)=((n / 2 ^ k:Nat):Int):=by simp
 have h2:n / 2 ^ k≤n:=Nat.div_le_self _ _
 rw[this]
 clear this
 generalize n / 2 ^ k=q at h2 ⊢
 simp only[Ze6]
 omega
theorem Zpe(T:Nat)(E:Nat→Addr)(a:Option Addr)(cap:Nat)(xs:List Int)(set:Int)(L:Za)(hG:Er T E [2,3,4] L)(hR:Rd ic 1 L a xs)(hl:xs.length≤1000000)(hs:set≤9223372036854775807):
  HC prog 178 [.slice a xs.length cap,iv set] L (fun v L'=>v=.tuple ⟨[iv (Zcf xs set).1,eV T E (Zcf xs set).2]⟩∧L'=L):=by
 refine uE func178 ntmps178 ?_
 have hk:=Zdp T E a cap xs L hG hR hl
 cases hc:Ys xs with
 | some e=>
  rw[hc]at hk
  repeat' (first|refine uN ?_|refine uC (hk) ?_|(refine uP ?_ ?_<;>intro h<;>try exact zx)|refine uM ?_|fail)
  (refine Wl rfl rfl rfl ?_ ⟨?_,rfl⟩;(next=>(repeat (first|exact Z15 _|apply List.Sublist.cons))))
  simp[Zcf,hc]
 | none=>
  rw[hc]at hk
  obtain⟨c1,c2,c3,c4⟩:=Vm hc
  by_cases h0:0≤set
  ·obtain⟨n,rfl⟩:=Z2t h0
   have hb:=Z0k n (by omega) L
   repeat' (first|refine uN ?_|refine uC (hk) ?_|refine uC (hb) ?_|(refine uP ?_ ?_<;>intro h<;>try exact zx)|refine uM ?_|fail)
   ·(refine Wl rfl rfl rfl ?_ ⟨?_,rfl⟩;(next=>(repeat (first|exact Z15 _|apply List.Sublist.cons))))
    simp only[Zcf,hc]
    rw[Z2d (by simp;omega)]
    rfl
   ·refine Zm (σ:=Int × Int) (fun s=>[(1,iv n),(7,iv s.2),(26,.slice a xs.length cap),(27,iv xs.length),(28,iv s.1)]) (fun _=>L) (fun s=>0≤s.1∧s.1≤xs.length∧Zby (xs.take s.1.toNat) n=s.2) (fun s=>(xs.length-s.1).toNat) (0,0) uS (Z15 _) ⟨by simp,by simp,by simp[Zby]⟩ ?_
    rintro⟨j,m⟩ ⟨j0,j1,hm⟩
    simp only at j0 j1 hm
    by_cases hlt:j<xs.length
    ·obtain⟨b,i,l,E',fr,rfl,hb',hg'⟩:=hR.at1 j0 hlt
     have hm2:=Ze3 (xs.take j.toNat) n (fun x hx=>c3 x (Z4x hx))
     have hx:=c3 (xs[j.toNat]'(by omega)) (Z3c _)
     have hn:=Zip (xs[j.toNat]'(by omega)) (xs.take j.toNat) n
     rw[← U4 j0 hlt]at hn
     rw[hm]at hm2 hn
     rw[Z3g]at hm2 hn
     rw[Z41 (by omega)]at hn
     have hb1:=Zpn n j.toNat hs
     have hb2:=Zx0 n j.toNat
     repeat' (first|refine uN ?_|(refine uP ?_ ?_<;>intro h<;>try exact zx)|refine uM ?_|fail)
     all_goals (refine Zn (j+1,_) uS (Z15 _) ⟨by show 0≤j+1;omega,by show j+1≤(xs.length:Int);omega,?_⟩ (by show (xs.length-(j+1)).toNat<(xs.length-j).toNat;omega))
     all_goals (show Zby (xs.take (j+1).toNat) n=_;rw[hn])
     ·rw[Z2d (hb2.1 (by assumption))]
     ·rw[Z16 (fun e=>by have:=hb2.2 e;contradiction)];omega
    ·repeat' (first|refine uN ?_|(refine uP ?_ ?_<;>intro h<;>try exact zx)|refine uM ?_|fail)
     (refine Wl rfl rfl rfl ?_ ⟨?_,rfl⟩;(next=>(repeat (first|exact Z15 _|apply List.Sublist.cons))))
     rw[Zad hlt]at hm
     simp only[Zcf,hc]
     rw[Z16 (by simp;omega),← hm]
     rfl
  ·repeat' (first|refine uN ?_|refine uC (hk) ?_|(refine uP ?_ ?_<;>intro h<;>try exact zx)|refine uM ?_|fail)
   (refine Wl rfl rfl rfl ?_ ⟨?_,rfl⟩;(next=>(repeat (first|exact Z15 _|apply List.Sublist.cons))))
   simp only[Zcf,hc]
   rw[Z2d (by omega)]
   rfl
theorem Zkj{k:Nat}(h:k≤30):0≤(k:Int)∧(k:Int)≤64∧-9223372036854775808≤(1:Int)*2 ^ (k:Int).toNat∧(1:Int)*2 ^ (k:Int).toNat≤9223372036854775807:=by
 have h1:(2:Nat) ^ k≤2 ^ 30:=Z3e (by decide) h
 have e:(1:Int)*2 ^ (k:Int).toNat=((2 ^ k:Nat):Int):=by simp
 rw[e]
 have h2:=Z3p k
 generalize (2:Nat) ^ k=q at*
 omega
def Xz(ws:List Int)(set:Int):Bool × Option Nat:=
 match Zcf ws set with
 | (_,some e)=>(false,some e)
 | (n,none)=>(decide ((Zcf ws (2 ^ ws.length-1)).1<2*n),(Zcf ws (2 ^ ws.length-1)).2)
theorem Z1t{ws:List Int}{set:Int}(h:(Zcf ws set).2=none):Ys ws=none∧0≤set∧Zag set.toNat≤ws.length∧(Zcf ws set).1=Zby ws set.toNat:=by
 unfold Zcf at*
 cases hc:Ys ws with
 | some e=>rw[hc]at h;cases h
 | none=>
  rw[hc]at h
  simp only at*
  split at h
  ·cases h
  ·rename_i h1
   rw[Z16 h1]
   refine⟨trivial,?_,?_,rfl⟩<;>omega
theorem all_none{ws:List Int}(h:Ys ws=none):Zcf ws (2 ^ ws.length-1)=(Zby ws (2 ^ ws.length-1),none):=by
 have e:((2:Int) ^ ws.length-1)=((2 ^ ws.length-1:Nat):Int):=by
  have:=Z3p ws.length
  rw[Int.ofNat_sub (by omega)]
  simp
 have h2:Zag (2 ^ ws.length-1)≤ws.length:=blen_le.2 (by have:=Z3p ws.length;omega)
 unfold Zcf
 rw[h,e]
 simp only[Z2w]
 rw[Z16 (by omega)]
theorem Zgu(T:Nat)(E:Nat→Addr)(a:Option Addr)(cap:Nat)(xs:List Int)(set:Int)(L:Za)(hG:Er T E [2,3,4] L)(hR:Rd ic 1 L a xs)(hl:xs.length≤1000000)(hs:set≤9223372036854775807):
  HC prog 128 [.slice a xs.length cap,iv set] L (fun v L'=>v=.tuple ⟨[.bool (Xz xs set).1,eV T E (Xz xs set).2]⟩∧L'=L):=by
 refine uE func128 ntmps128 ?_
 have hk:=Zpe T E a cap xs set L hG hR hl hs
 cases hc:(Zcf xs set).2 with
 | some e=>
  rw[hc]at hk
  repeat' (first|refine uN ?_|refine uC (hk) ?_|(refine uP ?_ ?_<;>intro h<;>try exact zx)|fail)
  (refine Wl rfl rfl rfl ?_ ⟨?_,rfl⟩;(next=>(repeat (first|exact Z15 _|apply List.Sublist.cons))))
  have:Xz xs set=(false,some e):=by
   unfold Xz
   split
   ·rename_i h;rw[h]at hc;cases hc;rfl
   ·rename_i h;rw[h]at hc;cases hc
  rw[this]
 | none=>
  rw[hc]at hk
  obtain⟨h1,h2,h3,h4⟩:=Z1t hc
  obtain⟨c1,c2,c3,c4⟩:=Vm h1
  have hsh:=Zkj (k:=xs.length) (by omega)
  have e2:(1:Int)*2 ^ (xs.length:Int).toNat=2 ^ xs.length:=by simp
  have hp:1≤(1:Int)*2 ^ (xs.length:Int).toNat:=by
   rw[e2]
   have e3:(2:Int) ^ xs.length=((2 ^ xs.length:Nat):Int):=by simp
   rw[e3]
   have:=Z3p xs.length
   generalize (2:Nat) ^ xs.length=q at*
   omega
  have hk2:=Zpe T E a cap xs (1*2 ^ (xs.length:Int).toNat-1) L hG hR hl (by omega)
  have hb:=Ze3 xs set.toNat c3
  rw[← h4]at hb
  repeat' (first|refine uN ?_|refine uC (hk) ?_|refine uC (hk2) ?_|(refine uP ?_ ?_<;>intro h<;>try exact zx)|fail)
  (refine Wl rfl rfl rfl ?_ ⟨?_,rfl⟩;(next=>(repeat (first|exact Z15 _|apply List.Sublist.cons))))
  rw[e2]
  have:Xz xs set=(decide ((Zcf xs (2 ^ xs.length-1)).1<2*(Zcf xs set).1),(Zcf xs (2 ^ xs.length-1)).2):=by
   unfold Xz
   split
   ·rename_i h;rw[h]at hc;cases hc
   ·rename_i h;rw[h]
  rw[this]
theorem Rd.inn{α:Type}{enc:α→List Value}{sz:Nat}{L:Za}{c:List Zp}{a:Option Addr}{xs:List α}(e:Zp)(h:Rd enc sz (c::L) a xs):Rd enc sz ((e::c)::L) a xs:=by
 rcases h with h|⟨b,i,l,E,fr,h1,h2,h3⟩
 ·exact .inl h
 ·exact .inr ⟨b,i,l,E,fr,h1,Qp h2,h3⟩
theorem bit_iff0(n k:Nat):(((((n:Int) / 2 ^ k).toNat &&& Int.toNat 1:Nat):Int)=0)↔n / 2 ^ k % 2=0:=by
 have e:((n:Int) / 2 ^ k).toNat=n / 2 ^ k:=by
  have:((n:Int) / 2 ^ k)=((n / 2 ^ k:Nat):Int):=by simp
  rw[this];rfl
 rw[e,show Int.toNat 1=1 from rfl,Nat.and_one_is_mod]
 omega
def X4(m:Ld)(f:Fr):Prop:=f.kd=m.wait∧f.dl=m.deal∧f.att=m.att∧f.to=m.id∧0≤f.fr∧f.fr<m.w.length∧m.heard / 2 ^ f.fr.toNat % 2=0
instance(m:Ld)(f:Fr):Decidable (X4 m f):=by unfold X4;infer_instance
def Vb(m:Ld)(i:Nat):List St:=if m.heard / 2 ^ i % 2=1 then [m.told.getD i Uc] else []
def Xh(m:Ld):List St:=(List.range m.w.length).flatMap (Vb m)
def Zdi(m:Ld)(f:Fr):Ld:=if f.kd=2 then m else { m with seen:=max m.seen f.s.pr }
def Zbj(m:Ld)(f:Fr):Ld:={ Zdi m f with heard:=m.heard ||| 2 ^ f.fr.toNat,told:=m.told.set f.fr.toNat f.s }
def Zdr(m:Ld)(p:Int):Ld × List Fr:=(V5 m,Zdo (V5 m) 7 p)
def Znv(m:Ld)(p:Int):Ld × List Fr:=(Qn m p,Zdo (Qn m p) 5 p)
def Ya(m:Ld):Ld × List Fr:=
 if m.wait=2∧m.heard=2 ^ m.w.length-1 then Znv m 4 else
 if m.wait=2∨(Xz m.w m.heard).1=false then (m,[]) else
 if m.wait=6 then Zdr m (V4 m.phase) else
 if (Yc (Xh m)).2 then Zdr m (Yc (Xh m)).1 else Znv m (Yc (Xh m)).1
def Zw(m:Ld)(f:Fr):Ld × List Fr:=
 if m.wait=0∨¬ X4 m f then (m,[]) else
 if f.yes=false then noM (Zdi m f) else Ya (Zbj m f)
theorem W1(f:Nat→List St)(i:Nat):(List.range (i+1)).flatMap f=(List.range i).flatMap f++f i:=by
 rw[Z4i,List.flatMap_append];simp
theorem Wx(f:Nat→List St)(hf:∀i,(f i).length≤1):∀i,((List.range i).flatMap f).length≤i
 | 0=>by simp
 | i+1=>by rw[W1,Z2i];have:=Wx f hf i;have:=hf i;omega
theorem Zda(m:Ld)(i:Nat):(Vb m i).length≤1:=by unfold Vb;split<;>simp
theorem Zgz{a:Nat}{k n:Nat}(h:a<2 ^ n)(hk:k<n):a ||| 2 ^ k<2 ^ n:=Nat.or_lt_two_pow h (Nat.pow_lt_pow_right (by decide) hk)
section
attribute [local irreducible] Wb
theorem Zrc(lp:Nat)(wv:Value)(wc:List Zp)(m:Ld)(L:Za)(hm:LdOk wv wc m)(hh:m.heard<128):HC prog 133 [pt lp 0] (Zax lp wv wc m::L)
  (fun v L'=>∃c,Vec 43 3 sc v (Xh m) c∧L'=c::Zax lp wv wc m::L):=by
 obtain⟨a,cap,rfl,hcap,hR⟩:=hm.vec.rd X0
 have hlen:=hm.len
 have htl:=hm.told
 generalize hwv:Value.slice a m.w.length cap=wv at*
 have g3:(Wb wv m)[0+3]?=some (.slice a m.w.length cap):=by rw[hwv];exact X1 rfl
 have g6:(Wb wv m)[0+6]?=some (iv m.heard):=X1 rfl
 refine uE func133 ntmps133 ?_
 repeat' (first|refine uN ?_|(refine uB ?_;intro b)|(refine uP ?_ ?_<;>intro h<;>try exact zx)|fail)
 refine Zkb ?_
 refine Zm (σ:=Nat × Value × List Zp) (fun q=>[(0,pt lp 0),(3,q.2.1),(9,iv m.w.length),(10,iv q.1)]) (fun q=>q.2.2::Zax lp wv wc m::L) (fun q=>q.1≤m.w.length∧Vec 43 3 sc q.2.1 ((List.range q.1).flatMap (Vb m)) q.2.2) (fun q=>m.w.length-q.1) (0,Yt,[]) uS (Z15 _) ⟨by simp,Zt⟩ ?_
 rintro⟨i,v,c⟩ ⟨hi,hv⟩
 simp only at hi hv ⊢
 have hle:=Wx (Vb m) (Zda m) i
 by_cases hlt:i<m.w.length
 ·have hb1:=Zpn m.heard (i:Int).toNat (by omega)
  have hb2:=Zx0 m.heard (i:Int).toNat
  have ht:m.told[i]?=some (m.told.getD i Uc):=by rw[List.getD,Z2c (by omega)];rfl
  have gt:=ld_told (wv:=wv) ht
  by_cases hbit:m.heard / 2 ^ i % 2=1
  ·have e:Vb m i=[m.told.getD i Uc]:=Z2d hbit
   have hb3:=hb2.2 hbit
   repeat' (first|refine uN ?_|(refine uB ?_;intro b)|(refine uP ?_ ?_<;>intro h<;>try exact zx)|refine uG ?_|fail)
   refine fo 1 ?_
   refine Zfc S (m.told.getD i Uc) hv Zbc Zq9 ?_
   intro v' c' hv'
   repeat' (first|refine uN ?_|(refine uB ?_;intro b)|(refine uP ?_ ?_<;>intro h<;>try exact zx)|refine uG ?_|fail)
   refine Zn (i+1,v',c') uS (.cons_cons _ (.cons _ (.refl _))) ⟨by simp only;omega,?_⟩ (by simp only;omega)
   simp only
   rw[W1,e]
   exact hv'
  ·have e:Vb m i=[]:=Z16 hbit
   have hb3:¬ _:=fun h=>hbit (hb2.1 h)
   repeat' (first|refine uN ?_|(refine uB ?_;intro b)|(refine uP ?_ ?_<;>intro h<;>try exact zx)|refine uG ?_|fail)
   refine Zn (i+1,v,c) uS (Z15 _) ⟨by simp only;omega,?_⟩ (by simp only;omega)
   simp only
   rw[W1,e,Z2p]
   exact hv
 ·repeat' (first|refine uN ?_|(refine uB ?_;intro b)|(refine uP ?_ ?_<;>intro h<;>try exact zx)|refine uG ?_|fail)
  have hi2:i=m.w.length:=by omega
  subst hi2
  exact Z3 (LS.refl _) ⟨c,hv,rfl⟩
theorem Zfx(lp:Nat)(wv:Value)(wc:List Zp)(m:Ld)(f:Fr)(L:Za)(hm:LdOk wv wc m)(hh:m.heard<128):HC prog 126 [pt lp 0,.agg ⟨fc f⟩] (Zax lp wv wc m::L)
  (fun v L'=>v=.bool (decide (X4 m f))∧L'=Zax lp wv wc m::L):=by
 obtain⟨a,cap,rfl,hcap,hR⟩:=hm.vec.rd X0
 have hlen:=hm.len
 generalize hwv:Value.slice a m.w.length cap=wv at*
 have g0:(Wb wv m)[0+0]?=some (iv m.id):=X1 rfl
 have g1:(Wb wv m)[0+1]?=some (iv m.deal):=X1 rfl
 have g2:(Wb wv m)[0+2]?=some (iv m.att):=X1 rfl
 have g3:(Wb wv m)[0+3]?=some (.slice a m.w.length cap):=by rw[hwv];exact X1 rfl
 have g5:(Wb wv m)[0+5]?=some (iv m.wait):=X1 rfl
 have g6:(Wb wv m)[0+6]?=some (iv m.heard):=X1 rfl
 have hb1:=Zpn m.heard f.fr.toNat (by omega)
 have hb2:=bit_iff0 m.heard f.fr.toNat
 refine uE func126 ntmps126 ?_
 repeat' (first|refine uN ?_|(refine uB ?_;intro b)|(refine uP ?_ ?_<;>intro h<;>try exact zx)|refine uM ?_|fail)
 all_goals refine Z3 (LS.skip _ (LS.refl _)) ⟨congrArg Value.bool ?_,rfl⟩
 all_goals first
  | (refine(Z3t (fun h=>?_)).symm;obtain⟨h1,h2,h3,h4,h5,h6,h7⟩:=h;omega)
  | (refine Z5i.2 ⟨fun h=>⟨?_,?_,?_,?_,?_,?_,hb2.1 h⟩,fun h=>hb2.2 h.2.2.2.2.2.2⟩<;>assumption)
theorem Zz6{m:Ld}{f:Fr}(h:m.wait=0∨¬ X4 m f):Zw m f=(m,[]):=Z2d h
theorem LdOk.m1{wv:Value}{wc:List Zp}{m:Ld}(h:LdOk wv wc m)(f:Fr):LdOk wv wc (Zdi m f):=by
 unfold Zdi;split
 ·exact h
 ·exact h.of rfl rfl
theorem LdOk.m2{wv:Value}{wc:List Zp}{m:Ld}(h:LdOk wv wc m)(f:Fr):LdOk wv wc (Zbj m f):=by
 refine h.of ?_ ?_
 ·unfold Zbj Zdi;split<;>rfl
 ·simp[Zbj]
theorem Ziw{m:Ld}{f:Fr}(h:X4 m f):0≤f.fr∧f.fr<m.w.length∧f.kd=m.wait:=⟨h.2.2.2.2.1,h.2.2.2.2.2.1,h.1⟩
theorem or_int(a k:Nat):(((a:Int).toNat ||| ((1:Int)*2 ^ (k:Int).toNat).toNat:Nat):Int)=((a ||| 2 ^ k:Nat):Int):=by
 have:((1:Int)*2 ^ (k:Int).toNat)=((2 ^ k:Nat):Int):=by simp
 rw[this];rfl
theorem or_ok{a k:Nat}(ha:a<128)(hk:k<7):0≤(a:Int)∧(a:Int)≤Ze6 .i64∧0≤(1:Int)*2 ^ (k:Int).toNat∧(1:Int)*2 ^ (k:Int).toNat≤Ze6 .i64:=by
 have e:((1:Int)*2 ^ (k:Int).toNat)=((2 ^ k:Nat):Int):=by simp
 have:2 ^ k<2 ^ 7:=Nat.pow_lt_pow_right (by decide) hk
 rw[e]
 simp only[Ze6]
 generalize 2 ^ k=q at*
 omega
theorem full_int(n:Nat):((1:Int)*2 ^ (n:Int).toNat-1)=((2 ^ n-1:Nat):Int):=by
 have e:((1:Int)*2 ^ (n:Int).toNat)=((2 ^ n:Nat):Int):=by simp
 have:=Z3p n
 rw[e];generalize 2 ^ n=q at *;omega
theorem shl_le{n:Nat}(h:n≤7):1≤(1:Int)*2 ^ (n:Int).toNat∧(1:Int)*2 ^ (n:Int).toNat≤128:=by
 have e:((1:Int)*2 ^ (n:Int).toNat)=((2 ^ n:Nat):Int):=by simp
 have:=Z3p n
 have:2 ^ n≤2 ^ 7:=Z3e (by decide) h
 rw[e];generalize 2 ^ n=q at *;omega
end
section
attribute [local irreducible] Wb
theorem Zpt(T:Nat)(E:Nat→Addr)(lp:Nat)(wv:Value)(wc:List Zp)(m:Ld)(f:Fr)(L:Za)(hG:Er T E [2,3,4] L)(hm:LdOk wv wc m)(hh:m.heard<2 ^ m.w.length)(hw:m.wait≠0)(hfit:X4 m f)(hy:f.yes=true)(hkd:f.kd=2):
  HC prog 74 [pt lp 0,.agg ⟨fc f⟩] (Zax lp wv wc m::L) (fun v L'=>∃c,Z0 v (Ya (Zbj m f)).2 c∧L'=c::Zax lp wv wc (Ya (Zbj m f)).1::L):=by
 have hm2:=hm.m2 f
 have hlen:=hm.len
 have htl:=hm.told
 have hh7:m.heard<128:=Z3k hh (Z3e (by decide) hlen)
 have kf:∀L,_:=fun L=>Zfx lp wv wc m f L hm hh7
 obtain⟨a,cap,rfl,hcap,hR⟩:=hm.vec.rd X0
 generalize hwv:Value.slice a m.w.length cap=wv at*
 obtain⟨hfr,hfr2,hk0⟩:=Ziw hfit
 rw[Z29 hfit]at kf
 clear hfit
 obtain⟨fr,to,dl0,kd,att,yes,s⟩:=f
 simp only at hy hfr hfr2 hkd hk0
 subst hy hkd
 obtain⟨k,rfl⟩:=Z2t hfr
 have hk7:k<m.w.length:=by omega
 generalize hM:Zbj m ⟨k,to,dl0,2,att,true,s⟩=M at*
 have eM:M={ m with heard:=m.heard ||| 2 ^ k,told:=m.told.set k s }:=by rw[← hM];rfl
 have e1:M.w=m.w:=by rw[eM]
 have e2:M.wait=2:=by rw[eM];exact hk0.symm
 have e3:M.heard<128:=by rw[eM];exact Zgz (n:=7) hh7 (by omega)
 have g3:(Wb wv M)[0+3]?=some (.slice a m.w.length cap):=by rw[hwv];exact X1 rfl
 have g5:(Wb wv m)[0+5]?=some (iv m.wait):=X1 rfl
 have g5':(Wb wv M)[0+5]?=some (iv 2):=by rw[← e2];exact X1 rfl
 have g6:(Wb wv m)[0+6]?=some (iv m.heard):=X1 rfl
 have g6':(Wb wv M)[0+6]?=some (iv M.heard):=X1 rfl
 have p6:Yi (Wb wv m) (0+6) [iv (((m.heard:Int).toNat ||| ((1:Int)*2 ^ (k:Int).toNat).toNat:Nat):Int)] (Wb wv { m with heard:=m.heard ||| 2 ^ k }):=by
  rw[or_int];exact Zaq rfl (by decide) rfl rfl rfl
 have pT:Yi (Wb wv { m with heard:=m.heard ||| 2 ^ k }) (0+7+(k:Int).toNat*3) (sc s) (Wb wv M):=by
  rw[eM];exact Zyj (m:={ m with heard:=m.heard ||| 2 ^ k }) s (by show k<m.told.length;omega)
 have hsh:=Zkj (k:=k) (by omega)
 have hor:=or_ok hh7 (show k<7 by omega)
 have hsh2:=Zkj (k:=m.w.length) (by omega)
 have hsh3:=shl_le hlen
 have hfull:=full_int m.w.length
 have ke:∀b o,HC prog 128 [.slice a m.w.length cap,iv M.heard] ([(b,o)]::Zax lp wv wc M::L) (fun v L'=>v=.tuple ⟨[.bool (Xz m.w M.heard).1,eV T E (Xz m.w M.heard).2]⟩∧L'=[(b,o)]::Zax lp wv wc M::L):=fun b o=>
  Zgu T E a cap m.w M.heard _ ((hG.cons _).cons _) (((hR L).inn _).cons _) (by omega) (by omega)
 have kp:=Zfl lp wv wc M 4
 have hc1:M.heard=2 ^ M.w.length-1→Ya M=Znv M 4:=fun h=>Z2d ⟨e2,h⟩
 have hc2:¬ M.heard=2 ^ M.w.length-1→Ya M=(M,[]):=fun h=>by unfold Ya;rw[Z16 (fun h2=>h h2.2),Z2d (.inl e2)]
 clear eM hM
 refine uE func74 ntmps74 ?_
 repeat' (first|refine uN ?_|refine X7 (qC (Uu kf 1)) ?_|refine Qm (qC (Uu kf 1)) ?_|refine uC (ke _ _) ?_|refine uD (fun _=>ke _ _) ?_|(refine uB ?_;intro b)|(refine uP ?_ ?_<;>intro h<;>try exact zx)|refine uM ?_|fail)
 ·rw[hc1 (by rw[e1];omega)]
  refine fo 1 ?_
  refine gc (kp _ hm2) ?_
  rintro v L' ⟨c,hv,rfl⟩
  repeat' (first|refine uN ?_|(refine uB ?_;intro b)|(refine uP ?_ ?_<;>intro h<;>try exact zx)|refine uM ?_|fail)
  exact Z3 uZ ⟨c,hv,rfl⟩
 ·rw[hc2 (by rw[e1];omega)]
  exact Z3 (L':=[]::Zax lp wv wc M::L) (LS.skip _ (LS.refl _)) ⟨[],Zt,rfl⟩
theorem Zps(T:Nat)(E:Nat→Addr)(lp:Nat)(wv:Value)(wc:List Zp)(m:Ld)(f:Fr)(L:Za)(hG:Er T E [2,3,4] L)(hm:LdOk wv wc m)(hh:m.heard<2 ^ m.w.length)(hw:m.wait≠0)(hfit:X4 m f)(hy:f.yes=true)(hkd:f.kd≠2):
  HC prog 74 [pt lp 0,.agg ⟨fc f⟩] (Zax lp wv wc m::L) (fun v L'=>∃c,Z0 v (Ya (Zbj m f)).2 c∧L'=c::Zax lp wv wc (Ya (Zbj m f)).1::L):=by
 have hm2:=hm.m2 f
 have hlen:=hm.len
 have htl:=hm.told
 have hh7:m.heard<128:=Z3k hh (Z3e (by decide) hlen)
 have kf:∀L,_:=fun L=>Zfx lp wv wc m f L hm hh7
 obtain⟨a,cap,rfl,hcap,hR⟩:=hm.vec.rd X0
 generalize hwv:Value.slice a m.w.length cap=wv at*
 obtain⟨hfr,hfr2,hk0⟩:=Ziw hfit
 rw[Z29 hfit]at kf
 clear hfit
 obtain⟨fr,to,dl0,kd,att,yes,s⟩:=f
 simp only at hy hfr hfr2 hkd hk0
 subst hy
 obtain⟨k,rfl⟩:=Z2t hfr
 have hk7:k<m.w.length:=by omega
 generalize hM:Zbj m ⟨k,to,dl0,kd,att,true,s⟩=M at*
 have eM:M={ m with seen:=max m.seen s.pr,heard:=m.heard ||| 2 ^ k,told:=m.told.set k s }:=by rw[← hM];simp only[Zbj,Zdi,Z16 hkd];rfl
 have e1:M.w=m.w:=by rw[eM]
 have e2:M.wait=kd:=by rw[eM];exact hk0.symm
 have e3:M.heard<128:=by rw[eM];exact Zgz (n:=7) hh7 (by omega)
 have g3:(Wb wv M)[0+3]?=some (.slice a m.w.length cap):=by rw[hwv];exact X1 rfl
 have g5:(Wb wv m)[0+5]?=some (iv m.wait):=X1 rfl
 have g5':(Wb wv M)[0+5]?=some (iv kd):=by rw[← e2];exact X1 rfl
 have g6:(Wb wv { m with seen:=max m.seen s.pr })[0+6]?=some (iv m.heard):=X1 rfl
 have g6':(Wb wv M)[0+6]?=some (iv M.heard):=X1 rfl
 have g8':(Wb wv M)[0+28]?=some (iv M.phase):=ld_phase hm2.told
 have g9:(Wb wv m)[0+29]?=some (iv m.seen):=Zqh htl
 have p9:Yi (Wb wv m) (0+29) [iv (max m.seen s.pr)] (Wb wv { m with seen:=max m.seen s.pr }):=Zs0 htl _
 have p6:Yi (Wb wv { m with seen:=max m.seen s.pr }) (0+6) [iv (((m.heard:Int).toNat ||| ((1:Int)*2 ^ (k:Int).toNat).toNat:Nat):Int)] (Wb wv { m with seen:=max m.seen s.pr,heard:=m.heard ||| 2 ^ k }):=by
  rw[or_int];exact Zaq rfl (by decide) rfl rfl rfl
 have pT:Yi (Wb wv { m with seen:=max m.seen s.pr,heard:=m.heard ||| 2 ^ k }) (0+7+(k:Int).toNat*3) (sc s) (Wb wv M):=by
  rw[eM];exact Zyj (m:={ m with seen:=max m.seen s.pr,heard:=m.heard ||| 2 ^ k }) s (by show k<m.told.length;omega)
 have hsh:=Zkj (k:=k) (by omega)
 have hor:=or_ok hh7 (show k<7 by omega)
 have ke:∀b o,HC prog 128 [.slice a m.w.length cap,iv M.heard] ([(b,o)]::Zax lp wv wc M::L) (fun v L'=>v=.tuple ⟨[.bool (Xz m.w M.heard).1,eV T E (Xz m.w M.heard).2]⟩∧L'=[(b,o)]::Zax lp wv wc M::L):=fun b o=>
  Zgu T E a cap m.w M.heard _ ((hG.cons _).cons _) (((hR L).inn _).cons _) (by omega) (by omega)
 have kd1:=Zcq lp wv wc M (V4 M.phase)
 have kd2:=Zcq lp wv wc M (Yc (Xh M)).1
 have kp:=Zfl lp wv wc M (Yc (Xh M)).1
 have ks:=fun L=>Zrc lp wv wc M L hm2 e3
 have hst:(Xh M).length≤7:=by
  have:=Wx (Vb M) (Zda M) M.w.length
  have e9:M.w.length=m.w.length:=by rw[e1]
  show ((List.range M.w.length).flatMap (Vb M)).length≤7
  omega
 have hc0:¬ (M.wait=2∧M.heard=2 ^ M.w.length-1):=by rw[e2];exact fun h=>hkd h.1
 have hc1:(Xz m.w M.heard).1=false→Ya M=(M,[]):=fun h=>by unfold Ya;rw[Z16 hc0,e1,Z2d (.inr h)]
 have hc2:(Xz m.w M.heard).1=true→kd=6→Ya M=Zdr M (V4 M.phase):=fun h h6=>by unfold Ya;rw[Z16 hc0,e1,Z16 (by rw[h,e2];simp[hkd]),e2,Z2d h6]
 have hc3:(Xz m.w M.heard).1=true→kd≠6→Ya M=if (Yc (Xh M)).2 then Zdr M (Yc (Xh M)).1 else Znv M (Yc (Xh M)).1:=fun h h6=>by unfold Ya;rw[Z16 hc0,e1,Z16 (by rw[h,e2];simp[hkd]),e2,Z16 h6]
 generalize (Xz m.w M.heard).1=en at*
 clear eM hM hc0
 refine uE func74 ntmps74 ?_
 repeat' (first|refine uN ?_|refine X7 (qC (Uu kf 1)) ?_|refine Qm (qC (Uu kf 1)) ?_|refine uC (ke _ _) ?_|refine uD (fun _=>ke _ _) ?_|refine uC (Uz _ _) ?_|refine uD (fun _=>Uz _ _) ?_|(refine uB ?_;intro b)|(refine uP ?_ ?_<;>intro h<;>try exact zx)|refine uM ?_|fail)
 ·rw[hc1 h]
  exact Z3 (L':=[]::Zax lp wv wc M::L) (LS.skip _ (LS.refl _)) ⟨[],Zt,rfl⟩
 ·rename_i hen
  rw[hc2 hen h]
  refine fo 1 ?_
  refine gc (kd1 _ hm2) ?_
  rintro v L' ⟨c,hv,rfl⟩
  repeat' (first|refine uN ?_|(refine uB ?_;intro b)|(refine uP ?_ ?_<;>intro h<;>try exact zx)|refine uM ?_|fail)
  exact Z3 uZ ⟨c,hv,rfl⟩
 ·rename_i hen
  rw[hc3 hen h]
  refine fo 1 ?_
  refine gc (ks _) ?_
  rintro v L' ⟨c,hv,rfl⟩
  obtain⟨a2,cap2,rfl,hcap2,hR2⟩:=hv.rd Zbc
  have kc:=fun L=>Zpq a2 cap2 (Xh M) (c::L) (hR2 L) (by omega)
  repeat' (first|refine uN ?_|refine uC (kc _) ?_|refine uD (fun _=>kc _) ?_|(refine uB ?_;intro b)|(refine uP ?_ ?_<;>intro h<;>try exact zx)|refine uM ?_|fail)
  ·rename_i hfin
   rw[Z2d h]
   refine fo 1 ?_
   refine gc (kd2 _ hm2) ?_
   rintro v L' ⟨c3,hv3,rfl⟩
   repeat' (first|refine uN ?_|(refine uB ?_;intro b)|(refine uP ?_ ?_<;>intro h<;>try exact zx)|refine uM ?_|fail)
   exact Z3 uZ ⟨c3,hv3,rfl⟩
  ·rename_i hfin
   rw[Z16 (by simp[h])]
   refine fo 1 ?_
   refine gc (kp _ hm2) ?_
   rintro v L' ⟨c3,hv3,rfl⟩
   repeat' (first|refine uN ?_|(refine uB ?_;intro b)|(refine uP ?_ ?_<;>intro h<;>try exact zx)|refine uM ?_|fail)
   exact Z3 uZ ⟨c3,hv3,rfl⟩
theorem Zli(T:Nat)(E:Nat→Addr)(lp:Nat)(wv:Value)(wc:List Zp)(m:Ld)(f:Fr)(L:Za)(hG:Er T E [2,3,4] L)(hm:LdOk wv wc m)(hh:m.heard<2 ^ m.w.length):
  HC prog 74 [pt lp 0,.agg ⟨fc f⟩] (Zax lp wv wc m::L) (fun v L'=>∃c,Z0 v (Zw m f).2 c∧L'=c::Zax lp wv wc (Zw m f).1::L):=by
 have hh7:m.heard<128:=Z3k hh (Z3e (by decide) hm.len)
 have kf:∀L,_:=fun L=>Zfx lp wv wc m f L hm hh7
 have g5:(Wb wv m)[0+5]?=some (iv m.wait):=X1 rfl
 by_cases hw:m.wait=0∨¬ X4 m f
 ·rw[Zz6 hw]
  by_cases h0:m.wait=0
  ·refine uE func74 ntmps74 ?_
   repeat' (first|refine uN ?_|(refine uB ?_;intro b)|(refine uP ?_ ?_<;>intro h<;>try exact zx)|refine uM ?_|fail)
   exact Z3 (L':=[]::Zax lp wv wc m::L) (LS.skip _ (LS.refl _)) ⟨[],Zt,rfl⟩
  ·rw[Z3t (by rcases hw with h|h;exact absurd h h0;exact h)]at kf
   refine uE func74 ntmps74 ?_
   repeat' (first|refine uN ?_|refine X7 (qC (Uu kf 1)) ?_|refine Qm (qC (Uu kf 1)) ?_|(refine uB ?_;intro b)|(refine uP ?_ ?_<;>intro h<;>try exact zx)|refine uM ?_|fail)
   exact Z3 (L':=[]::Zax lp wv wc m::L) (LS.skip _ (LS.refl _)) ⟨[],Zt,rfl⟩
 ·have hfit:X4 m f:=by
   by_cases h:X4 m f
   ·exact h
   ·exact absurd (.inr h) hw
  have hw0:m.wait≠0:=fun h=>hw (.inl h)
  by_cases hy:f.yes=true
  ·have e:Zw m f=Ya (Zbj m f):=by unfold Zw;rw[Z16 hw,Z16 (by simp[hy])]
   rw[e]
   by_cases hkd:f.kd=2
   ·exact Zpt T E lp wv wc m f L hG hm hh hw0 hfit hy hkd
   ·exact Zps T E lp wv wc m f L hG hm hh hw0 hfit hy hkd
  ·have hy':f.yes=false:=by simpa using hy
   have e:Zw m f=noM (Zdi m f):=by unfold Zw;rw[Z16 hw,Z2d hy']
   rw[e]
   rw[Z29 hfit]at kf
   clear hw hfit e
   have kn:=no_calls lp wv wc (Zdi m f)
   have hm1:=hm.m1 f
   have g9:(Wb wv m)[0+29]?=some (iv m.seen):=Zqh hm.told
   by_cases hkd:f.kd=2
   ·have e1:Zdi m f=m:=Z2d hkd
    rw[e1]at kn hm1 ⊢
    refine uE func74 ntmps74 ?_
    repeat' (first|refine uN ?_|refine X7 (qC (Uu kf 1)) ?_|refine Qm (qC (Uu kf 1)) ?_|(refine uB ?_;intro b)|(refine uP ?_ ?_<;>intro h<;>try exact zx)|refine uM ?_|fail)
    refine fo 1 ?_
    refine gc (kn _ hm1) ?_
    rintro v L' ⟨c,hv,rfl⟩
    repeat' (first|refine uN ?_|(refine uB ?_;intro b)|(refine uP ?_ ?_<;>intro h<;>try exact zx)|refine uM ?_|fail)
    exact Z3 uZ ⟨c,hv,rfl⟩
   ·have p9:Yi (Wb wv m) (0+29) [iv (max m.seen f.s.pr)] (Wb wv (Zdi m f)):=by
     unfold Zdi;rw[Z16 hkd];exact Zs0 hm.told _
    refine uE func74 ntmps74 ?_
    repeat' (first|refine uN ?_|refine X7 (qC (Uu kf 1)) ?_|refine Qm (qC (Uu kf 1)) ?_|(refine uB ?_;intro b)|(refine uP ?_ ?_<;>intro h<;>try exact zx)|refine uM ?_|fail)
    refine fo 1 ?_
    refine gc (kn _ hm1) ?_
    rintro v L' ⟨c,hv,rfl⟩
    repeat' (first|refine uN ?_|(refine uB ?_;intro b)|(refine uP ?_ ?_<;>intro h<;>try exact zx)|refine uM ?_|fail)
    exact Z3 uZ ⟨c,hv,rfl⟩
end
theorem Zfk(a:Option Addr)(cap:Nat)(xs:List Int)(L:Za)(hR:Rd ic 1 L a xs)(hl:xs.length≤1000000):
  HC prog 18 [.slice a xs.length cap] L (fun v L'=>∃c,Own 3 1 v xs.length (xs.map ic).flatten c∧L'=c::L):=by
 refine uE func18 ntmps18 ?_
 repeat' (first|refine uN ?_|fail)
 refine Zka ?_
 (apply Zl4 S;(case hx=>exact rfl);(case hy=>exact rfl);(case ht=>exact rfl);(case he=>exact rfl);(case hz=>exact rfl);(case hzs=>exact rfl);(case hzl=>exact rfl);(case hn=>exact rfl))
 (case ho=>exact Zyv)
 (case hs=>exact Zii (fun _=>rfl) (hR.cons _))
 (case h1=>exact Zco (fun _=>rfl) xs)
 (case hby=>omega)
 (case hmax=>omega)
 intro v' c' ho
 repeat' (first|refine uN ?_|fail)
 refine Y1 rfl rfl (Z15 _) ⟨c',by simpa using ho,rfl⟩
theorem Zmd{n:Nat}(h:n≤30):(2:Int) ^ n≤1073741824∧1≤(2:Int) ^ n:=by
 have h1:(2:Nat) ^ n≤2 ^ 30:=Z3e (by decide) h
 have h2:=Z3p n
 have e:(2:Int) ^ n=((2 ^ n:Nat):Int):=by simp
 rw[e]
 generalize (2:Nat) ^ n=q at*
 omega
theorem Zci(n:Nat)(hn:n≤30)(L:Za):HC prog 16 [iv n] L (fun v L'=>v=iv (2 ^ n)∧L'=L):=by
 refine uE func16 ntmps16 ?_
 repeat' (first|refine uN ?_|(refine uP ?_ ?_<;>intro h<;>try exact zx)|fail)
 refine Zm (σ:=Int × Int) (fun s=>[(0,iv n),(3,iv s.2),(4,iv s.1)]) (fun _=>L) (fun s=>0≤s.1∧s.1≤n∧s.2=2 ^ s.1.toNat) (fun s=>(n-s.1).toNat) (0,1) uS (Z15 _) ⟨by simp,by simp,by simp⟩ ?_
 rintro⟨j,m⟩ ⟨j0,j1,hm⟩
 simp only at j0 j1 hm
 have hp:=Zmd (n:=j.toNat) (by omega)
 rw[← hm]at hp
 by_cases hlt:j<n
 ·repeat' (first|refine uN ?_|(refine uP ?_ ?_<;>intro h<;>try exact zx)|fail)
  refine Zn (j+1,_) uS (Z15 _) ⟨by show 0≤j+1;omega,by show j+1≤(n:Int);omega,?_⟩ (by show (n-(j+1)).toNat<(n-j).toNat;omega)
  show 2*m=2 ^ (j+1).toNat
  rw[show (j+1).toNat=j.toNat+1 by omega,Int.pow_succ,hm]
  omega
 ·repeat' (first|refine uN ?_|(refine uP ?_ ?_<;>intro h<;>try exact zx)|fail)
  (refine Y1 rfl rfl ?_ ⟨?_,rfl⟩;(next=>(repeat (first|exact Z15 _|apply List.Sublist.cons))))
  rw[hm,show j.toNat=n by omega]
def Zh(id deal:Int)(w:List Int)(att wait:Int):Ld:=⟨id,deal,att,w,sAsking,wait,0,List.replicate 7 Uc,0,0⟩
def Zdx(id deal:Int)(w:List Int)(att:Int):Option Nat:=match Ys w with
 | some e=>some e
 | none=>if id<0∨w.length≤id∨deal<0∨6≤deal∨1048576<att then some 2 else none
def LdRes(T:Nat)(E:Nat→Addr)(e:Option Nat)(m:Ld)(L:Za)(v:Value)(L':Za):Prop:=match e with
 | some x=>v=.tuple ⟨[.pointer none,eV T E (some x)]⟩∧L'=L
 | none=>∃lp wv wc,v=.tuple ⟨[pt lp 0,.nilIface]⟩∧LdOk wv wc m∧L'=Zax lp wv wc m::L
def tryE(id deal:Int)(w:List Int)(att:Int):Option Nat:=match Zdx id deal w att with
 | some e=>some e
 | none=>if att<1 then some 2 else none
theorem Zlp(T:Nat)(E:Nat→Addr)(id deal:Int)(a:Option Addr)(cap:Nat)(w:List Int)(att wait:Int)(L:Za)(hG:Er T E [2,3,4] L)(hR:Rd ic 1 L a w)(hl:w.length≤1000000):
  HC prog 124 [iv id,iv deal,.slice a w.length cap,iv att,iv wait] L (LdRes T E (Zdx id deal w att) (Zh id deal w att wait) L):=by
 have kc:=Zdp T E a cap w L hG hR hl
 cases hc:Ys w with
 | some e=>
  rw[hc]at kc
  rw[show Zdx id deal w att=some e by unfold Zdx;rw[hc]]
  refine uE func124 ntmps124 ?_
  repeat' (first|refine uN ?_|refine uC (kc) ?_|(refine uB ?_;intro b)|refine dg S 100 (fun _ _=>?_)|(refine uP ?_ ?_<;>intro h<;>try exact zx)|refine uG ?_|fail)
  exact U3 (LS.refl _) ⟨rfl,rfl⟩
 | none=>
  rw[hc]at kc
  obtain⟨c1,c2,c3,c4⟩:=Vm hc
  have hle:Zdx id deal w att=if id<0∨w.length≤id∨deal<0∨6≤deal∨1048576<att then some 2 else none:=by unfold Zdx;rw[hc]
  refine uE func124 ntmps124 ?_
  repeat' (first|refine uN ?_|refine uC (kc) ?_|(refine uB ?_;intro b)|refine dg S 100 (fun _ _=>?_)|(refine uP ?_ ?_<;>intro h<;>try exact zx)|refine uG ?_|fail)
  all_goals first|(rw[hle,Z2d (by omega)];exact U3 (LS.refl _) ⟨rfl,rfl⟩;done)|skip
  rw[hle,Z16 (by omega)]
  refine Zka ?_
  refine Z1z S (enc:=ic) (xs:=[]) (ys:=w) Zt ((hR.cons _).cons _) X0 Zh1 ?_ (by rfl) (by rfl) (by rfl) (by rfl) (by rfl) (by rfl) (by rfl) (by rfl) (by rfl) (by simp only[Z23];omega) (by simp only[Z23];omega)
  intro v' c' hv
  rw[Z2b]at hv
  obtain⟨a',cap',rfl,-⟩:=hv.rd X0
  repeat' (first|refine uN ?_|refine uC (kc) ?_|(refine uB ?_;intro b)|refine dg S 100 (fun _ _=>?_)|(refine uP ?_ ?_<;>intro h<;>try exact zx)|refine uG ?_|fail)
  refine U3 (L':=Zax b (.slice a' w.length cap') c' (Zh id deal w att wait)::L) ?_ ⟨_,_,_,rfl,⟨hv,rfl,c2⟩,rfl⟩
  refine LS.of_perm ?_
  simp only[Zax,Z17,Z19,Z2b]
  exact List.perm_middle.symm
theorem Zrz(T:Nat)(E:Nat→Addr)(id deal:Int)(a:Option Addr)(cap:Nat)(w:List Int)(L:Za)(hG:Er T E [2,3,4] L)(hR:Rd ic 1 L a w)(hl:w.length≤1000000):
  HC prog 69 [iv id,iv deal,.slice a w.length cap] L (LdRes T E (Zdx id deal w 0) (Zh id deal w 0 2) L):=by
 have kc:=Zlp T E id deal a cap w 0 2 L hG hR hl
 cases hc:Zdx id deal w 0 with
 | some e=>
  rw[hc]at kc
  refine uE func69 ntmps69 ?_
  repeat' (first|refine uN ?_|fail)
  refine gc kc ?_
  rintro v L' ⟨rfl,rfl⟩
  repeat' (first|refine uN ?_|fail)
  exact U3 (LS.refl _) ⟨rfl,rfl⟩
 | none=>
  rw[hc]at kc
  refine uE func69 ntmps69 ?_
  repeat' (first|refine uN ?_|fail)
  refine gc kc ?_
  rintro v L' ⟨lp,wv,wc,rfl,hv,rfl⟩
  repeat' (first|refine uN ?_|fail)
  exact U3 (LS.refl _) ⟨_,_,_,rfl,hv,rfl⟩
theorem Z1u(T:Nat)(E:Nat→Addr)(id deal:Int)(a:Option Addr)(cap:Nat)(w:List Int)(att:Int)(L:Za)(hG:Er T E [2,3,4] L)(hR:Rd ic 1 L a w)(hl:w.length≤1000000):
  HC prog 192 [iv id,iv deal,.slice a w.length cap,iv att] L (LdRes T E (tryE id deal w att) (Zh id deal w att 4) L):=by
 have kc:=Zlp T E id deal a cap w att 4 L hG hR hl
 unfold tryE
 cases hc:Zdx id deal w att with
 | some e=>
  rw[hc]at kc
  refine uE func192 ntmps192 ?_
  repeat' (first|refine uN ?_|(refine uP ?_ ?_<;>intro h<;>try exact zx)|refine uM ?_|fail)
  refine gc kc ?_
  rintro v L' ⟨rfl,rfl⟩
  repeat' (first|refine uN ?_|refine dg S 100 (fun _ _=>?_)|(refine uP ?_ ?_<;>intro h<;>try exact zx)|refine uG ?_|fail)
  exact U3 (LS.refl _) ⟨rfl,rfl⟩
 | none=>
  rw[hc]at kc
  refine uE func192 ntmps192 ?_
  repeat' (first|refine uN ?_|(refine uP ?_ ?_<;>intro h<;>try exact zx)|refine uM ?_|fail)
  refine gc kc ?_
  rintro v L' ⟨lp,wv,wc,rfl,hv,rfl⟩
  have hG2:=hG.cons (Zax lp wv wc (Zh id deal w att 4))
  repeat' (first|refine uN ?_|refine dg S 100 (fun _ _=>?_)|(refine uP ?_ ?_<;>intro h<;>try exact zx)|refine uG ?_|fail)
  ·rw[Z2d h]
   exact U3 (LS.skips _ (LS.refl _)) ⟨rfl,rfl⟩
  ·rw[Z16 h]
   exact U3 (LS.refl _) ⟨_,_,_,rfl,hv,rfl⟩
end Go.HL
namespace Go.HL
open Go Go.Proofs Go.Proofs.Tryz
variable[Tasks]
structure Nd where
 pl:Pl
 site:Option (Jn × (Int→Bool))
 leads:List (Option Ld)
 done:List Bool
structure Wm where
 w:List Int
 n:List Nd
 br:Int × Int→Bool
 l:List Fr
 ev:List Evt
structure NdG where
 np:Nat
 bp:Nat
 ba:Nat
 sp:Nat
 bj:Nat
 mb:Nat
 es:List MapEntry
 ck:Nat
 ld:List (Nat × Value × List Zp)
def Zh4:Option Ld→Nat × Value × List Zp→Value
 | none,_=>.pointer none
 | some _,g=>pt g.1 0
def ldB:Option Ld→Nat × Value × List Zp→List Zp
 | none,_=>[]
 | some m,g=>Zax g.1 g.2.1 g.2.2 m
def Zj1(g:NdG):Option (Jn × (Int→Bool))→Value
 | none=>.pointer none
 | some _=>pt g.sp 0
def siB(g:NdG)(i:Int):Option (Jn × (Int→Bool))→List Zp
 | none=>[]
 | some (j,_)=>Zjz g.sp g.bj g.mb i++Zkd g.mb g.es g.ck++jC g.bj g.bp j
def V3(sv:Value)(bp:Nat)(lv:List Value)(dn:List Bool):List Value:=[sv,pt bp 0]++lv++dn.map Value.bool
def Xo(g:NdG)(m:Nd):List Value:=List.zipWith Zh4 m.leads g.ld
def Zcx(g:NdG)(m:Nd):List Zp:=(List.zipWith ldB m.leads g.ld).flatten
def Zdm(g:NdG)(m:Nd):Obj:=.cells ⟨V3 (Zj1 g m.site) g.bp (Xo g m) m.done⟩ 122
def Zdl(g:NdG)(m:Nd):List Zp:=[(g.np,Zdm g m)]
def Zon(g:NdG)(i:Int)(m:Nd):List Zp:=Zdl g m++Xs g.bp g.ba m.pl++siB g i m.site++Zcx g m
def Qs:List NdG→List Nd→Nat→List Zp
 | g::gs,m::ms,i=>Zon g i m++Qs gs ms (i+1)
 | _,_,_=>[]
def V1:List NdG→List Nd→Nat→Nat→List Zp
 | g::gs,m::ms,i,0=>Qs gs ms (i+1)
 | g::gs,m::ms,i,s+1=>Zon g i m++V1 gs ms (i+1) s
 | _,_,_,_=>[]
theorem Zl1:∀{gs:List NdG} {ms:List Nd} {i s:Nat} {g:NdG} {m:Nd},gs[s]?=some g→ms[s]?=some m→List.Perm (Qs gs ms i) (Zon g ((i+s:Nat):Int) m++V1 gs ms i s)
 | [],_,_,_,_,_,h,_=>by simp at h
 | _::_,[],_,_,_,_,_,h=>by simp at h
 | g0::gs,m0::ms,i,0,g,m,h,h2=>by
  simp at h h2;subst h;subst h2
  exact .refl _
 | g0::gs,m0::ms,i,s+1,g,m,h,h2=>by
  have ih:=Zl1 (gs:=gs) (ms:=ms) (i:=i+1) (s:=s) (g:=g) (m:=m) (by simpa using h) (by simpa using h2)
  simp only[Qs,V1]
  rw[show i+(s+1)=i+1+s by omega]
  refine(ih.append_left _).trans ?_
  rw[← Z18,← Z18]
  exact List.perm_append_comm.append_right _
theorem Zyn:∀{gs:List NdG} {ms:List Nd} {i s:Nat} {g:NdG} {m:Nd},V1 (gs.set s g) (ms.set s m) i s=V1 gs ms i s
 | [],_,_,_,_,_=>by simp[V1]
 | _::_,[],_,s,_,_=>by cases s<;>simp[V1]
 | g0::gs,m0::ms,i,0,g,m=>rfl
 | g0::gs,m0::ms,i,s+1,g,m=>by
  simp only[Z6e,V1]
  rw[Zyn]
structure WdG where
 wp:Nat
 wv:Value
 wc:List Zp
 nv:Value
 nc:List Zp
 mb:Nat
 es:List MapEntry
 ck:Nat
 lv:Value
 lc:List Zp
 ev:Value
 ec:List Zp
 nd:List NdG
def Zbx(G:WdG):Obj:=.cells ⟨[G.wv,G.nv,.map (some G.mb),G.lv,G.ev]⟩ 110
def pc(p:Nat):List Value:=[pt p 0]
theorem Vh(p:Nat):(pc p).length=1:=rfl
theorem Zf9(p:Nat):(pc p).all Value.oneCell'=true:=rfl
def Zhv(G:WdG):Za:=[[(G.wp,Zbx G)],G.wc,G.nc,[(G.mb,.map ⟨G.es⟩ G.ck)],G.lc,G.ec]
def Xq(G:WdG)(M:Wm):Za:=Zhv G++[Qs G.nd M.n 0]
structure LdI(w:List Int)(s d:Nat)(x:Ld):Prop where
 ww:x.w=w
 id:x.id=s
 deal:x.deal=d
 att0:0≤x.att
 att1:x.att≤1048576
 told:x.told.length=7
 tok:∀t∈x.told,0≤t.ph∧t.ph≤5
 heard:x.heard<2 ^ w.length
 ph0:0≤x.phase
 ph1:x.phase≤5
 seen0:0≤x.seen
 seen1:x.seen≤1048576
structure NdI(w:List Int)(s:Nat)(m:Nd):Prop where
 leads:m.leads.length=6
 done:m.done.length=6
 b512:m.pl.b.length=512
 si:SI m.pl ⟨Zq m.pl.b,m.pl.off⟩
 up:∀j ref,m.site=some (j,ref)→j=⟨Zq m.pl.b,false⟩∧m.pl.off=false
 dn:m.site=none→m.pl.off=true
 ldi:∀(d:Nat) x,m.leads[d]?=some (some x)→LdI w s d x
structure NdOk(g:NdG)(m:Nd):Prop where
 ld:g.ld.length=6
 lok:∀(d:Nat) x,m.leads[d]?=some (some x)→∀q,g.ld[d]?=some q→LdOk q.2.1 q.2.2 x
 map:∀j ref,m.site=some (j,ref)→Xy iv g.es ref
theorem NdI.pl{w:List Int}{s:Nat}{m:Nd}(h:NdI w s m):PlOk m.pl:=h.si.ji.pl
theorem NdI.jn{w:List Int}{s:Nat}{m:Nd}(h:NdI w s m){j:Jn}{ref:Int→Bool}(hs:m.site=some (j,ref)):SI m.pl j:=by
 obtain⟨e1,e2⟩:=h.up j ref hs
 have:=h.si
 rw[e2]at this
 rw[e1]
 exact this
structure WI(M:Wm):Prop where
 w0:Ys M.w=none
 wl:M.w.length≤7
 w1:1≤M.w.length
 wn:M.n.length=M.w.length
 fr:∀f∈M.l,¬ Wc f∧f.to<M.w.length∧f.fr<M.w.length
 evl:M.ev.length≤500
 nd:∀(s:Nat) m,M.n[s]?=some m→NdI M.w s m
structure WdOk(G:WdG)(M:Wm):Prop where
 w:Vec 3 1 ic G.wv M.w G.wc
 nodes:Vec 117 1 pc G.nv (G.nd.map (·.np)) G.nc
 ndl:G.nd.length=M.n.length
 br:Xy pk G.es M.br
 l:Z0 G.lv M.l G.lc
 ev:Vec 81 3 ec G.ev M.ev G.ec
 nd:∀(s:Nat) g m,G.nd[s]?=some g→M.n[s]?=some m→NdOk g m
structure WdIn(L:Za)(G:WdG)(M:Wm):Prop where
 wp:Has L G.wp (Zbx G)
 ns:∃a cap,G.nv=.slice a M.n.length cap∧Rd pc 1 L a (G.nd.map (·.np))
 ws:∃a cap,G.wv=.slice a M.w.length cap∧Rd ic 1 L a M.w
 ls:∃a cap,G.lv=.slice a M.l.length cap∧Rd fc 9 L a M.l
 es:∃a cap,G.ev=.slice a M.ev.length cap
theorem Rd.mono{α:Type}{enc:α→List Value}{sz:Nat}{L L':Za}{a:Option Addr}{xs:List α}(h:Rd enc sz L a xs)(hl:∀b o,Has L b o→Has L' b o):Rd enc sz L' a xs:=by
 rcases h with h|⟨b,i,l,E,fr,h1,hb,hg⟩
 ·exact .inl h
 ·exact .inr ⟨b,i,l,E,fr,h1,hl _ _ hb,hg⟩
theorem wdIn{L:Za}{G:WdG}{M:Wm}(h:WdOk G M)(hl:∀b o,Has (Zhv G) b o→Has L b o):WdIn L G M:=by
 refine⟨hl _ _ Zk,?_,?_,?_,?_⟩
 ·obtain⟨a,cap,e,-,hR⟩:=h.nodes.rd Vh
  refine⟨a,cap,by rw[e,Z26,h.ndl],(hR []).mono fun b o hb=>hl b o ?_⟩
  simp only[Has,Z17,Z22,Z2p,Zhv]at hb ⊢
  simp[hb]
 ·obtain⟨a,cap,e,-,hR⟩:=h.w.rd X0
  refine⟨a,cap,e,(hR []).mono fun b o hb=>hl b o ?_⟩
  simp only[Has,Z17,Z22,Z2p,Zhv]at hb ⊢
  simp[hb]
 ·obtain⟨a,cap,e,-,hR⟩:=h.l.rd Zi
  refine⟨a,cap,e,(hR []).mono fun b o hb=>hl b o ?_⟩
  simp only[Has,Z17,Z22,Z2p,Zhv]at hb ⊢
  simp[hb]
 ·obtain⟨a,cap,e,-,hR⟩:=h.ev.rd Vt
  exact⟨a,cap,e⟩
def Vc(M:Wm)(s:Int):Option Nat:=if s<0∨M.n.length≤s then some 2 else none
def Zd(M:Wm)(s:Int):Nd:=M.n.getD s.toNat ⟨⟨[],false,0⟩,none,[],[]⟩
def Zd9(M:Wm)(s:Int):Option Nat:=match Vc M s with
 | some e=>some e
 | none=>if (Zd M s).site.isNone then some 6 else none
def Zo(G:WdG)(s:Int):NdG:=G.nd.getD s.toNat ⟨0,0,0,0,0,0,[],0,[]⟩
theorem Za6{M:Wm}{s:Int}(h:Vc M s=none):0≤s∧s<M.n.length:=by
 unfold Vc at h
 split at h
 ·cases h
 ·omega
theorem nodeE_ok{M:Wm}{s:Int}(h0:0≤s)(h1:s<M.n.length):Vc M s=none:=Z16 (by omega)
theorem getD_some{α:Type}{l:List α}{i:Nat}{x:α}(h:i<l.length):l[i]?=some (l.getD i x):=by simp[List.getD,h]
theorem wd_np{L:Za}{G:WdG}{M:Wm}{s:Int}(hI:WdIn L G M)(hl:G.nd.length=M.n.length)(h0:0≤s)(h1:s<M.n.length):∃b i l F fr cap,G.nv=sl b i M.n.length cap∧Has L b (.cells ⟨l⟩ F fr)∧l[i+s.toNat]?=some (pt (Zo G s).np 0):=by
 obtain⟨a,cap,hnv,hR⟩:=hI.ns
 obtain⟨b,i,l,F,fr,rfl,hb,hg⟩:=hR.at1 (j:=s) h0 (by simp;omega)
 refine⟨b,i,l,F,fr,cap,hnv,hb,?_⟩
 have e:(G.nd.map (·.np))[s.toNat]'(by simp;omega)=(Zo G s).np:=by
  rw[Z6w]
  unfold Zo
  rw[List.getD,Z2c (by omega)]
  rfl
 rw[e]at hg
 exact hg 0 _ rfl
theorem Vd{sv:Value}{bp:Nat}{lv:List Value}{dn:List Bool}{k:Nat}{v:Value}(h:[sv,pt bp 0][k]?=some v):(V3 sv bp lv dn)[0+k]?=some v:=by
 have hlt:k<[sv,pt bp 0].length:=(Z2j.1 h).1
 rw[Z3o,V3,Z18,Z3n hlt,h]
theorem Qu{M:Wm}(s:Int):(Vc M s=some 2)∨(Vc M s=none∧0≤s∧s<M.n.length):=by
 by_cases h:s<0∨M.n.length≤s
 ·exact .inl (Z2d h)
 ·exact .inr ⟨Z16 h,by omega,by omega⟩
attribute [local irreducible] HW HO HQ HD HC QOp Has Upd Yi Gets Vv W6 Xn Zaf Wa Yz Zcl Xy
section
attribute [local irreducible] V3
theorem Zae(T:Nat)(E:Nat→Addr)(G:WdG)(M:Wm)(s:Int)(L:Za)(hG:Er T E [2] L)(hI:WdIn L G M)(hl:G.nd.length=M.n.length):HC prog 76 [pt G.wp 0,iv s] L (fun v L'=>v=(match Vc M s with
  | some e=>.tuple ⟨[.pointer none,eV T E (some e)]⟩
  | none=>.tuple ⟨[pt (Zo G s).np 0,.nilIface]⟩)∧L'=L):=by
 have hw:=hI.wp
 unfold Zbx at hw
 by_cases h:s<0∨M.n.length≤s
 ·have e:Vc M s=some 2:=Z2d h
  obtain⟨a,cap,hnv,hR⟩:=hI.ns
  rw[hnv]at hw
  simp only[e]
  by_cases h0:s<0
  ·refine uE func76 ntmps76 ?_
   repeat' (first|refine uN ?_|(refine uP ?_ ?_<;>intro h<;>try exact zx)|refine uM ?_|fail)
   exact Z14 rfl ⟨rfl,rfl⟩
  ·refine uE func76 ntmps76 ?_
   repeat' (first|refine uN ?_|(refine uP ?_ ?_<;>intro h<;>try exact zx)|refine uM ?_|fail)
   exact Z14 rfl ⟨rfl,rfl⟩
 ·have e:Vc M s=none:=Z16 h
  simp only[e]
  obtain⟨b,i,l,F,fr,cap,hnv,hb,hg⟩:=wd_np hI hl (s:=s) (by omega) (by omega)
  rw[hnv]at hw
  refine uE func76 ntmps76 ?_
  repeat' (first|refine uN ?_|(refine uP ?_ ?_<;>intro h<;>try exact zx)|refine uM ?_|fail)
  exact Z14 rfl ⟨rfl,rfl⟩
theorem Z11(T:Nat)(E:Nat→Addr)(G:WdG)(M:Wm)(s:Int)(L:Za)(hG:Er T E [2,6] L)(hI:WdIn L G M)(hl:G.nd.length=M.n.length)(hN:Vc M s=none→Has L (Zo G s).np (Zdm (Zo G s) (Zd M s))):HC prog 66 [pt G.wp 0,iv s] L (fun v L'=>v=(match Vc M s with
  | some e=>.tuple ⟨[.pointer none,eV T E (some e)]⟩
  | none=>.tuple ⟨[pt (Zo G s).np 0,eV T E (Zd9 M s)]⟩)∧L'=L):=by
 have kn:=Zae T E G M s L hG.sub hI hl
 rcases Qu (M:=M) s with he|⟨he,h0,h1⟩
 ·simp only[he]at kn ⊢
  refine uE func66 ntmps66 ?_
  repeat' (first|refine uN ?_|refine uC (kn) ?_|(refine uP ?_ ?_<;>intro h<;>try exact zx)|fail)
  exact Z14 rfl ⟨rfl,rfl⟩
 ·have hN':=hN he
  have hu:Zd9 M s=if (Zd M s).site.isNone then some 6 else none:=by unfold Zd9;rw[he]
  simp only[he]at kn ⊢
  unfold Zdm at hN'
  cases hs:(Zd M s).site with
  | none=>
   rw[hs]at hN' hu
   rw[hu]
   have g0:(V3 (.pointer none) (Zo G s).bp (Xo (Zo G s) (Zd M s)) (Zd M s).done)[0+0]?=some (.pointer none):=Vd rfl
   refine uE func66 ntmps66 ?_
   repeat' (first|refine uN ?_|refine uC (kn) ?_|(refine uP ?_ ?_<;>intro h<;>try exact zx)|fail)
   exact Z14 rfl ⟨rfl,rfl⟩
  | some q=>
   rw[hs]at hN' hu
   rw[hu]
   have g0:(V3 (pt (Zo G s).sp 0) (Zo G s).bp (Xo (Zo G s) (Zd M s)) (Zd M s).done)[0+0]?=some (pt (Zo G s).sp 0):=Vd rfl
   obtain⟨q1,q2⟩:=q
   refine uE func66 ntmps66 ?_
   repeat' (first|refine uN ?_|refine uC (kn) ?_|(refine uP ?_ ?_<;>intro h<;>try exact zx)|fail)
   exact Z14 rfl ⟨rfl,rfl⟩
def Zu4(M:Wm)(k:Int):Option Nat:=if k<0∨M.l.length≤k then some 4 else none
theorem Ze0(T:Nat)(E:Nat→Addr)(G:WdG)(M:Wm)(k:Int)(L:Za)(hG:Er T E [4] L)(hI:WdIn L G M):HC prog 72 [pt G.wp 0,iv k] L (fun v L'=>v=eV T E (Zu4 M k)∧L'=L):=by
 have hw:=hI.wp
 unfold Zbx at hw
 obtain⟨a,cap,hlv,-⟩:=hI.ls
 rw[hlv]at hw
 unfold Zu4
 by_cases h0:k<0
 ·rw[Z2d (.inl h0)]
  refine uE func72 ntmps72 ?_
  repeat' (first|refine uN ?_|(refine uP ?_ ?_<;>intro h<;>try exact zx)|fail)
  exact Us rfl ⟨rfl,rfl⟩
 ·by_cases h1:M.l.length≤k
  ·rw[Z2d (.inr h1)]
   refine uE func72 ntmps72 ?_
   repeat' (first|refine uN ?_|(refine uP ?_ ?_<;>intro h<;>try exact zx)|fail)
   exact Us rfl ⟨rfl,rfl⟩
  ·rw[Z16 (by omega)]
   refine uE func72 ntmps72 ?_
   repeat' (first|refine uN ?_|(refine uP ?_ ?_<;>intro h<;>try exact zx)|fail)
   exact Us rfl ⟨rfl,rfl⟩
end
end Go.HL
namespace Go.HL
open Go Go.Proofs Go.Proofs.Tryz
variable[Tasks]
def Ug(s:Int)(ph:Nat→Int)(q:List Bool × List Evt)(d:Nat):List Bool × List Evt:=
 if q.1.getD d true=true∨(ph d≠2∧ph d≠3) then q else (q.1.set d true,if q.2.length<500 then q.2++[⟨s,d,ph d⟩] else q.2)
def Zao(s:Int)(ph:Nat→Int)(q:List Bool × List Evt)(k:Nat):List Bool × List Evt:=(List.range k).foldl (Ug s ph) q
def Ue(j:Jn)(d:Nat):Int:=(j.l.getD d Zl).s.ph
def Wh(s:Int)(m:Nd)(ev:List Evt):List Bool × List Evt:=match m.site with
 | none=>(m.done,ev)
 | some (j,_)=>Zao s (Ue j) (m.done,ev) 6
theorem Zc1(s:Int)(ph:Nat→Int)(q:List Bool × List Evt)(k:Nat):Zao s ph q (k+1)=Ug s ph (Zao s ph q k) k:=by
 unfold Zao
 rw[Z4i,Z5b]
 rfl
theorem Z0u{s:Int}{ph:Nat→Int}{q:List Bool × List Evt}{d:Nat}:(Ug s ph q d).1.length=q.1.length:=by
 unfold Ug;split<;>simp
theorem noteD_ev{s:Int}{ph:Nat→Int}{q:List Bool × List Evt}{d:Nat}(h:q.2.length≤500):(Ug s ph q d).2.length≤500:=by
 unfold Ug
 split
 ·exact h
 ·simp only
  split
  ·simp;omega
  ·exact h
theorem Zer{s:Int}{ph:Nat→Int}{q:List Bool × List Evt}:∀k,(Zao s ph q k).1.length=q.1.length
 | 0=>rfl
 | k+1=>by rw[Zc1,Z0u,Zer k]
theorem Zg7{s:Int}{ph:Nat→Int}{q:List Bool × List Evt}(h:q.2.length≤500):∀k,(Zao s ph q k).2.length≤500
 | 0=>h
 | k+1=>by rw[Zc1];exact noteD_ev (Zg7 h k)
theorem Zg6{sv:Value}{bp:Nat}{lv:List Value}{dn:List Bool}(h:lv.length=6):([sv,pt bp 0]++lv).length=8:=by simp[h]
theorem ndL_done{sv:Value}{bp:Nat}{lv:List Value}{dn:List Bool}{d:Nat}{b:Bool}(hl:lv.length=6)(h:dn[d]?=some b):(V3 sv bp lv dn)[0+8+(d:Int).toNat*1]?=some (.bool b):=by
 rw[V3,Z3f (by rw[Zg6 (dn:=dn) (bp:=bp) (sv:=sv) hl];omega),Zg6 (dn:=dn) (bp:=bp) (sv:=sv) hl]
 rw[show 0+8+(d:Int).toNat*1-8=d by omega,Z30,h]
 rfl
theorem ndL_putD{sv:Value}{bp:Nat}{lv:List Value}{dn:List Bool}{d:Nat}(b:Bool)(hl:lv.length=6)(h:d<dn.length):Yi (V3 sv bp lv dn) (0+8+(d:Int).toNat*1) [.bool b] (V3 sv bp lv (dn.set d b)):=by
 have e:V3 sv bp lv (dn.set d b)=(V3 sv bp lv dn).set (0+8+(d:Int).toNat*1) (.bool b):=by
  rw[V3,V3,Z34 _ _ (by rw[Zg6 (dn:=dn) (bp:=bp) (sv:=sv) hl];omega),Zg6 (dn:=dn) (bp:=bp) (sv:=sv) hl,Z4h]
  rw[show 0+8+(d:Int).toNat*1-8=d by omega]
 rw[e]
 refine Wz ?_
 rw[V3,Z2i,Zg6 (dn:=dn) (bp:=bp) (sv:=sv) hl,Z26]
 omega
attribute [local irreducible] HW HO HQ HD HC QOp Has Upd Yi Gets Vv W6 Xn Zaf Wa Yz Zcl Xy
section
attribute [local irreducible] V3 Yl Ug
theorem Zfr(sp bj mb bp:Nat)(id:Int)(j:Jn)(d:Nat)(L:Za)(h1:Has L sp (.cells ⟨[pt bj 0,iv id,.map (some mb)]⟩ 187))(h2:Has L bj (.cells ⟨Yl bp j⟩ 261))(hl:j.l.length=6)(hd:d<6):
  HC prog 143 [pt sp 0,iv d] L (fun v L'=>v=.tuple ⟨[.agg ⟨sc (j.l.getD d Zl).s⟩,.nilIface]⟩∧L'=L):=by
 have kg:∀c:List Zp,HC _ _ _ (c::L) _:=fun c=>Ziy bj bp j d (c::L) (Zb h2) hl hd
 refine uE func143 ntmps143 ?_
 repeat' (first|refine uN ?_|refine uC (kg _) ?_|(refine uB ?_;intro b)|fail)
 exact U3 (LS.c (LS.refl _)) ⟨rfl,rfl⟩ (hx:=Xj S (hg:=Zc rfl (Zc rfl (Zc rfl Z6))))
structure SiIn(L:Za)(g:NdG)(id:Int)(j:Jn):Prop where
 si:Has L g.sp (.cells ⟨[pt g.bj 0,iv id,.map (some g.mb)]⟩ 187)
 jn:Has L g.bj (.cells ⟨Yl g.bp j⟩ 261)
structure NpIn(L:Za)(nv:Value)(n:Nat)(s:Int)(np:Nat):Prop where
 at_:∃b i l F fr cap,nv=sl b i n cap∧Has L b (.cells ⟨l⟩ F fr)∧l[i+s.toNat]?=some (pt np 0)
 lo:0≤s
 hi:s<n
theorem Zjp(G:WdG)(s:Int)(g:NdG)(m:Nd)(ev:List Evt)(n:Nat)(L:Za)(hv:Vec 81 3 ec G.ev ev G.ec)(hl:ev.length≤500)(hp:NpIn L G.nv n s g.np)(hd:m.done.length=6)(hlv:(Xo g m).length=6)
  (hs:∀j ref,m.site=some (j,ref)→SiIn L g s j∧j.l.length=6):HC prog 101 [pt G.wp 0,iv s] ([(G.wp,Zbx G)]::G.ec::Zdl g m::L)
  (fun v L'=>∃evv c,Vec 81 3 ec evv (Wh s m ev).2 c∧v=.tuple ⟨[]⟩∧L'=[(G.wp,Zbx { G with ev:=evv,ec:=c })]::c::Zdl g { m with done:=(Wh s m ev).1 }::L):=by
 obtain⟨wp,wv,wc,nv,nc,mb,es,ck,lv,lc,evv,evc,nd⟩:=G
 simp only at hv hp
 obtain⟨⟨b,i,l,F,fr,cap,rfl,hb,hg⟩,h0,h1⟩:=hp
 obtain⟨pl,site,leads,done⟩:=m
 simp only at hd hs
 simp only[Zbx,Zdl,Zdm]
 cases site with
 | none=>
  have g0:(V3 (.pointer none) g.bp (Xo g ⟨pl,none,leads,done⟩) done)[0+0]?=some (.pointer none):=Vd rfl
  simp only[Wh,Zj1]
  refine uE func101 ntmps101 ?_
  repeat' (first|refine uN ?_|(refine uB ?_;intro b)|(refine uP ?_ ?_<;>intro h<;>try exact zx)|refine uM ?_|fail)
  exact er0 rfl ⟨_,_,hv,rfl,rfl⟩
 | some q=>
  obtain⟨j,ref⟩:=q
  obtain⟨⟨hsi,hjn⟩,hjl⟩:=hs j ref rfl
  have g0:∀dn,(V3 (pt g.sp 0) g.bp (Xo g ⟨pl,some (j,ref),leads,done⟩) dn)[0+0]?=some (pt g.sp 0):=fun dn=>Vd rfl
  have hlv2:∀dn,(Xo g ⟨pl,some (j,ref),leads,dn⟩)=(Xo g ⟨pl,some (j,ref),leads,done⟩):=fun dn=>rfl
  generalize hLV:Xo g ⟨pl,some (j,ref),leads,done⟩=LV at g0 hlv hlv2
  simp only[Wh,Zj1]
  have g00:=g0 done
  refine uE func101 ntmps101 ?_
  repeat' (first|refine uN ?_|(refine uB ?_;intro b)|(refine uP ?_ ?_<;>intro h<;>try exact zx)|refine uM ?_|fail)
  refine Zm (σ:=Nat × (Value × List Zp)) (fun q=>[(0,pt wp 0),(1,iv s),(4,pt g.np 0),(20,iv q.1)])
   (fun q=>[(wp,.cells ⟨[wv,sl b i n cap,.map (some mb),lv,q.2.1]⟩ 110)]::q.2.2::[(g.np,.cells ⟨V3 (pt g.sp 0) g.bp LV (Zao s (Ue j) (done,ev) q.1).1⟩ 122)]::L)
   (fun q=>q.1≤6∧Vec 81 3 ec q.2.1 (Zao s (Ue j) (done,ev) q.1).2 q.2.2) (fun q=>6-q.1) (0,evv,evc) uS (Z15 _) ⟨by simp,hv⟩ ?_
  rintro⟨d,ev1,c1⟩ ⟨hd6,hv1⟩
  simp only at hd6 hv1 ⊢
  have hdl:=Zer (s:=s) (ph:=Ue j) (q:=(done,ev)) d
  have hel:=Zg7 (s:=s) (ph:=Ue j) (q:=(done,ev)) hl d
  have hsucc:=Zc1 s (Ue j) (done,ev) d
  generalize hRR:Zao s (Ue j) (done,ev) d=R at*
  obtain⟨dn,es1⟩:=R
  simp only at hdl hel hv1 ⊢
  by_cases hlt:d<6
  ·have ks:∀c1 c2 c3:List Zp,HC _ _ _ (c1::c2::c3::L) _:=fun c1 c2 c3=>Zfr g.sp g.bj g.mb g.bp s j d (c1::c2::c3::L) (Zb (Zb (Zb hsi))) (Zb (Zb (Zb hjn))) hjl hlt
   have g00:=g0 dn
   have hdn:dn[d]?=some (dn.getD d true):=getD_some (by omega)
   have gD:=ndL_done (sv:=pt g.sp 0) (bp:=g.bp) (lv:=LV) hlv hdn
   have gP:=ndL_putD (sv:=pt g.sp 0) (bp:=g.bp) (lv:=LV) (dn:=dn) (d:=d) true hlv (by omega)
   obtain⟨a5,cap5,he5,-,-⟩:=hv1.rd Vt
   subst he5
   have hnx:Zao s (Ue j) (done,ev) (d+1)=Ug s (Ue j) (dn,es1) d:=hsucc
   by_cases hdone:dn.getD d true=true
   ·rw[hdone]at gD
    have e2:Ug s (Ue j) (dn,es1) d=(dn,es1):=by unfold Ug;rw[Z2d (.inl hdone)]
    rw[e2]at hnx
    repeat' (first|refine uN ?_|refine uC (ks _ _ _) ?_|refine uD (fun _=>ks _ _ _) ?_|(refine uB ?_;intro b)|(refine uP ?_ ?_<;>intro h<;>try exact zx)|refine uM ?_|fail)
    refine Ze (d+1,.slice a5 es1.length cap5,c1) uS ?_ ⟨by simp only;omega,?_⟩ (by simp only;omega)
    ·rw[hnx];exact LS.c (LS.refl _)
    ·rw[hnx];exact hv1
   ·have hdf:dn.getD d true=false:=by simpa using hdone
    rw[hdf]at gD
    by_cases hph:Ue j d≠2∧Ue j d≠3
    ·have e2:Ug s (Ue j) (dn,es1) d=(dn,es1):=by unfold Ug;rw[Z2d (.inr hph)]
     rw[e2]at hnx
     unfold Ue at hph
     repeat' (first|refine uN ?_|refine uC (ks _ _ _) ?_|refine uD (fun _=>ks _ _ _) ?_|(refine uB ?_;intro b)|(refine uP ?_ ?_<;>intro h<;>try exact zx)|refine uM ?_|fail)
     all_goals refine Ze (d+1,.slice a5 es1.length cap5,c1) uS ?_ ⟨by simp only;omega,?_⟩ (by simp only;omega)
     all_goals rw[hnx]
     all_goals first|exact hv1|exact LS.c (LS.refl _)
    ·have e2:Ug s (Ue j) (dn,es1) d=(dn.set d true,if es1.length<500 then es1++[⟨s,d,Ue j d⟩] else es1):=by unfold Ug;rw[Z16 (by simp only[hdf];intro h;rcases h with h|h;cases h;exact hph h)]
     rw[e2]at hnx
     have hph':=hph
     unfold Ue at hph'
     by_cases h500:es1.length<500
     ·rw[Z2d h500]at hnx
      repeat' (first|refine uN ?_|refine uC (ks _ _ _) ?_|refine uD (fun _=>ks _ _ _) ?_|(refine uB ?_;intro b)|(refine uP ?_ ?_<;>intro h<;>try exact zx)|refine uM ?_|fail)
      all_goals refine fo 3 ?_
      all_goals refine Zfc S ⟨s,d,Ue j d⟩ hv1 Vt Zpz ?_
      all_goals intro v' c' hv'
      all_goals obtain⟨a6,cap6,he6,-,-⟩:=hv'.rd Vt
      all_goals subst he6
      all_goals repeat' (first|refine uN ?_|refine uC (ks _ _ _) ?_|refine uD (fun _=>ks _ _ _) ?_|(refine uB ?_;intro b)|(refine uP ?_ ?_<;>intro h<;>try exact zx)|refine uM ?_|fail)
      all_goals refine Ze (d+1,.slice a6 (es1++[⟨s,d,Ue j d⟩]:List Evt).length cap6,c') uS ?_ ⟨by simp only;omega,?_⟩ (by simp only;omega)
      all_goals rw[hnx]
      all_goals first|exact hv'|exact uL
     ·rw[Z16 h500]at hnx
      repeat' (first|refine uN ?_|refine uC (ks _ _ _) ?_|refine uD (fun _=>ks _ _ _) ?_|(refine uB ?_;intro b)|(refine uP ?_ ?_<;>intro h<;>try exact zx)|refine uM ?_|fail)
      all_goals refine Ze (d+1,.slice a5 es1.length cap5,c1) uS ?_ ⟨by simp only;omega,?_⟩ (by simp only;omega)
      all_goals rw[hnx]
      all_goals first|exact hv1|exact LS.c (LS.refl _)
  ·obtain rfl:d=6:=by omega
   have hR6:Zao s (Ue j) (done,ev) 6=(dn,es1):=hRR
   rw[hR6]
   repeat' (first|refine uN ?_|(refine uB ?_;intro b)|(refine uP ?_ ?_<;>intro h<;>try exact zx)|refine uM ?_|fail)
   exact ee0 rfl ⟨_,_,hv1,rfl,by rw[hlv2 dn]⟩
end
end Go.HL
namespace Go.HL
open Go Go.Proofs Go.Proofs.Tryz
variable[Tasks]
def Z8:List (Option Ld):=List.replicate 6 none
def Z0t:List Value:=List.replicate 6 (.pointer none)
theorem Zl3:∀(ld:List (Nat × Value × List Zp)),ld.length=6→List.zipWith Zh4 Z8 ld=Z0t
 | [_,_,_,_,_,_],_=>rfl
theorem Zs8{sv sv':Value}{bp:Nat}{lv:List Value}{dn:List Bool}:Yi (V3 sv bp lv dn) (0+0) [sv'] (V3 sv' bp lv dn):=by
 have:V3 sv' bp lv dn=(V3 sv bp lv dn).set (0+0) sv':=rfl
 rw[this]
 exact Wz (by simp[V3])
theorem ndL_putL{sv:Value}{bp:Nat}{lv lv':List Value}{dn:List Bool}(h:lv'.length=lv.length):Yi (V3 sv bp lv dn) (0+2) lv' (V3 sv bp lv' dn):=by
 have key:=Zme (l:=V3 sv bp lv dn) (i:=0+2) (vs:=lv') (by rw[V3,h];simp;omega)
 have e:(V3 sv bp lv dn).take (0+2)++lv'++(V3 sv bp lv dn).drop (0+2+lv'.length)=V3 sv bp lv' dn:=by
  rw[h]
  have e1:(V3 sv bp lv dn).drop (0+2+lv.length)=dn.map Value.bool:=by
   rw[V3]
   have:0+2+lv.length=([sv,pt bp 0]++lv).length:=by simp;omega
   rw[this,Z7j]
  rw[e1]
  simp[V3]
 rw[e]at key
 exact key
theorem Zg5{sv:Value}{bp:Nat}{lv:List Value}{dn:List Bool}{d:Nat}{v:Value}(h:lv[d]?=some v):(V3 sv bp lv dn)[0+2+(d:Int).toNat*1]?=some v:=by
 have hlt:d<lv.length:=(Z2j.1 h).1
 rw[V3,Z18,Z3f (by simp<;>omega),Z3n (by simp<;>omega)]
 rw[show 0+2+(d:Int).toNat*1-[sv,pt bp 0].length=d by simp<;>omega]
 exact h
theorem Zs9{sv:Value}{bp:Nat}{lv:List Value}{dn:List Bool}{d:Nat}(v:Value)(h:d<lv.length):Yi (V3 sv bp lv dn) (0+2+(d:Int).toNat*1) [v] (V3 sv bp (lv.set d v) dn):=by
 have e:V3 sv bp (lv.set d v) dn=(V3 sv bp lv dn).set (0+2+(d:Int).toNat*1) v:=by
  rw[V3,V3,Z18,Z18,Z34 _ _ (by simp<;>omega),List.set_append_left _ _ (by simp<;>omega)]
  rw[show 0+2+(d:Int).toNat*1-[sv,pt bp 0].length=d by simp<;>omega]
 rw[e]
 refine Wz ?_
 simp[V3]
 omega
attribute [local irreducible] HW HO HQ HD HC QOp Has Upd Yi Gets Vv W6 Xn Zaf Wa Yz Zcl Xy
section
attribute [local irreducible] V3 Yl Xs Zu
theorem Zjo(g:NdG)(m:Nd)(L:Za)(hl:(Xo g m).length=6)(hd:g.ld.length=6):HC prog 99 [pt g.np 0] (Zdl g m::L) (fun v L'=>v=.tuple ⟨[]⟩∧L'=Zdl g { m with site:=none,leads:=Z8 }::L):=by
 have e:Xo g { m with site:=none,leads:=Z8 }=Z0t:=Zl3 _ hd
 simp only[Zdl,Zdm,e,Zj1]
 have p0:=Zs8 (sv:=Zj1 g m.site) (sv':=.pointer none) (bp:=g.bp) (lv:=Xo g m) (dn:=m.done)
 have p1:=ndL_putL (sv:=.pointer none) (bp:=g.bp) (lv:=Xo g m) (lv':=Z0t) (dn:=m.done) (by rw[hl];rfl)
 refine uE func99 ntmps99 ?_
 repeat' (first|refine uN ?_|fail)
 exact ee0 rfl ⟨rfl,rfl⟩
def Vu(s:Int)(m:Nd)(ev:List Evt)(f:Fr):Nd × List Evt × List Fr × Bool:=match m.site with
 | none=>(m,ev,[],false)
 | some (j,ref)=>if (Zu s ref m.pl j f).1.off then (⟨(Zu s ref m.pl j f).1,none,Z8,m.done⟩,ev,[],false)
  else (⟨(Zu s ref m.pl j f).1,some ((Zu s ref m.pl j f).2.1,ref),m.leads,(Wh s ⟨(Zu s ref m.pl j f).1,some ((Zu s ref m.pl j f).2.1,ref),m.leads,m.done⟩ ev).1⟩,
   (Wh s ⟨(Zu s ref m.pl j f).1,some ((Zu s ref m.pl j f).2.1,ref),m.leads,m.done⟩ ev).2,(Zu s ref m.pl j f).2.2.1,(Zu s ref m.pl j f).2.2.2.isNone)
theorem NpIn.cons{L:Za}{nv:Value}{n:Nat}{s:Int}{np:Nat}(h:NpIn L nv n s np)(c:List Zp):NpIn (c::L) nv n s np:=by
 obtain⟨⟨b,i,l,F,fr,cap,h1,h2,h3⟩,h4,h5⟩:=h
 exact⟨⟨b,i,l,F,fr,cap,h1,Zb h2,h3⟩,h4,h5⟩
def HearQ(G:WdG)(s:Int)(g:NdG)(m:Nd)(ref:Int→Bool)(ev:List Evt)(r:Pl × Jn × List Fr × Option Nat)(L:Za)(v:Value)(L':Za):Prop:=
 if r.1.off then v=.tuple ⟨[Yt,.bool false]⟩∧L'=[(G.wp,Zbx G)]::G.ec::Zdl g ⟨r.1,none,Z8,m.done⟩::Xs g.bp g.ba r.1::L
 else ∃fv c evv c2,Z0 fv r.2.2.1 c∧Vec 81 3 ec evv (Wh s ⟨r.1,some (r.2.1,ref),m.leads,m.done⟩ ev).2 c2∧v=.tuple ⟨[fv,.bool r.2.2.2.isNone]⟩∧
  L'=[(G.wp,Zbx { G with ev:=evv,ec:=c2 })]::c2::Zdl g ⟨r.1,some (r.2.1,ref),m.leads,(Wh s ⟨r.1,some (r.2.1,ref),m.leads,m.done⟩ ev).1⟩::Zjz g.sp g.bj g.mb s::Zkd g.mb g.es g.ck::Xs g.bp g.ba r.1::jC g.bj g.bp r.2.1::c::L
theorem Zux(T:Nat)(E:Nat→Addr)(G:WdG)(s:Int)(g:NdG)(m:Nd)(f:Fr)(ev:List Evt)(n:Nat)(j:Jn)(ref:Int→Bool)(L:Za)(hG:Er T E [2,3,5,6] L)(hp:NpIn L G.nv n s g.np)(hv:Vec 81 3 ec G.ev ev G.ec)(hl:ev.length≤500)
  (hN:NdOk g m)(w:List Int)(sn:Nat)(hI:NdI w sn m)(hs:m.site=some (j,ref))(hj':(Zu s ref m.pl j f).2.1.l.length=6):HC prog 75 [pt G.wp 0,iv s,.agg ⟨fc f⟩] ([(G.wp,Zbx G)]::G.ec::Zdl g m::Zjz g.sp g.bj g.mb s::Zkd g.mb g.es g.ck::Xs g.bp g.ba m.pl::jC g.bj g.bp j::L)
  (HearQ G s g m ref ev (Zu s ref m.pl j f) L):=by
 have hF:=hN.map j ref hs
 have hj:=(hI.jn hs).ji.jn
 have kh:=fun L hG=>Zui T E g.sp g.bj g.mb g.bp g.ba s g.es g.ck ref m.pl j f L hG hF hI.pl hj
 generalize Zu s ref m.pl j f=r at kh hj' ⊢
 obtain⟨pl',j',fs,er⟩:=r
 simp only at kh hj' ⊢
 have hlvs:∀x,(Xo g ⟨pl',x,m.leads,m.done⟩).length=6:=fun x=>by simp[Xo,hI.leads,hN.ld]
 have hlvs0:(Xo g m).length=6:=by simp[Xo,hI.leads,hN.ld]
 have hpw:=Zjd g.bp g.ba pl'
 have kf:=fun L=>Zjo g m L hlvs0 hN.ld
 unfold HearQ
 obtain⟨pl,site,leads,done⟩:=m
 simp only at hs kh kf hlvs ⊢
 subst hs
 obtain⟨wp,wv,wc,nv,nc,mb,es,ck,lv,lc,evv,evc,nd⟩:=G
 simp only at hv hp ⊢
 have hp0:=hp
 obtain⟨⟨nb,i,l,F,fr,cap,rfl,hb,hg⟩,h0,h1⟩:=hp
 have g0:(V3 (pt g.sp 0) g.bp (Xo g ⟨pl,some (j,ref),leads,done⟩) done)[0+0]?=some (pt g.sp 0):=Vd rfl
 have g1:(V3 (pt g.sp 0) g.bp (Xo g ⟨pl,some (j,ref),leads,done⟩) done)[0+1]?=some (pt g.bp 0):=Vd rfl
 simp only[Zbx,Zdl,Zdm,Zj1]at kf ⊢
 cases hoff:pl'.off with
 | true=>
  simp only[Z4d]
  rw[hoff]at hpw
  refine uE func75 ntmps75 ?_
  repeat' (first|refine uN ?_|(refine uB ?_;intro b)|(refine uP ?_ ?_<;>intro h<;>try exact zx)|refine uG ?_|fail)
  refine fo 7 ?_
  refine fo 7 ?_
  refine fo 7 ?_
  refine fo 7 ?_
  refine gc (kh _ ?_) ?_
  ·exact((((hG.cons _).cons _).cons _).cons _)
  rintro v L' ⟨fv,c,rfl,hfv,rfl⟩
  repeat' (first|refine uN ?_|refine X7 (qC (Uu (hpw) 2)) ?_|(refine uB ?_;intro b)|(refine uP ?_ ?_<;>intro h<;>try exact zx)|refine uG ?_|fail)
  refine fo 8 ?_
  refine gc (kf _) ?_
  rintro v L' ⟨rfl,rfl⟩
  repeat' (first|refine uN ?_|(refine uB ?_;intro b)|(refine uP ?_ ?_<;>intro h<;>try exact zx)|refine uG ?_|fail)
  exact U3 (L':=[(wp,.cells ⟨[wv,sl nb i n cap,.map (some mb),lv,evv]⟩ 110)]::evc::Zdl g ⟨pl',none,Z8,done⟩::Xs g.bp g.ba pl'::L) (by simp only[Zdl,Zdm];exact uL) ⟨rfl,rfl⟩
 | false=>
  simp only[Z2r,Z3h]
  rw[hoff]at hpw
  have hkn:=fun(M1:Nd) (hM:M1=⟨pl',some (j',ref),leads,done⟩) (G1:WdG) (hG1:G1=⟨wp,wv,wc,sl nb i n cap,nc,mb,es,ck,lv,lc,evv,evc,nd⟩) L (hq:NpIn L (sl nb i n cap) n s g.np) (hsi:SiIn L g s j')=>Zjp G1 s g M1 ev n L (by subst hG1;exact hv) hl (by subst hG1;exact hq) (by subst hM;exact hI.done) (by subst hM;exact hlvs _) (by subst hM;intro j2 r2 h2;cases h2;exact⟨hsi,hj'⟩)
  have hkn:=fun L hq hsi=>hkn _ rfl _ rfl L hq hsi
  simp only[Zbx,Zdl,Zdm,Zj1]at hkn
  refine uE func75 ntmps75 ?_
  repeat' (first|refine uN ?_|(refine uB ?_;intro b)|(refine uP ?_ ?_<;>intro h<;>try exact zx)|refine uG ?_|fail)
  refine fo 7 ?_
  refine fo 7 ?_
  refine fo 7 ?_
  refine fo 7 ?_
  refine gc (kh _ ?_) ?_
  ·exact((((hG.cons _).cons _).cons _).cons _)
  rintro v L' ⟨fv,c,rfl,hfv,rfl⟩
  repeat' (first|refine uN ?_|refine X7 (qC (Uu (hpw) 2)) ?_|(refine uB ?_;intro b)|(refine uP ?_ ?_<;>intro h<;>try exact zx)|refine uG ?_|fail)
  refine fo 8 ?_
  refine fo 8 ?_
  refine fo 8 ?_
  refine gc (hkn _ ?_ ?_) ?_
  ·exact(((((((⟨⟨nb,i,l,F,fr,cap,rfl,hb,hg⟩,h0,h1⟩:NpIn L (sl nb i n cap) n s g.np).cons _).cons _).cons _).cons _).cons _).cons _)
  ·exact⟨Zk,Zb (Zb (Zb Zk))⟩
  rintro v L' ⟨evv',c2,hv2,rfl,rfl⟩
  obtain⟨af,capf,rfl,-,-⟩:=hfv.rd Zi
  cases er with
  | none=>
   repeat' (first|refine uN ?_|(refine uB ?_;intro b)|(refine uP ?_ ?_<;>intro h<;>try exact zx)|refine uG ?_|fail)
   exact U3 uL ⟨_,_,_,_,hfv,hv2,rfl,rfl⟩
  | some x=>
   repeat' (first|refine uN ?_|(refine uB ?_;intro b)|(refine uP ?_ ?_<;>intro h<;>try exact zx)|refine uG ?_|fail)
   exact U3 uL ⟨_,_,_,_,hfv,hv2,rfl,rfl⟩
end
end Go.HL
namespace Go.HL
open Go Go.Proofs Go.Extern.Stop Go.Stop Go.Proofs.Tryz
variable[Tasks]
theorem is_comp:(prog.info? 394).map (·.comparable)=some true:=by kernel_rfl
theorem is_size:(prog.info? 396).map (·.size)=some 1:=by kernel_rfl
theorem is_noIsE(v:Value)(xT:TypeId)(w:World):(Instr.typeAssert (.iface 394 v) xT 330 true).run prog w=.ok (.tuple #[.nilIface,.bool false]) w:=Z52 underlying330 (by kernel_rfl) (by kernel_rfl) v xT w
theorem Zg0(v:Value)(xT:TypeId)(w:World):(Instr.typeAssert (.iface 394 v) xT 326 true).run prog w=.ok (.tuple #[.nilIface,.bool false]) w:=Z52 underlying326 (by kernel_rfl) (by kernel_rfl) v xT w
theorem Zfi(v:Value)(xT:TypeId)(w:World):(Instr.typeAssert (.iface 394 v) xT 328 true).run prog w=.ok (.tuple #[.nilIface,.bool false]) w:=Z52 underlying328 (by kernel_rfl) (by kernel_rfl) v xT w
theorem as_noAsE(v:Value)(xT:TypeId)(w:World):(Instr.typeAssert (.iface 394 v) xT 323 true).run prog w=.ok (.tuple #[.nilIface,.bool false]) w:=Z52 underlying323 (by kernel_rfl) (by kernel_rfl) v xT w
abbrev Zk9(a:Addr):Value:=.iface 394 (.pointer (some a))
theorem q_err{ρ:Z9}{L:Za}{d:Option Tmp}{ty:TypeId}{pos:String}{af:Array Edge}{g:Option (Nat × Bool)}{t':TypeId}{x y:Operand}{a b:Addr}(h:a=b∨(a≠b∧Bk L a.block∧Bk L b.block))(hx:ev ρ x=some (Zk9 a):=by exact rfl)(hy:ev ρ y=some (Zk9 b):=by exact rfl):
  QOp prog ⟨d,.binOp .eql 28 x y t',ty,pos,af,g⟩ ρ L (.bool (decide (a=b))):=by
 obtain⟨i,hi,hcmp⟩:=Z28.1 is_comp
 obtain⟨j,hj,hjs⟩:=Z28.1 is_size
 exact q_eqlE underlying28 underlying394 hi hcmp hj (by rw[hjs];decide) h hx hy
attribute [local irreducible] HW HO HQ HD HC QOp Has Upd Yi Gets Vv W6 Xn Zaf Wa Yz Zcl Xy
section
theorem Z0h(a b:Addr)(L:Za)(h:a=b∨(a≠b∧Bk L a.block∧Bk L b.block)):HC prog 190 [Zk9 a,Zk9 b,.bool true] L (fun v L'=>v=.bool (decide (a=b))∧L'=L):=by
 refine uE func190 ntmps190 ?_
 repeat' (first|refine uN ?_|(refine uP ?_ ?_<;>intro h<;>try exact zx)|fail)
 refine Zm (σ:=Nat) (fun _=>[(0,Zk9 a),(1,Zk9 b),(2,.bool true)]) (fun _=>L) (fun _=>True) (fun q=>q) 0 uS (Z15 _) trivial ?_
 rintro q-
 repeat' (first|refine uN ?_|(refine uP ?_ ?_<;>intro h<;>try exact zx)|fail)
 refine X7 (q_err h) ?_
 repeat' (first|refine uN ?_|(refine uP ?_ ?_<;>intro h<;>try exact zx)|fail)
 ·refine Z3 (LS.refl _) ⟨?_,rfl⟩
  simp[h]
 refine X7 (Zie (is_noIsE _ _)) ?_
 repeat' (first|refine uN ?_|(refine uP ?_ ?_<;>intro h<;>try exact zx)|fail)
 refine X7 (Zie (Zg0 _ _)) ?_
 repeat' (first|refine uN ?_|(refine uP ?_ ?_<;>intro h<;>try exact zx)|fail)
 refine X7 (Zie (Zfi _ _)) ?_
 repeat' (first|refine uN ?_|(refine uP ?_ ?_<;>intro h<;>try exact zx)|fail)
 refine Z3 (LS.refl _) ⟨?_,rfl⟩
 simp[h]
def rtV(t:Nat):Value:=.iface 319 (.agg ⟨[.pointer (some ⟨23,t,none⟩)]⟩)
theorem is_calls(a b:Addr)(L:Za)(h:a=b∨(a≠b∧Bk L a.block∧Bk L b.block)):HC prog 137 [Zk9 a,Zk9 b] L (fun v L'=>v=.bool (decide (a=b))∧L'=L):=by
 have k1:=Z0h a b L h
 refine uE func137 ntmps137 ?_
 repeat' (first|refine uN ?_|(refine uP ?_ ?_<;>intro h<;>try exact zx)|fail)
 refine X7 (q_ext (rtV 394) (by kernel_rfl)) ?_
 refine X7 (Zoz (.bool true) (by kernel_rfl)) ?_
 repeat' (first|refine uN ?_|refine uC (k1) ?_|(refine uP ?_ ?_<;>intro h<;>try exact zx)|fail)
 exact Z3 (LS.refl _) ⟨rfl,rfl⟩
attribute [local irreducible] Za0 Zxx Zj3
abbrev hnd(t:Nat):Value:=.pointer (some ⟨23,t,none⟩)
abbrev rvV(t b:Nat)(fl:Int):Value:=.agg ⟨[hnd t,.pointer (some ⟨b,0,none⟩),.int .u64 fl]⟩
theorem as_vF(t:Addr):Za0 prog (.cells ⟨[.pointer (some t)]⟩ 203) (fun b=>Next.value (rvV 203 b 150)) 2000 (callFunc 185 ⟨[.iface 203 (.pointer (some t))]⟩):=
 newIs_ok (by kernel_rfl)
end
end Go.HL
namespace Go.HL
open Go Go.Proofs Go.Extern Go.Proofs.Tryz
variable[Tasks]
section
def rnlE:Array Value→Sem Value:=ReflectliteValue.method (ReflectliteValue.valueError "reflectlite.Value.IsNil" 0) ReflectliteValue.isNil
def setE:Array Value→Sem Value:=ReflectliteValue.set
theorem rlm(z:Sem Value)(f:TypeId→Addr→Nat→Nat→Sem Value)(v:Value):
  ReflectliteValue.method z f #[v]=(do match ← ReflectliteValue.parts v with|none=>z|some (t,a,fl)=>f t a fl (fl % 32)):=rfl
theorem n_pFF(a:Addr):Zj3 prog 2000 (ReflectliteValue.parts (.agg #[.pointer (some ⟨23,203,none⟩),.pointer (some a),.int .u64 150]))=some (some (203,a,150)):=by kernel_rfl
attribute [local irreducible] Zj3 Za0 Zxx
theorem as_isNil(a p:Addr)(W:World)(ha:W.cell? a=some (.pointer (some p))):
  (rnlE #[.agg #[.pointer (some ⟨23,203,none⟩),.pointer (some a),.int .u64 150]]).run prog W=.ok (.bool false) W:=by
 unfold rnlE
 rw[rlm]
 simp only[Z3q,(Zdz (n_pFF a)).1,Result.andThen]
 simp[ReflectliteValue.isNil,loadVar,isAgg,underlying,underlying203,ha,Result.andThen]
theorem Z05{α:Type}{B W:Nat→Prop}{N:Nat}(m:String)(q:Nat):Plo prog B W N (ReflectliteValue.valueError m q:Sem α):=by
 unfold ReflectliteValue.valueError cutType
 repeat' first|fail|(with_reducible first|assumption|exact Vf _|exact Wy _|exact Xe _|exact Vz _|exact Yq|exact Zg _|exact Yd _|exact Yf _|exact Z4 _|exact X5 _|exact Ve _ _|exact Y0 _ _|exact Ye _ _|exact Xl _|exact Xc _ _|exact Xd _ _|exact Xb rfl|exact Yx _|exact Y8 _|exact Zs _|exact Xi _|exact Z2 _ _ _ _|exact Yp _|exact Xv _|exact Xa _|exact Y2 _|exact Wi _|exact Xk _|exact Wn _ _ _|exact Xr _|refine Plo.bind ?_ (fun _=>?_)|refine Plo.ite ?_ ?_)|split|dsimp only
theorem pl_isNil{B W:Nat→Prop}{N:Nat}(a:Addr):Plo prog B W N (rnlE #[.agg #[.pointer (some ⟨23,203,none⟩),.pointer (some a),.int .u64 150]]):=by
 unfold rnlE
 rw[rlm]
 refine Z0v (n_pFF a) ?_
 unfold ReflectliteValue.isNil
 repeat' first|(with_reducible first|exact Z05 _ _)|(with_reducible first|assumption|exact Vf _|exact Wy _|exact Xe _|exact Vz _|exact Yq|exact Zg _|exact Yd _|exact Yf _|exact Z4 _|exact X5 _|exact Ve _ _|exact Y0 _ _|exact Ye _ _|exact Xl _|exact Xc _ _|exact Xd _ _|exact Xb rfl|exact Yx _|exact Y8 _|exact Zs _|exact Xi _|exact Z2 _ _ _ _|exact Yp _|exact Xv _|exact Xa _|exact Y2 _|exact Wi _|exact Xk _|exact Wn _ _ _|exact Xr _|refine Plo.bind ?_ (fun _=>?_)|refine Plo.ite ?_ ?_)|split|dsimp only
end
end Go.HL
namespace Go.HL
open Go Go.Proofs Go.Proofs.Tryz
variable[Tasks]
section
attribute [local irreducible] Za0 Zxx Zj3
theorem f_isNil:Extern.find Tryz.f187=some rnlE:=by kernel_rfl
attribute [local irreducible] HW HO HQ HD HC QOp Has Upd Yi Gets Vv W6 Xn Zaf Wa Yz Zcl Xy
theorem q_isNil{ρ:Z9}{L:Za}{d:Option Tmp}{ty:TypeId}{pos:String}{af:Array Edge}{g:Option (Nat × Bool)}{xs:Array Operand}{ats:Array TypeId}{bv:Nat}{t:Addr}(hb:Has L bv (.cells ⟨[.pointer (some t)]⟩ 203 (0,0)))(hv:evs ρ xs.toList=some [rvV 203 bv 150]:=by exact rfl):
  QOp prog ⟨d,.call { callee:=.value (.func 187),args:=xs,argTypes:=ats },ty,pos,af,g⟩ ρ L (.bool false):=
 q_rd func187 (by kernel_rfl) (by kernel_rfl) (by kernel_rfl) f_isNil (fun k w hs=>as_isNil ⟨bv,0,none⟩ t w (by rw[hs.cell hb];rfl)) (fun N=>pl_isNil _) hv
theorem as1_miss(e:Addr)(t:Value)(h v:Value)(x:Int)(L:Za):HC prog 188 [Zk9 e,t,.agg ⟨[h,v,.int .u64 x]⟩,rtV 158] L (fun v L'=>v=.bool false∧L'=L):=by
 refine uE func188 ntmps188 ?_
 repeat' (first|refine uN ?_|(refine uB ?_;intro b)|(refine uP ?_ ?_<;>intro h<;>try exact zx)|fail)
 refine Zm (σ:=Unit) (fun _=>[(0,Zk9 e),(1,t),(3,rtV 158)]) (fun _=>L) (fun _=>True) (fun _=>0) () uS ((Z15 _).cons _) trivial ?_
 rintro _-
 repeat' (first|refine uN ?_|(refine uB ?_;intro b)|(refine uP ?_ ?_<;>intro h<;>try exact zx)|fail)
 refine X7 (q_ext (rtV 394) (by kernel_rfl)) ?_
 repeat' (first|refine uN ?_|(refine uB ?_;intro b)|(refine uP ?_ ?_<;>intro h<;>try exact zx)|fail)
 refine X7 (Zoz (.bool false) (by kernel_rfl)) ?_
 repeat' (first|refine uN ?_|(refine uB ?_;intro b)|(refine uP ?_ ?_<;>intro h<;>try exact zx)|fail)
 refine X7 (Zie (as_noAsE _ _)) ?_
 repeat' (first|refine uN ?_|(refine uB ?_;intro b)|(refine uP ?_ ?_<;>intro h<;>try exact zx)|fail)
 refine X7 (Zie (Zg0 _ _)) ?_
 repeat' (first|refine uN ?_|(refine uB ?_;intro b)|(refine uP ?_ ?_<;>intro h<;>try exact zx)|fail)
 refine X7 (Zie (Zfi _ _)) ?_
 repeat' (first|refine uN ?_|(refine uB ?_;intro b)|(refine uP ?_ ?_<;>intro h<;>try exact zx)|fail)
 exact Z3 (LS.refl _) ⟨rfl,rfl⟩
theorem Zni(e:Addr)(t:Addr)(L:Za)(hg:Gl L 9 (rtV 28)):HC prog 136 [Zk9 e,.iface 203 (.pointer (some t))] L (fun v L'=>v=.bool false∧L'=L):=by
 have k1:=fun bv L=>as1_miss e (.iface 203 (.pointer (some t))) (hnd 203) (.pointer (some ⟨bv,0,none⟩)) 150 L
 refine uE func136 ntmps136 ?_
 repeat' (first|refine uN ?_|(refine uB ?_;intro b)|(refine uP ?_ ?_<;>intro h<;>try exact zx)|fail)
 refine ho_new _ (fun b=>rvV 203 b 150) (as_vF t) (fun bv=>?_)
 repeat' (first|refine uN ?_|(refine uB ?_;intro b)|(refine uP ?_ ?_<;>intro h<;>try exact zx)|fail)
 refine X7 (q_ext (rtV 203) (by kernel_rfl)) ?_
 repeat' (first|refine uN ?_|(refine uB ?_;intro b)|(refine uP ?_ ?_<;>intro h<;>try exact zx)|fail)
 refine X7 (Zoz (.int .u8 22) (by kernel_rfl)) ?_
 repeat' (first|refine uN ?_|(refine uB ?_;intro b)|(refine uP ?_ ?_<;>intro h<;>try exact zx)|fail)
 refine X7 (q_isNil (Zb Zk)) ?_
 repeat' (first|refine uN ?_|(refine uB ?_;intro b)|(refine uP ?_ ?_<;>intro h<;>try exact zx)|fail)
 refine X7 (Zoz (rtV 158) (by kernel_rfl)) ?_
 repeat' (first|refine uN ?_|(refine uB ?_;intro b)|(refine uP ?_ ?_<;>intro h<;>try exact zx)|fail)
 refine X7 (Zoz (.int .u8 22) (by kernel_rfl)) ?_
 have hg2:=(hg.cons (c:=[(bv,.cells ⟨[.pointer (some t)]⟩ 203)])).cons (c:=[(b,.cells ⟨[hnd 203,.pointer (some ⟨bv,0,none⟩),.int .u64 150]⟩ 273)])
 repeat' (first|refine uN ?_|(refine uB ?_;intro b)|(refine uP ?_ ?_<;>intro h<;>try exact zx)|fail)
 refine X7 (Zoz (.bool true) (by kernel_rfl)) ?_
 repeat' (first|refine uN ?_|refine uC (k1 _ _) ?_|(refine uB ?_;intro b)|(refine uP ?_ ?_<;>intro h<;>try exact zx)|fail)
 exact Z3 (L':=L) uZ ⟨rfl,rfl⟩
end
def all9:List Nat:=[1,2,3,4,5,6,7,8,9]
structure Ez(T:Nat)(E:Nat→Addr)(L:Za):Prop where
 ty:T=394
 errs:Er T E all9 L
 blk:∀c,List.elem c all9=true→Bk L (E c).block
 one:∀c c',List.elem c all9=true→List.elem c' all9=true→E c=E c'→c=c'
 et:Gl L 9 (.iface 319 (.agg #[.pointer (some ⟨23,28,none⟩)]))
theorem Ez.cons{T:Nat}{E:Nat→Addr}{L:Za}(h:Ez T E L)(c:List Zp):Ez T E (c::L):=
 ⟨h.ty,h.errs.cons c,fun k hk=>(h.blk k hk).cons c,h.one,h.et.cons⟩
theorem Ez.mono{T:Nat}{E:Nat→Addr}{L L':Za}(h:Ez T E L)(hl:∀b o,Has L b o→Has L' b o):Ez T E L':=
 ⟨h.ty,h.errs.mono hl,fun k hk=>let ⟨c,E,hb⟩:=h.blk k hk;⟨c,E,hb.imp (hl _ _) (hl _ _)⟩,h.one,h.et.mono hl⟩
theorem Ez.er{T:Nat}{E:Nat→Addr}{L:Za}(h:Ez T E L)(cs:List Nat)(hm:(cs.all fun g=>all9.elem g)=true:=by rfl):Er T E cs L:=h.errs.sub hm
def faC(pb:Nat)(at_:Int)(T:Nat)(E:Nat→Addr)(c:Option Nat):List Zp:=[(pb,.cells ⟨[iv at_,eV T E c]⟩ 160)]
attribute [local irreducible] HW HO HQ HD HC QOp Has Upd Yi Gets Vv W6 Xn Zaf Wa Yz Zcl Xy
theorem code_nil(L:Za):HC prog 79 [.nilIface] L (fun v L'=>v=.tuple ⟨[iv 0,iv (-1)]⟩∧L'=L):=by
 refine uE func79 ntmps79 ?_
 repeat' (first|refine uN ?_|(refine uB ?_;intro b)|(refine uP ?_ ?_<;>intro h<;>try exact zx)|fail)
 exact U3 (LS.refl _) ⟨rfl,rfl⟩
def eL(T:Nat)(E:Nat→Addr):List Value:=all9.map fun c=>eV T E (some c)
theorem eL_get{T:Nat}{E:Nat→Addr}{i:Nat}(h:i<9):(eL T E)[0+(i:Int).toNat]?=some (errV T E (i+1)):=by
 have:∀i,i<9→(all9.map fun c=>eV T E (some c))[i]?=some (errV T E (i+1)):=by
  intro i h
  match i,h with
  | 0,_=>rfl
  | 1,_=>rfl
  | 2,_=>rfl
  | 3,_=>rfl
  | 4,_=>rfl
  | 5,_=>rfl
  | 6,_=>rfl
  | 7,_=>rfl
  | 8,_=>rfl
 simpa[eL] using this i h
theorem elem9{i:Nat}(h:i<9):List.elem (i+1) all9=true:=by
 have:∀i,i<9→List.elem (i+1) all9=true:=by decide
 exact this i h
theorem Zvg(T:Nat)(E:Nat→Addr)(c:Nat)(L:Za)(hE:Ez T E L)(hc:List.elem c all9=true):HC prog 79 [eV T E (some c)] L (fun v L'=>v=.tuple ⟨[iv c,iv (-1)]⟩∧L'=L):=by
 have hT:=hE.ty
 have hG:=hE.errs
 have hA:=Zni (E c)
 have hI:∀i L',Ez T E L'→i<9→HC prog 137 [eV T E (some c),errV T E (i+1)] L' (fun v L2=>v=.bool (decide (E c=E (i+1)))∧L2=L'):=fun i L' h9 hi=>by
  subst hT
  refine is_calls (E c) (E (i+1)) L' ?_
  by_cases he:E c=E (i+1)
  ·exact .inl he
  ·exact .inr ⟨he,h9.blk c hc,h9.blk (i+1) (elem9 hi)⟩
 subst hT
 refine uE func79 ntmps79 ?_
 repeat' (first|refine uN ?_|(refine uB ?_;intro b)|(refine uP ?_ ?_<;>intro h<;>try exact zx)|fail)
 refine gc (hA ⟨b,0,none⟩ _ hE.et.cons) ?_
 rintro v L' ⟨rfl,rfl⟩
 have hG2:=hG.cons [(b,.cells ⟨[.pointer none]⟩ 158)]
 repeat' (first|refine uN ?_|(refine uB ?_;intro b)|(refine uP ?_ ?_<;>intro h<;>try exact zx)|fail)
 rename_i b0
 refine Zm (σ:=Nat) (fun i=>[(0,eV 394 E (some c)),(3,iv (-1)),(25,sl b 0 9 9),(26,iv 9),(27,iv i)]) (fun _=>[(b,.cells ⟨eL 394 E⟩ 28)]::[(b0,.cells ⟨[.pointer none]⟩ 158)]::L) (fun i=>i≤8∧i<c) (fun i=>9-i) 0 uS (Z15 _) ⟨by omega,?_⟩ ?_
 ·cases c with
  | zero=>exact absurd hc (by decide)
  | succ c=>omega
 rintro i ⟨h8,hlt⟩
 have g:=eL_get (T:=394) (E:=E) (show i<9 by omega)
 have hz:=hI i _ ((hE.cons [(b0,.cells ⟨[.pointer none]⟩ 158)]).cons [(b,.cells ⟨eL 394 E⟩ 28)]) (by omega)
 repeat' (first|refine uN ?_|refine uC (hz) ?_|(refine uB ?_;intro b)|(refine uP ?_ ?_<;>intro h<;>try exact zx)|fail)
 ·obtain rfl:=hE.one c (i+1) hc (elem9 (by omega)) h
  exact U3 uZ ⟨rfl,rfl⟩
 ·have hne:c≠i+1:=fun e=>h (congrArg E e)
  have h10:c<10:=by
   have:=Z5o.1 hc
   simp[all9]at this
   omega
  exact Zn (i+1) uS (Z15 _) ⟨by omega,by omega⟩ (by omega)
def cdN:Option Nat→Int
 | none=>0
 | some c=>c
def okE:Option Nat→Prop
 | none=>True
 | some c=>List.elem c all9=true
theorem Zr5(T:Nat)(E:Nat→Addr)(e:Option Nat)(L:Za)(hE:Ez T E L)(he:okE e):HC prog 79 [eV T E e] L (fun v L'=>v=.tuple ⟨[iv (cdN e),iv (-1)]⟩∧L'=L):=by
 cases e with
 | none=>exact code_nil L
 | some c=>exact Zvg T E c L hE he
def W5(rp:Nat)(m:Pl)(left:Int):List Zp:=[(rp,.cells ⟨[bs m.b,.bool m.off,iv left,.bool (decide (m.cut≠-1))]⟩ 144)]
theorem wr_a{m:Pl}{at_:Int}{s:List UInt8}(ha:0≤at_)(hc:m.cut=-1)(ho:m.off=false):Zck m at_.toNat s=(⟨m.b.take at_.toNat++s.take ((s.length:Int)).toNat++m.b.drop (at_+(s.length:Int)).toNat,m.off,m.cut⟩,none):=by
 have e:(at_+(s.length:Int)).toNat=at_.toNat+s.length:=by omega
 simp[Zck,kM,hc,ho,Va,e]
theorem wr_b{m:Pl}{at_:Int}{s:List UInt8}(ha:0≤at_)(h1:-1≤m.cut)(hc:¬m.cut=-1)(hl:m.cut<s.length):Zck m at_.toNat s=(⟨m.b.take at_.toNat++s.take m.cut.toNat++m.b.drop (at_+m.cut).toNat,true,m.cut-m.cut⟩,some 6):=by
 have e1:min s.length m.cut.toNat=m.cut.toNat:=by omega
 have e2:m.cut.toNat<s.length:=by omega
 have e3:(at_+m.cut).toNat=at_.toNat+m.cut.toNat:=by omega
 have e4:min m.cut.toNat s.length=m.cut.toNat:=by omega
 have e5:m.cut-(m.cut.toNat:Int)=m.cut-m.cut:=by omega
 simp only[Zck,kM,hc,Va,e1,e2,e3,e4,e5,Z3h,Z4d,Z3g,decide_true,Bool.or_true]
theorem wr_c{m:Pl}{at_:Int}{s:List UInt8}(ha:0≤at_)(h1:-1≤m.cut)(hc:¬m.cut=-1)(hl:¬m.cut<s.length)(ho:m.off=false):Zck m at_.toNat s=(⟨m.b.take at_.toNat++s.take ((s.length:Int)).toNat++m.b.drop (at_+(s.length:Int)).toNat,m.off,m.cut-s.length⟩,none):=by
 have e1:min s.length m.cut.toNat=s.length:=by omega
 have e3:(at_+(s.length:Int)).toNat=at_.toNat+s.length:=by omega
 simp[Zck,kM,hc,ho,Va,e1,e3]
theorem Zmp(rp:Nat)(m:Pl)(left:Int)(at_ n:Int)(L:Za)(hl:m.b.length≤1000000):HC prog 288 [pt rp 0,iv at_,iv n] (W5 rp m left::L) (fun v L'=>v=iv (cdN (Wq m at_ n))∧L'=W5 rp m left::L):=by
 refine uE func288 ntmps288 ?_
 unfold Wq
 repeat' (first|refine uN ?_|(refine uP ?_ ?_<;>intro h<;>try exact zx)|fail)
 all_goals refine Z3 uZ ⟨?_,rfl⟩
 all_goals first|(rw[Z2d (by omega)];rfl)|(rw[Z16 (by omega),Z2d (by assumption)];rfl)|(rw[Z16 (by omega),Z16 (by simp_all)];rfl)
theorem Zww(rp:Nat)(m:Pl)(left:Int)(n:Int)(L:Za):HC prog 154 [pt rp 0,iv n] (W5 rp m left::L)
  (fun v L'=>if n<0 then v=iv 2∧L'=W5 rp m left::L else if m.off then v=iv 6∧L'=W5 rp m left::L else v=iv 0∧L'=W5 rp { m with cut:=n } n::L):=by
 refine uE func154 ntmps154 ?_
 by_cases h1:n<0
 ·simp only[Z2d h1]
  repeat' (first|refine uN ?_|(refine uP ?_ ?_<;>intro h<;>try exact zx)|fail)
  exact Z3 uZ ⟨rfl,rfl⟩
 by_cases h2:m.off=true
 ·simp only[Z16 h1,Z2d h2]
  repeat' (first|refine uN ?_|(refine uP ?_ ?_<;>intro h<;>try exact zx)|fail)
  all_goals first|exact Z3 uZ ⟨rfl,rfl⟩|simp_all
 ·simp only[Z16 h1,Z16 h2]
  repeat' (first|refine uN ?_|(refine uP ?_ ?_<;>intro h<;>try exact zx)|fail)
  have e:([(rp,.cells ⟨[bs m.b,.bool m.off,iv n,.bool true]⟩ 144)]:List Zp)=W5 rp { m with cut:=n } n:=by
   have:decide (n≠-1)=true:=Z29 (by omega)
   simp only[W5,this]
  rw[e]
  exact Z3 uZ ⟨rfl,rfl⟩
theorem Z1j(rp:Nat)(m:Pl)(left:Int)(L:Za):HC prog 149 [pt rp 0] (W5 rp m left::L) (fun v L'=>v=.tuple #[]∧L'=W5 rp { m with off:=false,cut:=-1 } left::L):=by
 refine uE func149 ntmps149 ?_
 repeat' (first|refine uN ?_|fail)
 exact ee0 rfl ⟨rfl,rfl⟩
theorem Zc8(rp:Nat)(m:Pl)(left:Int)(at_:Int)(s:List UInt8)(L:Za)(hl:m.b.length≤1000000)(hs:s.length≤1000000)(hc:-1≤m.cut∧m.cut≤9223372036854775807)(hleft:m.cut≠-1→left=m.cut):
  HC prog 289 [pt rp 0,iv at_,bs s] (W5 rp m left::L) (fun v L'=>v=iv (cdN (Z5 m at_ s).2)∧∃left',((Z5 m at_ s).1.cut≠-1→left'=(Z5 m at_ s).1.cut)∧L'=W5 rp (Z5 m at_ s).1 left'::L):=by
 have hk:=Zmp rp m left at_ s.length L hl
 refine uE func289 ntmps289 ?_
 unfold Z5
 have hb:∀e,Wq m at_ s.length=some e→e=2∨e=6:=fun e h=>by
  unfold Wq at h
  split at h
  ·cases h;exact .inl rfl
  ·split at h
   ·cases h;exact .inr rfl
   ·cases h
 cases hm:Wq m at_ s.length with
 | some e=>
  rw[hm]at hk
  have he:=hb e hm
  simp only[cdN]at hk ⊢
  repeat' (first|refine uN ?_|refine uC (hk) ?_|(refine uP ?_ ?_<;>intro h<;>try exact zx)|refine uM ?_|fail)
  ·exact Z3 uZ ⟨rfl,left,hleft,rfl⟩
  all_goals (rename ¬(0:Int)<_=>hz;omega)
 | none=>
  rw[hm]at hk
  simp only[cdN]at hk
  have h0:0≤at_∧at_+s.length≤m.b.length∧m.off=false:=by
   unfold Wq at hm
   split at hm
   ·cases hm
   ·split at hm
    ·cases hm
    ·rename_i h1 h2
     simp at h2
     refine⟨by omega,by omega,h2⟩
  obtain⟨ha,has,hoff⟩:=h0
  have hp1:∀k:Int,(List.take at_.toNat m.b).length+(List.take k.toNat s).length≤9223372036854775807:=fun k=>by simp;omega
  have hp2:∀k:Int,(List.take at_.toNat m.b++List.take k.toNat s).length+(List.drop (at_+k).toNat m.b).length≤9223372036854775807:=fun k=>by simp;omega
  by_cases hcut:m.cut=-1
  ·have Uu:=hp1 s.length
   have Zjv:=hp2 s.length
   simp only[wr_a ha hcut hoff]
   repeat' (first|refine uN ?_|refine uC (hk) ?_|(refine uP ?_ ?_<;>intro h<;>try exact zx)|refine uM ?_|fail)
   ·simp_all
   ·refine Z3 (L':=W5 rp ⟨m.b.take at_.toNat++s.take ((s.length:Int)).toNat++m.b.drop (at_+(s.length:Int)).toNat,m.off,m.cut⟩ left::L) uZ ⟨rfl,left,?_,rfl⟩
    exact hleft
  ·obtain rfl:=hleft hcut
   by_cases hlt:m.cut<s.length
   ·have Uu:=hp1 m.cut
    have Zjv:=hp2 m.cut
    simp only[wr_b ha hc.1 hcut hlt]
    repeat' (first|refine uN ?_|refine uC (hk) ?_|(refine uP ?_ ?_<;>intro h<;>try exact zx)|refine uM ?_|fail)
    have hd:decide (m.cut≠-1)=decide (m.cut-m.cut≠-1):=by rw[Z5i];omega
    rw[hd]
    exact Z3 (L':=W5 rp ⟨m.b.take at_.toNat++s.take m.cut.toNat++m.b.drop (at_+m.cut).toNat,true,m.cut-m.cut⟩ (m.cut-m.cut)::L) uZ ⟨rfl,m.cut-m.cut,fun _=>rfl,rfl⟩
   ·have Uu:=hp1 s.length
    have Zjv:=hp2 s.length
    simp only[wr_c ha hc.1 hcut hlt hoff]
    repeat' (first|refine uN ?_|refine uC (hk) ?_|(refine uP ?_ ?_<;>intro h<;>try exact zx)|refine uM ?_|fail)
    ·simp_all
    ·have hd:decide (m.cut≠-1)=decide (m.cut-s.length≠-1):=by rw[Z5i];omega
     rw[hd]
     exact Z3 (L':=W5 rp ⟨m.b.take at_.toNat++s.take ((s.length:Int)).toNat++m.b.drop (at_+(s.length:Int)).toNat,m.off,m.cut-s.length⟩ (m.cut-s.length)::L) uZ ⟨rfl,m.cut-s.length,fun _=>rfl,rfl⟩
end Go.HL
namespace Go.HL
open Go Go.Proofs Go.Proofs.Tryz
variable[Tasks]
theorem hcHas2{P:Program}{F:Nat}{args:List Value}{b c:Nat}{o q:Obj}{V:Value}(h:∀L,HC P F args ([(b,o),(c,q)]::L) (fun v L'=>v=V∧L'=[(b,o),(c,q)]::L))(hne:(c,q)≠(b,o)){L:Za}(hb:Has L b o)(hc:Has L c q):HC P F args L (fun v L'=>v=V∧L'=L):=by
 obtain⟨l1,l2,e⟩:=Z49 hb
 have hm:(c,q)∈l1++l2:=by
  have:(c,q)∈l1++(b,o)::l2:=e▸hc
  simp only[Z2f,Z2h]at this ⊢
  rcases this with h|h|h
  ·exact .inl h
  ·exact absurd h hne
  ·exact .inr h
 obtain⟨m1,m2,e2⟩:=Z49 hm
 have hp:List.Perm L.flatten ([(b,o),(c,q)]::[m1++m2]).flatten:=by
  rw[e]
  simp only[Z17,Z22,Z2p,Z19,Z2b]
  refine List.perm_middle.trans (.cons _ ?_)
  rw[e2]
  exact Z6y
 exact((h [m1++m2]).wk (.ls (.of_perm hp.symm))).wkQ fun v L' ⟨hv,hL⟩=>⟨L,.ls (hL▸.of_perm hp),hv,rfl⟩
def plB(bp ba:Nat)(m:Pl):Zp:=(bp,.cells ⟨[sl ba 0 m.b.length m.b.length,.bool m.off,iv m.cut]⟩ 181)
def plD(ba:Nat)(m:Pl):Zp:=(ba,.cells ⟨m.b.map u8⟩ 5)
theorem Zzr(bp ba:Nat)(m:Pl)(L:Za)(h:∀p∈[plB bp ba m,plD ba m],Has L p.1 p.2):HC prog 123 [pt bp 0] L (fun v L'=>v=bs m.b∧L'=L):=
 hcHas2 (Zis bp ba m) (by simp) (h (plB bp ba m) (by simp)) (h (plD ba m) (by simp))
def Znq(m:Pl)(d:Int):St:=((Zq m.b).getD d.toNat Zl).s
def Zht(M:Wm)(s d:Int):Option Nat:=match Vc M s with
 | some e=>some e
 | none=>if d<0∨6≤d then some 2 else none
def Zrr(M:Wm)(s d:Int):St:=match Zht M s d with
 | some _=>Uc
 | none=>Znq (Zd M s).pl d
theorem Zh7(b:List UInt8):(Zq b).length=6:=by simp[Zq]
theorem WdIn.cons{L:Za}{G:WdG}{M:Wm}(h:WdIn L G M)(c:List Zp):WdIn (c::L) G M:=by
 obtain⟨h1,⟨a2,c2,e2,r2⟩,⟨a3,c3,e3,r3⟩,⟨a4,c4,e4,r4⟩,h5⟩:=h
 exact⟨Zb h1,⟨a2,c2,e2,r2.cons c⟩,⟨a3,c3,e3,r3.cons c⟩,⟨a4,c4,e4,r4.cons c⟩,h5⟩
attribute [local irreducible] HW HO HQ HD HC QOp Has Upd Yi Gets Vv W6 Xn Zaf Wa Yz Zcl Xy
section
attribute [local irreducible] V3 Yl Xs Zq
theorem Zrs(T:Nat)(E:Nat→Addr)(G:WdG)(M:Wm)(s d:Int)(L:Za)(hG:Er T E [2,6] L)(hI:WdIn L G M)(hl:G.nd.length=M.n.length)(hN:Vc M s=none→Has L (Zo G s).np (Zdm (Zo G s) (Zd M s)))
  (hP:Vc M s=none→216≤(Zd M s).pl.b.length∧(Zd M s).pl.b.length≤512∧∀p∈[plB (Zo G s).bp (Zo G s).ba (Zd M s).pl,plD (Zo G s).ba (Zd M s).pl],Has L p.1 p.2):
  HC prog 68 [pt G.wp 0,iv s,iv d] L (fun v L'=>v=.tuple ⟨[.agg ⟨sc (Zrr M s d)⟩,eV T E (Zht M s d)]⟩∧L'=L):=by
 have kn:=fun L hG hI=>Zae T E G M s L hG hI hl
 unfold Zrr Zht
 rcases Qu (M:=M) s with he|⟨he,h0,h1⟩
 ·simp only[he]at kn ⊢
  refine uE func68 ntmps68 ?_
  repeat' (first|refine uN ?_|refine uC (kn _ (hG.sub.cons _) (hI.cons _)) ?_|(refine uB ?_;intro b)|(refine uP ?_ ?_<;>intro h<;>try exact zx)|fail)
  exact U3 (LS.c (LS.refl _)) ⟨rfl,rfl⟩ (hx:=Xj S (hg:=Zc rfl (Zc rfl (Zc rfl Z6))))
 ·have hN':=hN he
  obtain⟨hp1,hp2,hp3⟩:=hP he
  simp only[he]at kn ⊢
  generalize Zd M s=m at hN' hp1 hp2 hp3 ⊢
  generalize hg:Zo G s=g at hN' hp3 kn
  have hbh:∀c:List Zp,∀p∈[plB g.bp g.ba m.pl,plD g.ba m.pl],Has (c::L) p.1 p.2:=fun c p hp=>Zb (hp3 p hp)
  unfold Zdm at hN'
  have g1:(V3 (Zj1 g m.site) g.bp (Xo g m) m.done)[0+1]?=some (pt g.bp 0):=Vd rfl
  refine uE func68 ntmps68 ?_
  repeat' (first|refine uN ?_|refine uC (kn _ (hG.sub.cons _) (hI.cons _)) ?_|refine uC (Zzr g.bp g.ba m.pl _ (hbh _)) ?_|(refine uB ?_;intro b)|(refine uP ?_ ?_<;>intro h<;>try exact zx)|fail)
  refine gc (Zvq T E m.pl.b _ (hG.sub.cons _) (by omega)) ?_
  simp only[Z2d hp2]
  rintro v L' ⟨bp,ba,rfl,rfl⟩
  repeat' (first|refine uN ?_|refine uC (kn _ (hG.sub.cons _) (hI.cons _)) ?_|(refine uB ?_;intro b)|(refine uP ?_ ?_<;>intro h<;>try exact zx)|fail)
  refine gc (Zl5 T E bp ba _ _ (hG.cons _) (by simp only;omega)) ?_
  have hnl:¬ (m.pl.b.length<216):=by omega
  simp only[Z16 hnl,Z2r,Z3h]
  rintro v L' ⟨bj,rfl,rfl⟩
  repeat' (first|refine uN ?_|refine uC (kn _ (hG.sub.cons _) (hI.cons _)) ?_|(refine uB ?_;intro b)|(refine uP ?_ ?_<;>intro h<;>try exact zx)|fail)
  refine gc (Zoe T E bj bp _ d _ ((hG.sub.cons _).cons _) (Zh7 _)) ?_
  by_cases hd:d<0∨6≤d
  ·simp only[Z2d hd]
   rintro v L' ⟨rfl,rfl⟩
   repeat' (first|refine uN ?_|refine uC (kn _ (hG.sub.cons _) (hI.cons _)) ?_|(refine uB ?_;intro b)|(refine uP ?_ ?_<;>intro h<;>try exact zx)|fail)
   exact U3 (LS.c (LS.c (LS.c (LS.refl _)))) ⟨rfl,rfl⟩ (hx:=Xj S (hg:=Zc rfl (Zc rfl (Zc rfl Z6))))
  ·simp only[Z16 hd]
   rintro v L' ⟨rfl,rfl⟩
   repeat' (first|refine uN ?_|refine uC (kn _ (hG.sub.cons _) (hI.cons _)) ?_|(refine uB ?_;intro b)|(refine uP ?_ ?_<;>intro h<;>try exact zx)|fail)
   exact U3 (LS.c (LS.c (LS.c (LS.refl _)))) ⟨rfl,rfl⟩ (hx:=Xj S (hg:=Zc rfl (Zc rfl (Zc rfl Z6))))
end
end Go.HL
namespace Go.HL
open Go Go.Proofs Go.Proofs.Tryz
variable[Tasks]
def Xm(M:Wm)(s:Int)(m:Nd):Wm:={ M with n:=M.n.set s.toNat m }
def V6(d:Int)(m:Nd):Bool:=decide (Znq m.pl d≠Uc) || (m.leads.getD d.toNat none).isSome
def U6(M:Wm)(s d:Int):Wm × Option Nat:=
 if d<0∨6≤d∨s<0∨M.n.length≤s then (M,some 2) else
 match Zd9 M s with
 | some e=>(M,some e)
 | none=>if M.n.any (V6 d) then (M,some 8) else
  ({ Xm M s { Zd M s with leads:=(Zd M s).leads.set d.toNat (some (Zh s d M.w 0 2)) }with l:=M.l++Xw (Zh s d M.w 0 2) },none)
def Q2(m:Nd)(d:Int):Nd:=match m.site with
 | none=>m
 | some (j,ref)=>{ m with site:=some (j,fun x=>if x=d then true else ref x) }
def Up(M:Wm)(s d:Int):Wm × Option Nat:=
 if d<0∨6≤d then (M,some 2) else
 match Zd9 M s with
 | some e=>(M,some e)
 | none=>(Xm M s (Q2 (Zd M s) d),none)
def Y4(M:Wm)(s:Int)(f:Fr):Wm × List Fr × Bool:=
 ({ Xm M s (Vu s (Zd M s) M.ev f).1 with ev:=(Vu s (Zd M s) M.ev f).2.1 },(Vu s (Zd M s) M.ev f).2.2)
def Zz(m:Ld)(l:List Fr):Ld × List Fr:=l.foldl (fun q f=>((Zw q.1 f).1,q.2++(Zw q.1 f).2)) (m,[])
def Xf(m:Nd)(d promise:Int):Int:=match m.leads.getD d.toNat none with
 | none=>promise
 | some x=>max promise x.seen
def Zm1(k s a:Int):Int:=a+(s-a) % k
def Qd(s d a:Int):Fr:=⟨s,s,d,3,a,false,Uc⟩
def Zd8(M:Wm)(s d promise:Int):Wm × Bool:=
 let a:=Zm1 M.w.length s (Xf (Zd M s) d promise+1)
 if 1048576<a then (M,true) else
 let r:=Y4 M s (Qd s d a)
 if r.2.2=false then (r.1,false) else
 let q:=Zz (Zh s d M.w a 4) r.2.1
 ({ Xm r.1 s { Zd r.1 s with leads:=(Zd r.1 s).leads.set d.toNat (some q.1) }with l:=r.1.l++Xw (Zh s d M.w a 4)++q.2 },true)
def Vx(M:Wm)(s:Int)(d:Int)(st:St):List Fr:=(List.range M.w.length).map fun(i:Nat)=>(⟨s,(i:Int),d,7,st.pr,false,⟨st.ph,0,0⟩⟩:Fr)
def tickD(s:Int)(q:Wm × Bool)(d:Nat):Wm × Bool:=
 if q.2=false then q else
 match (Zd q.1 s).site with
 | none=>(q.1,false)
 | some (j,_)=>
  if Xp j d=Uc then q else
  if (Xp j d).ph=2∨(Xp j d).ph=3 then ({ q.1 with l:=q.1.l++Vx q.1 s d (Xp j d) },true) else
  Zd8 q.1 s d (Xp j d).pr
def Zbn(M:Wm)(s:Int):Wm × Option Nat:=match Zd9 M s with
 | some e=>(M,some e)
 | none=>(((List.range 6).foldl (tickD s) (M,true)).1,none)
def Zlr(f:Fr):Int × Int:=(min f.fr f.to,max f.fr f.to)
def Ww(M:Wm)(k:Int):Wm × Option Nat:=match Zu4 M k with
 | some e=>(M,some e)
 | none=>
  let f:=M.l.getD k.toNat Yb
  let M1:Wm:={ M with l:=M.l.eraseIdx k.toNat }
  if (Zd M1 f.to).site.isNone∨M.br (Zlr f)=true then (M1,none) else
  if f.kd=2∨f.kd=4∨f.kd=6 then
   match (Zd M1 f.to).leads.getD f.dl.toNat none with
   | none=>(M1,none)
   | some x=>({ Xm M1 f.to { Zd M1 f.to with leads:=(Zd M1 f.to).leads.set f.dl.toNat (some (Zw x f).1) }with l:=M1.l++(Zw x f).2 },none)
  else ({ (Y4 M1 f.to f).1 with l:=M1.l++(Y4 M1 f.to f).2.1 },none)
def Zdg(M:Wm)(k:Int):Wm × Option Nat:=match Zu4 M k with
 | some e=>(M,some e)
 | none=>({ M with l:=M.l.eraseIdx k.toNat },none)
def Zam(M:Wm)(k:Int):Wm × Option Nat:=match Zu4 M k with
 | some e=>(M,some e)
 | none=>({ M with l:=M.l.take (k+1).toNat++M.l.getD k.toNat Yb::M.l.drop (k+1).toNat },none)
def Zdh(M:Wm)(a b:Int)(whole:Bool):Wm × Option Nat:=
 if a<0∨M.n.length≤a∨b<0∨M.n.length≤b then (M,some 2) else
 ({ M with br:=fun x=>if x=(min a b,max a b) then (!whole && decide (a≠b)) else M.br x },none)
def Zjr(M:Wm)(s n:Int):Wm × Option Nat:=
 if n<0 then (M,some 2) else
 match Zd9 M s with
 | some e=>(M,some e)
 | none=>(Xm M s { Zd M s with pl:={ (Zd M s).pl with cut:=n } },none)
def Zk8(m:Nd):Nd:=⟨{ m.pl with off:=true },none,Z8,m.done⟩
def Zdf(M:Wm)(s:Int):Wm × Option Nat:=match Zd9 M s with
 | some e=>(M,some e)
 | none=>(Xm M s (Zk8 (Zd M s)),none)
def U8(m:Nd):Nd:=⟨{ m.pl with off:=false,cut:=-1 },some (⟨Zq m.pl.b,false⟩,fun _=>false),m.leads,m.done⟩
def Zzd(M:Wm)(s:Int):Wm × Option Nat:=match Vc M s with
 | some e=>(M,some e)
 | none=>if (Zd M s).site.isSome then (M,some 8) else
  ({ Xm M s { U8 (Zd M s)with done:=(Wh s (U8 (Zd M s)) M.ev).1 }with ev:=(Wh s (U8 (Zd M s)) M.ev).2 },none)
def newNd:Nd:=⟨⟨Yg 512,false,-1⟩,some (⟨Zq (Yg 512),false⟩,fun _=>false),Z8,List.replicate 6 false⟩
def Vg(w:List Int):Wm:=⟨w,List.replicate w.length newNd,fun _=>false,[],[]⟩
def Zo7(g:NdG)(i:Int):Option (Jn × (Int→Bool))→List Zp
 | none=>[]
 | some _=>Zjz g.sp g.bj g.mb i
def Zo6(g:NdG):Option (Jn × (Int→Bool))→List Zp
 | none=>[]
 | some _=>Zkd g.mb g.es g.ck
def Zo5(g:NdG):Option (Jn × (Int→Bool))→List Zp
 | none=>[]
 | some (j,_)=>jC g.bj g.bp j
theorem siB_cut(g:NdG)(i:Int)(s:Option (Jn × (Int→Bool))):siB g i s=Zo7 g i s++(Zo6 g s++Zo5 g s):=by
 rcases s with _|⟨j,r⟩
 ·rfl
 ·simp[siB,Zo7,Zo6,Zo5]
def Wp(G:WdG)(s:Int)(g:NdG)(m:Nd)(X:List Zp)(L:Za):Za:=
 [(G.wp,Zbx G)]::G.ec::Zdl g m::Zo7 g s m.site::Zo6 g m.site::Xs g.bp g.ba m.pl::Zo5 g m.site::Zcx g m::G.lc::G.wc::G.nc::[(G.mb,.map ⟨G.es⟩ G.ck)]::X::L
theorem Zut(G:WdG)(s:Int)(g:NdG)(m:Nd)(X:List Zp)(L:Za):(Zhv G++[Zon g s m++X]++L).flatten=([(G.wp,Zbx G)]::G.wc::G.nc::[(G.mb,.map ⟨G.es⟩ G.ck)]::G.lc::G.ec::Zdl g m::Xs g.bp g.ba m.pl::Zo7 g s m.site::Zo6 g m.site::Zo5 g m.site::Zcx g m::X::L).flatten:=by
 simp only[Zhv,Zon,siB_cut,Z17,Z2l,Z19,Z2b,Z18,Z22,Z2p]
theorem wdOp_ls(G:WdG)(s:Int)(g:NdG)(m:Nd)(X:List Zp)(L:Za):LS (Wp G s g m X L).flatten (Zhv G++[Zon g s m++X]++L).flatten:=by
 rw[Zut,Wp]
 exact uL
theorem Zzi(G:WdG)(s:Int)(g:NdG)(m:Nd)(X:List Zp)(L:Za):LS (Zhv G++[Zon g s m++X]++L).flatten (Wp G s g m X L).flatten:=by
 rw[Zut,Wp]
 exact uL
theorem Ua{s:Int}(h:0≤s):((0+s.toNat:Nat):Int)=s:=by omega
theorem Zta{gs:List NdG}{ms:List Nd}{s:Int}{g:NdG}{m:Nd}(h0:0≤s)(hg:gs[s.toNat]?=some g)(hm:ms[s.toNat]?=some m)(T:Za)(L:Za):List.Perm (T++[Qs gs ms 0]++L).flatten (T++[Zon g s m++V1 gs ms 0 s.toNat]++L).flatten:=by
 have:=Zl1 (i:=0) hg hm
 rw[Ua h0]at this
 simp only[Z2l,Z17,Z22,Z2p]
 exact(this.append_left _).append_right _
theorem Zkx{G:WdG}{M:Wm}{s:Int}(hl:G.nd.length=M.n.length)(h0:0≤s)(h1:s<M.n.length)(L:Za):LS (Wp G s (Zo G s) (Zd M s) (V1 G.nd M.n 0 s.toNat) L).flatten (Xq G M++L).flatten:=by
 have hg:G.nd[s.toNat]?=some (Zo G s):=getD_some (by omega)
 have hm:M.n[s.toNat]?=some (Zd M s):=getD_some (by omega)
 refine LS.trans (wdOp_ls _ _ _ _ _ _) (LS.of_perm ?_)
 exact(Zta h0 hg hm (Zhv G) L).symm
theorem Zm7{G:WdG}{gs:List NdG}{ms:List Nd}{s:Int}{g:NdG}{m:Nd}(h0:0≤s)(h1:s.toNat<gs.length)(h2:s.toNat<ms.length)(L:Za):LS (Zhv G++[Qs (gs.set s.toNat g) (ms.set s.toNat m) 0]++L).flatten (Wp G s g m (V1 gs ms 0 s.toNat) L).flatten:=by
 have hg:(gs.set s.toNat g)[s.toNat]?=some g:=by simp[h1]
 have hm:(ms.set s.toNat m)[s.toNat]?=some m:=by simp[h2]
 refine LS.trans (LS.of_perm (Zta h0 hg hm (Zhv G) L)) ?_
 rw[Zyn]
 exact Zzi _ _ _ _ _ _
theorem Zrp{G:WdG}{M:Wm}{s:Int}(hl:G.nd.length=M.n.length)(h0:0≤s)(h1:s<M.n.length){b:Nat}{o:Obj}(hb:(b,o)∈Zon (Zo G s) s (Zd M s))(L:Za):Has (Qs G.nd M.n 0::L) b o:=by
 have hg:G.nd[s.toNat]?=some (Zo G s):=getD_some (by omega)
 have hm:M.n[s.toNat]?=some (Zd M s):=getD_some (by omega)
 have:=Zl1 (i:=0) hg hm
 rw[Ua h0]at this
 unfold Has
 rw[Z17]
 exact Z2x _ (this.mem_iff.2 (Z2x _ hb))
theorem Zzj{G:WdG}{M:Wm}{s:Int}(hl:G.nd.length=M.n.length)(h0:0≤s)(h1:s<M.n.length)(L:Za):Has (Qs G.nd M.n 0::L) (Zo G s).np (Zdm (Zo G s) (Zd M s)):=
 Zrp hl h0 h1 (by simp[Zon,Zdl]) L
theorem Qe{G:WdG}{M:Wm}(h:WdOk G M){s:Int}(h0:0≤s)(h1:s<M.n.length):NdOk (Zo G s) (Zd M s):=by
 have hl:=h.ndl
 exact h.nd s.toNat _ _ (getD_some (by omega)) (getD_some (by omega))
theorem Uh{M:Wm}(h:WI M){s:Int}(h0:0≤s)(h1:s<M.n.length):NdI M.w s.toNat (Zd M s):=h.nd s.toNat _ (getD_some (by omega))
theorem WdOk.setL{G:WdG}{M:Wm}(h:WdOk G M){lv:Value}{lc:List Zp}{l:List Fr}(hv:Z0 lv l lc):WdOk { G with lv:=lv,lc:=lc } { M with l:=l }:=⟨h.w,h.nodes,h.ndl,h.br,hv,h.ev,h.nd⟩
theorem WdOk.setE{G:WdG}{M:Wm}(h:WdOk G M){ev:Value}{c:List Zp}{l:List Evt}(hv:Vec 81 3 ec ev l c):WdOk { G with ev:=ev,ec:=c } { M with ev:=l }:=⟨h.w,h.nodes,h.ndl,h.br,h.l,hv,h.nd⟩
theorem WdOk.setB{G:WdG}{M:Wm}(h:WdOk G M){es:List MapEntry}{ck:Nat}{f:Int × Int→Bool}(hv:Xy pk es f):WdOk { G with es:=es,ck:=ck } { M with br:=f }:=⟨h.w,h.nodes,h.ndl,hv,h.l,h.ev,h.nd⟩
theorem WdOk.put{G:WdG}{M:Wm}(h:WdOk G M){s:Int}{g:NdG}{m:Nd}(h0:0≤s)(h1:s<M.n.length)(hn:NdOk g m)(hp:g.np=(Zo G s).np):WdOk { G with nd:=G.nd.set s.toNat g } (Xm M s m):=by
 have hl:=h.ndl
 have e:(G.nd.set s.toNat g).map (·.np)=G.nd.map (·.np):=by
  rw[Z4h,hp]
  have hg:G.nd[s.toNat]?=some (Zo G s):=getD_some (by omega)
  refine Z3i fun i=>?_
  rw[Z2z]
  split
  ·rename_i hi
   subst hi
   rw[Z2d (by simp;omega),Z30,hg]
   rfl
  ·rfl
 refine⟨h.w,by simp only[e];exact h.nodes,by simp[Xm,hl],h.br,h.l,h.ev,fun q g1 m1 Uu Zjv=>?_⟩
 simp only[Xm,Z2z]at Uu Zjv
 by_cases hq:s.toNat=q
 ·rw[Z2d hq]at Uu Zjv
  split at Uu
  ·split at Zjv
   ·cases Uu;cases Zjv;exact hn
   ·cases Zjv
  ·cases Uu
 ·rw[Z16 hq]at Uu Zjv
  exact h.nd q g1 m1 Uu Zjv
theorem Zql{G:WdG}{s:Int}{g:NdG}(h0:0≤s)(h1:s<G.nd.length)(hp:g.np=(Zo G s).np):(G.nd.set s.toNat g).map (·.np)=G.nd.map (·.np):=by
 rw[Z4h,hp]
 have hg:G.nd[s.toNat]?=some (Zo G s):=getD_some (by omega)
 refine Z3i fun i=>?_
 rw[Z2z]
 split
 ·rename_i hi
  subst hi
  rw[Z2d (by simp;omega),Z30,hg]
  rfl
 ·rfl
def Zgk(G:WdG)(M':Wm)(L L':Za):Prop:=∃G',G'.wp=G.wp∧G'.nd.map (·.np)=G.nd.map (·.np)∧WdOk G' M'∧L'=Xq G' M'++L
theorem Vr{G:WdG}{M:Wm}(h:WdOk G M)(L:Za):Zgk G M L (Xq G M++L):=⟨G,rfl,rfl,h,rfl⟩
theorem Zyq{G G':WdG}(h:G'.nd.map (·.np)=G.nd.map (·.np)){s:Int}(h0:0≤s)(h1:s<G.nd.length):(Zo G' s).np=(Zo G s).np:=by
 have hl:G'.nd.length=G.nd.length:=by simpa using congrArg List.length h
 have e1:G'.nd[s.toNat]?=some (Zo G' s):=getD_some (by omega)
 have e2:G.nd[s.toNat]?=some (Zo G s):=getD_some (by omega)
 have:=congrArg (fun l=>l[s.toNat]?) h
 simp only[Z30,e1,e2,Z42,Z5u]at this
 exact this
theorem HC.node{F:Nat}{args:List Value}{G:WdG}{M M':Wm}{s:Int}{L:Za}{V:Value→Prop}(h:WdOk G M)(h0:0≤s)(h1:s<M.n.length)
  (k:HC prog F args (Wp G s (Zo G s) (Zd M s) (V1 G.nd M.n 0 s.toNat) L) (fun v L'=>V v∧∃G' M1 g' m',WdOk G' M1∧G'.nd=G.nd∧M1.n=M.n∧G'.wp=G.wp∧NdOk g' m'∧g'.np=(Zo G s).np∧M'=Xm M1 s m'∧L'=Wp G' s g' m' (V1 G.nd M.n 0 s.toNat) L)):
  HC prog F args (Xq G M++L) (fun v L'=>V v∧Zgk G M' L L'):=by
 have hl:=h.ndl
 refine HC.post (HC.sp k (Zkx hl h0 h1 L)) ?_
 rintro v L' ⟨hv,G',M1,g',m',hW,e1,e2,e3,hN,e4,rfl,rfl⟩
 have hnp:g'.np=(Zo G' s).np:=by rw[e4];unfold Zo;rw[e1]
 refine⟨Xq { G' with nd:=G'.nd.set s.toNat g' } (Xm M1 s m')++L,?_,hv,{ G' with nd:=G'.nd.set s.toNat g' },e3,?_,hW.put h0 (by rw[e2];exact h1) hN hnp,rfl⟩
 ·simp only[Xq,Xm,e1,e2]
  exact Zm7 (G:=G') h0 (by omega) (by omega) L
 ·simp only
  rw[← e1]
  exact Zql h0 (by rw[e1];omega) hnp
theorem HC.nodeC{F:Nat}{args:List Value}{G:WdG}{M M':Wm}{s:Int}{L:Za}{V:Value→List Zp→Prop}(h:WdOk G M)(h0:0≤s)(h1:s<M.n.length)
  (k:HC prog F args (Wp G s (Zo G s) (Zd M s) (V1 G.nd M.n 0 s.toNat) L) (fun v L'=>∃c,V v c∧∃G' M1 g' m',WdOk G' M1∧G'.nd=G.nd∧M1.n=M.n∧G'.wp=G.wp∧NdOk g' m'∧g'.np=(Zo G s).np∧M'=Xm M1 s m'∧L'=Wp G' s g' m' (V1 G.nd M.n 0 s.toNat) (c::L))):
  HC prog F args (Xq G M++L) (fun v L'=>∃c,V v c∧Zgk G M' (c::L) L'):=by
 have hl:=h.ndl
 refine HC.post (HC.sp k (Zkx hl h0 h1 L)) ?_
 rintro v L' ⟨c,hv,G',M1,g',m',hW,e1,e2,e3,hN,e4,rfl,rfl⟩
 have hnp:g'.np=(Zo G' s).np:=by rw[e4];unfold Zo;rw[e1]
 refine⟨Xq { G' with nd:=G'.nd.set s.toNat g' } (Xm M1 s m')++(c::L),?_,c,hv,{ G' with nd:=G'.nd.set s.toNat g' },e3,?_,hW.put h0 (by rw[e2];exact h1) hN hnp,rfl⟩
 ·simp only[Xq,Xm,e1,e2]
  exact Zm7 (G:=G') h0 (by omega) (by omega) _
 ·simp only
  rw[← e1]
  exact Zql h0 (by rw[e1];omega) hnp
theorem NdOk.fall{g:NdG}{m:Nd}(h:NdOk g m)(pl:Pl)(dn:List Bool):NdOk g ⟨pl,none,Z8,dn⟩:=by
 refine⟨h.ld,fun d x hx=>?_,fun j ref hs=>by cases hs⟩
 simp only[Z8,Z24]at hx
 split at hx<;>cases hx
theorem NdOk.same{g:NdG}{m:Nd}(h:NdOk g m){j:Jn}{ref:Int→Bool}(hs:m.site=some (j,ref))(pl:Pl)(j':Jn)(dn:List Bool):NdOk g ⟨pl,some (j',ref),m.leads,dn⟩:=
 ⟨h.ld,h.lok,fun j2 r2 e=>by cases e;exact h.map j ref hs⟩
theorem Zg8{G:WdG}{M:Wm}(h:WdOk G M){s:Int}(h0:0≤s)(h1:s<M.n.length){H:Za}(hH:∀b o,(b,o)∈G.nc→Has H b o):NpIn H G.nv M.n.length s (Zo G s).np:=by
 have hl:=h.ndl
 obtain⟨a,cap,hnv,-,hR⟩:=h.nodes.rd Vh
 have hR2:=(hR []).mono (L':=H) fun b o hb=>hH b o (by simpa[Has] using hb)
 obtain⟨b,i,l,F,fr,rfl,hb,hg⟩:=hR2.at1 (j:=s) h0 (by simp;omega)
 refine⟨⟨b,i,l,F,fr,cap,by rw[hnv,Z26,hl],hb,?_⟩,h0,h1⟩
 have e:(G.nd.map (·.np))[s.toNat]'(by simp;omega)=(Zo G s).np:=by
  rw[Z6w]
  unfold Zo
  rw[List.getD,Z2c (by omega)]
  rfl
 rw[e]at hg
 exact hg 0 _ rfl
attribute [local irreducible] HW HO HQ HD HC QOp Has Upd Yi Gets Vv W6 Xn Zaf Wa Yz Zcl Xy
section
attribute [local irreducible] V3 Yl Xs Zu
theorem Zhr(T:Nat)(E:Nat→Addr)(G:WdG)(M:Wm)(s:Int)(f:Fr)(L:Za)(hG:Er T E [2,3,5,6] L)(h:WdOk G M)(hI:WI M)(h0:0≤s)(h1:s<M.n.length)(hs:(Zd M s).site≠none):
  HC prog 75 [pt G.wp 0,iv s,.agg ⟨fc f⟩] (Xq G M++L) (fun v L'=>∃c,(∃fv,Z0 fv (Y4 M s f).2.1 c∧v=.tuple ⟨[fv,.bool (Y4 M s f).2.2]⟩)∧Zgk G (Y4 M s f).1 (c::L) L'):=by
 refine HC.nodeC h h0 h1 ?_
 have hN:=Qe h h0 h1
 have hi:=Uh hI h0 h1
 have hn:=hI.wn
 have hnp:=Zg8 h h0 h1 (H:=Zcx (Zo G s) (Zd M s)::G.lc::G.wc::G.nc::[(G.mb,.map ⟨G.es⟩ G.ck)]::V1 G.nd M.n 0 s.toNat::L) fun b o hb=>Zb (Zb (Zb (Yr hb)))
 unfold Y4 Vu
 generalize hm:Zd M s=m at*
 cases hsi:m.site with
 | none=>exact absurd hsi hs
 | some q=>
  obtain⟨j,ref⟩:=q
  have hsj:=Zhl (id:=s) (ref:=ref) (hi.jn hsi) f
  have hj6:(Zu s ref m.pl j f).2.1.l.length=6:=hsj.1.ji.jn.len
  have kh:=Zux T E G s (Zo G s) m f M.ev M.n.length j ref (Zcx (Zo G s) m::G.lc::G.wc::G.nc::[(G.mb,.map ⟨G.es⟩ G.ck)]::V1 G.nd M.n 0 s.toNat::L) ((((((hG.cons _).cons _).cons _).cons _).cons _).cons _) hnp h.ev hI.evl hN M.w s.toNat hi hsi hj6
  have ew:Wp G s (Zo G s) m (V1 G.nd M.n 0 s.toNat) L=[(G.wp,Zbx G)]::G.ec::Zdl (Zo G s) m::Zjz (Zo G s).sp (Zo G s).bj (Zo G s).mb s::Zkd (Zo G s).mb (Zo G s).es (Zo G s).ck::Xs (Zo G s).bp (Zo G s).ba m.pl::jC (Zo G s).bj (Zo G s).bp j::(Zcx (Zo G s) m::G.lc::G.wc::G.nc::[(G.mb,.map ⟨G.es⟩ G.ck)]::V1 G.nd M.n 0 s.toNat::L):=by
   unfold Wp;rw[hsi];rfl
  rw[ew]
  refine HC.post kh ?_
  intro v L' hq
  unfold HearQ at hq
  simp only
  split at hq
  ·rename_i hoff
   obtain⟨rfl,rfl⟩:=hq
   refine⟨Wp G s (Zo G s) ⟨(Zu s ref m.pl j f).1,none,Z8,m.done⟩ (V1 G.nd M.n 0 s.toNat) ([]::L),?_,[],?_,G,M,Zo G s,_,h,rfl,rfl,rfl,hN.fall _ _,rfl,?_,rfl⟩
   ·simp only[Wp,Zo7,Zo6,Zo5]
    have:Zcx (Zo G s) ⟨(Zu s ref m.pl j f).1,none,Z8,m.done⟩=[]:=by
     unfold Zcx Z8
     have:=hN.ld
     obtain⟨a,b,c,d,e,f,hh⟩:∃a b c d e f,(Zo G s).ld=[a,b,c,d,e,f]:=by
      match (Zo G s).ld,this with
      | [a,b,c,d,e,f],_=>exact⟨_,_,_,_,_,_,rfl⟩
     rw[hh];rfl
    rw[this]
    exact uL
   ·rw[Z2d hoff]
    exact⟨_,Zt,rfl⟩
   ·rw[Z2d hoff];rfl
  ·rename_i hoff
   obtain⟨fv,c,evv,c2,hfv,hev,rfl,rfl⟩:=hq
   refine⟨Wp { G with ev:=evv,ec:=c2 } s (Zo G s) ⟨(Zu s ref m.pl j f).1,some ((Zu s ref m.pl j f).2.1,ref),m.leads,(Wh s ⟨(Zu s ref m.pl j f).1,some ((Zu s ref m.pl j f).2.1,ref),m.leads,m.done⟩ M.ev).1⟩ (V1 G.nd M.n 0 s.toNat) (c::L),?_,c,?_,{ G with ev:=evv,ec:=c2 },_,Zo G s,_,h.setE hev,rfl,rfl,rfl,hN.same hsi _ _ _,rfl,?_,rfl⟩
   ·simp only[Wp,Zo7,Zo6,Zo5]
    exact uL
   ·rw[Z16 hoff]
    exact⟨_,hfv,rfl⟩
   ·rw[Z16 hoff];rfl
end
end Go.HL
namespace Go.HL
open Go Go.Proofs Go.Proofs.Tryz
variable[Tasks]
theorem Zec{G:WdG}{M:Wm}(h:WdOk G M)(L:Za):WdIn (Xq G M++L) G M:=wdIn h fun b o hb=>by
 unfold Has Xq at*
 rw[Z18,Z2l]
 exact Z2x _ hb
theorem Zro{G:WdG}{M:Wm}(h:WdOk G M)(s:Int)(g:NdG)(m:Nd)(X:List Zp)(L:Za):WdIn (Wp G s g m X L) G M:=wdIn h fun b o hb=>by
 unfold Has at*
 refine(Zzi G s g m X L).mem ?_
 rw[Z18,Z2l]
 exact Z2x _ hb
theorem Zkw{G:WdG}{M:Wm}{s:Int}(hl:G.nd.length=M.n.length)(h0:0≤s)(h1:s<M.n.length)(L:Za):Has (Xq G M++L) (Zo G s).np (Zdm (Zo G s) (Zd M s)):=by
 have:=Zzj hl h0 h1 L
 unfold Has Xq at*
 rw[Z18,Z2l]
 exact Z2q _ this
theorem wdOp_has{G:WdG}{s:Int}{g:NdG}{m:Nd}{X:List Zp}{L:Za}:Has (Wp G s g m X L) g.np (Zdm g m):=by
 unfold Wp Zdl
 exact Zb (Zb Zk)
def upV(G:WdG)(M:Wm)(s:Int):Value:=match Vc M s with
 | some _=>.pointer none
 | none=>pt (Zo G s).np 0
theorem Zze{M:Wm}{s:Int}(h:Zd9 M s=none):Vc M s=none∧0≤s∧s<M.n.length∧∃j ref,(Zd M s).site=some (j,ref):=by
 unfold Zd9 at h
 rcases Qu (M:=M) s with he|⟨he,h0,h1⟩
 ·rw[he]at h;cases h
 ·rw[he]at h
  refine⟨he,h0,h1,?_⟩
  cases hs:(Zd M s).site with
  | none=>rw[hs]at h;cases h
  | some q=>exact⟨q.1,q.2,rfl⟩
theorem Zxj{G:WdG}{M:Wm}{s:Int}(h:Vc M s=none):upV G M s=pt (Zo G s).np 0:=by unfold upV;rw[h]
theorem Zg1{g:NdG}{m:Nd}{d:Nat}{o:Option Ld}{q:Nat × Value × List Zp}(h1:m.leads[d]?=some o)(h2:g.ld[d]?=some q):(Xo g m)[d]?=some (Zh4 o q):=by
 unfold Xo
 rw[Z5a,h1,h2]
theorem ldBs_mem{g:NdG}{m:Nd}{d:Nat}{x:Ld}{q:Nat × Value × List Zp}(h1:m.leads[d]?=some (some x))(h2:g.ld[d]?=some q){y:Zp}(hy:y∈Zax q.1 q.2.1 q.2.2 x):y∈Zcx g m:=by
 unfold Zcx
 refine Z6x.2 ⟨Zax q.1 q.2.1 q.2.2 x,?_,hy⟩
 refine Z67.2 ⟨d,?_⟩
 rw[Z5a,h1,h2]
 rfl
attribute [local irreducible] HW HO HQ HD HC QOp Has Upd Yi Gets Vv W6 Xn Zaf Wa Yz Zcl Xy
section
attribute [local irreducible] V3 Yl Xs Zu Wb
theorem lseenH(lp:Nat)(wv:Value)(m:Ld)(L:Za)(ht:m.told.length=7)(h:Has L lp (.cells ⟨Wb wv m⟩ 193)):HC prog 191 [pt lp 0] L (fun v L'=>v=iv m.seen∧L'=L):=hcHas (fun L=>Zs6 lp wv [] m L ht) h
theorem Znc(T:Nat)(E:Nat→Addr)(G:WdG)(M:Wm)(s:Int)(L:Za)(hG:Er T E [2,6] L)(hI:WdIn L G M)(hl:G.nd.length=M.n.length)(hN:Vc M s=none→Has L (Zo G s).np (Zdm (Zo G s) (Zd M s))):
  HC prog 66 [pt G.wp 0,iv s] L (fun v L'=>v=.tuple ⟨[upV G M s,eV T E (Zd9 M s)]⟩∧L'=L):=by
 have k:=Z11 T E G M s L hG hI hl hN
 unfold upV
 rcases Qu (M:=M) s with he|⟨he,h0,h1⟩
 ·have:Zd9 M s=some 2:=by unfold Zd9;rw[he]
  simp only[he,this]at k ⊢
  exact k
 ·simp only[he]at k ⊢
  exact k
end
theorem Zp3{T:Nat}{E:Nat→Addr}{ns:List Nat}{L:Za}(h:Er T E ns L)(G:WdG)(s:Int)(g:NdG)(m:Nd)(X:List Zp):Er T E ns (Wp G s g m X L):=
 ((((((((((((h.cons _).cons _).cons _).cons _).cons _).cons _).cons _).cons _).cons _).cons _).cons _).cons _).cons _
theorem Vn{T:Nat}{E:Nat→Addr}{ns:List Nat}{L:Za}(h:Er T E ns L)(G:WdG)(M:Wm):Er T E ns (Xq G M++L):=
 ((((((h.cons _).cons _).cons _).cons _).cons _).cons _).cons _
theorem Zbw{M:Wm}{s:Int}:(∃e,Zd9 M s=some e)∨(Zd9 M s=none∧Vc M s=none∧0≤s∧s<M.n.length∧∃j ref,(Zd M s).site=some (j,ref)):=by
 cases h:Zd9 M s with
 | some e=>exact .inl ⟨e,rfl⟩
 | none=>exact .inr ⟨rfl,Zze h⟩
section
attribute [local irreducible] V3 Yl Xs Zu Wb
theorem Zlm{T:Nat}{E:Nat→Addr}{G:WdG}{M:Wm}(s:Int){L:Za}(hG:Er T E [2,6] L)(hW:WdOk G M):HC prog 66 [pt G.wp 0,iv s] (Xq G M++L) (fun v L'=>v=.tuple ⟨[upV G M s,eV T E (Zd9 M s)]⟩∧L'=Xq G M++L):=
 Znc T E G M s _ (Vn hG G M) (Zec hW L) hW.ndl (fun hn=>by
  obtain⟨h0,h1⟩:=Za6 hn
  exact Zkw hW.ndl h0 h1 L)
theorem Zv1{T:Nat}{E:Nat→Addr}{G:WdG}{M:Wm}{s:Int}{L:Za}(hG:Er T E [2,6] L)(hW:WdOk G M)(hu:Zd9 M s=none)(X:List Zp):HC prog 66 [pt G.wp 0,iv s] (Wp G s (Zo G s) (Zd M s) X L) (fun v L'=>v=.tuple ⟨[pt (Zo G s).np 0,.nilIface]⟩∧L'=Wp G s (Zo G s) (Zd M s) X L):=by
 have:=Znc T E G M s _ (Zp3 hG G s (Zo G s) (Zd M s) X) (Zro hW s _ _ X L) hW.ndl (fun hn=>wdOp_has)
 rw[hu,Zxj (Zze hu).1]at this
 exact this
theorem Zn5(T:Nat)(E:Nat→Addr)(G:WdG)(M:Wm)(s d:Int)(L:Za)(hG:Er T E [2,6] L)(hW:WdOk G M)(hM:WI M):
  HC prog 20 [pt G.wp 0,iv s,iv d] (Xq G M++L) (fun v L'=>v=eV T E (Up M s d).2∧Zgk G (Up M s d).1 L L'):=by
 unfold Up
 have hself:=Vr hW L
 by_cases hd:d<0∨6≤d
 ·simp only[Z2d hd]
  have hG':=Vn hG G M
  generalize Xq G M++L=H at*
  refine uE func20 ntmps20 ?_
  repeat' (first|refine uN ?_|(refine uP ?_ ?_<;>intro h<;>try exact zx)|fail)
  all_goals exact Us rfl ⟨rfl,hself⟩
 simp only[Z16 hd]
 rcases Zbw (M:=M) (s:=s)with⟨e,he⟩|⟨he,hn,h0,h1,j,ref,hs⟩
 ·have ku:=Zlm s hG hW
  have hG':=Vn hG G M
  generalize Xq G M++L=H at*
  simp only[he]at ku ⊢
  refine uE func20 ntmps20 ?_
  repeat' (first|refine uN ?_|refine uC (ku) ?_|(refine uP ?_ ?_<;>intro h<;>try exact zx)|fail)
  exact Us rfl ⟨rfl,hself⟩
 ·simp only[he]
  refine HC.node hW h0 h1 ?_
  have ku:=Zv1 (X:=V1 G.nd M.n 0 s.toNat) hG hW he
  have hok:=Qe hW h0 h1
  have hni:=Uh hM h0 h1
  generalize V1 G.nd M.n 0 s.toNat=X at*
  generalize Zd M s=m at*
  generalize Zo G s=g at*
  obtain⟨pl,site,leads,done⟩:=m
  simp only at hs
  subst hs
  have hF:=hok.map j ref rfl
  have hj:=(hni.jn rfl).ji.jn
  have g0:(V3 (pt g.sp 0) g.bp (Xo g ⟨pl,some (j,ref),leads,done⟩) done)[0+0]?=some (pt g.sp 0):=Vd rfl
  have kr:=fun L hG=>Zqw T E g.sp g.bj g.mb g.bp s g.es g.ck ref j d L hG hj.len hF
  simp only[Z16 hd]at kr
  simp only[Wp,Zdl,Zdm,Zj1,Zo7,Zo6,Zo5]at ku ⊢
  refine uE func20 ntmps20 ?_
  repeat' (first|refine uN ?_|refine uC (ku) ?_|(refine uP ?_ ?_<;>intro h<;>try exact zx)|fail)
  refine fo 6 ?_
  refine fo 5 ?_
  refine fo 5 ?_
  refine gc (kr _ ?_) ?_
  ·exact(((((((((hG.sub.cons _).cons _).cons _).cons _).cons _).cons _).cons _).cons _).cons _).cons _
  rintro v L' ⟨es',ck',hF',rfl,rfl⟩
  repeat' (first|refine uN ?_|refine uC (ku) ?_|(refine uP ?_ ?_<;>intro h<;>try exact zx)|fail)
  refine Z3 (L':=Wp G s { g with es:=es',ck:=ck' } (Q2 ⟨pl,some (j,ref),leads,done⟩ d) X L) ?_ ⟨rfl,G,M,{ g with es:=es',ck:=ck' },Q2 ⟨pl,some (j,ref),leads,done⟩ d,hW,rfl,rfl,rfl,⟨hok.ld,hok.lok,fun j2 r2 e=>by cases e;exact hF'⟩,rfl,rfl,rfl⟩
  simp only[Wp,Zdl,Zdm,Zj1,Zo7,Zo6,Zo5,Q2]
  exact uL
theorem Zxo(T:Nat)(E:Nat→Addr)(G:WdG)(M:Wm)(s n:Int)(L:Za)(hG:Er T E [2,6] L)(hW:WdOk G M)(hM:WI M):
  HC prog 91 [pt G.wp 0,iv s,iv n] (Xq G M++L) (fun v L'=>v=eV T E (Zjr M s n).2∧Zgk G (Zjr M s n).1 L L'):=by
 unfold Zjr
 have hself:=Vr hW L
 by_cases hd:n<0
 ·simp only[Z2d hd]
  have hG':=Vn hG G M
  generalize Xq G M++L=H at*
  refine uE func91 ntmps91 ?_
  repeat' (first|refine uN ?_|(refine uP ?_ ?_<;>intro h<;>try exact zx)|fail)
  all_goals exact Us rfl ⟨rfl,hself⟩
 simp only[Z16 hd]
 rcases Zbw (M:=M) (s:=s)with⟨e,he⟩|⟨he,hn,h0,h1,j,ref,hs⟩
 ·have ku:=Zlm s hG hW
  have hG':=Vn hG G M
  generalize Xq G M++L=H at*
  simp only[he]at ku ⊢
  refine uE func91 ntmps91 ?_
  repeat' (first|refine uN ?_|refine uC (ku) ?_|(refine uP ?_ ?_<;>intro h<;>try exact zx)|fail)
  exact Us rfl ⟨rfl,hself⟩
 ·simp only[he]
  refine HC.node hW h0 h1 ?_
  have ku:=Zv1 (X:=V1 G.nd M.n 0 s.toNat) hG hW he
  have hok:=Qe hW h0 h1
  have hni:=Uh hM h0 h1
  generalize V1 G.nd M.n 0 s.toNat=X at*
  generalize hmm:Zd M s=m at*
  generalize Zo G s=g at*
  obtain⟨pl,site,leads,done⟩:=m
  simp only at hs
  subst hs
  have hoff:pl.off=false:=(hni.up j ref rfl).2
  have g1:(V3 (pt g.sp 0) g.bp (Xo g ⟨pl,some (j,ref),leads,done⟩) done)[0+1]?=some (pt g.bp 0):=Vd rfl
  have kr:=fun L hG=>Zzs T E g.bp g.ba pl n L hG
  simp only[Z16 hd,hoff,Z2r,Z3h]at kr
  simp only[Wp,Zdl,Zdm,Zj1,Zo7,Zo6,Zo5]at ku ⊢
  refine uE func91 ntmps91 ?_
  repeat' (first|refine uN ?_|refine uC (ku) ?_|(refine uP ?_ ?_<;>intro h<;>try exact zx)|fail)
  refine fo 5 ?_
  refine gc (kr _ ?_) ?_
  ·exact((((((((((((hG.sub.cons _).cons _).cons _).cons _).cons _).cons _).cons _).cons _).cons _).cons _).cons _).cons _)
  rintro v L' ⟨rfl,rfl⟩
  repeat' (first|refine uN ?_|refine uC (ku) ?_|(refine uP ?_ ?_<;>intro h<;>try exact zx)|fail)
  refine Z3 (L':=Wp G s g ⟨{ pl with cut:=n },some (j,ref),leads,done⟩ X L) ?_ ⟨rfl,G,M,g,⟨{ pl with cut:=n },some (j,ref),leads,done⟩,hW,rfl,rfl,rfl,hok.same rfl _ _ _,rfl,rfl,rfl⟩
  have e1:Zcx g ⟨{ pl with cut:=n },some (j,ref),leads,done⟩=Zcx g ⟨pl,some (j,ref),leads,done⟩:=rfl
  have e2:Xo g ⟨{ pl with cut:=n },some (j,ref),leads,done⟩=Xo g ⟨pl,some (j,ref),leads,done⟩:=rfl
  simp only[Wp,Zdl,Zdm,Zj1,Zo7,Zo6,Zo5]
  rw[e1,e2]
  simp only[hoff]
  exact uL
theorem Zuv(T:Nat)(E:Nat→Addr)(G:WdG)(M:Wm)(s:Int)(L:Za)(hG:Er T E [2,6] L)(hW:WdOk G M)(hM:WI M):
  HC prog 37 [pt G.wp 0,iv s] (Xq G M++L) (fun v L'=>v=eV T E (Zdf M s).2∧Zgk G (Zdf M s).1 L L'):=by
 unfold Zdf
 have hself:=Vr hW L
 rcases Zbw (M:=M) (s:=s)with⟨e,he⟩|⟨he,hn,h0,h1,j,ref,hs⟩
 ·have ku:=Zlm s hG hW
  have hG':=Vn hG G M
  generalize Xq G M++L=H at*
  simp only[he]at ku ⊢
  refine uE func37 ntmps37 ?_
  repeat' (first|refine uN ?_|refine uC (ku) ?_|(refine uP ?_ ?_<;>intro h<;>try exact zx)|fail)
  exact Us rfl ⟨rfl,hself⟩
 ·simp only[he]
  refine HC.node hW h0 h1 ?_
  have ku:=Zv1 (X:=V1 G.nd M.n 0 s.toNat) hG hW he
  have hok:=Qe hW h0 h1
  have hni:=Uh hM h0 h1
  generalize V1 G.nd M.n 0 s.toNat=X at*
  generalize hmm:Zd M s=m at*
  generalize Zo G s=g at*
  obtain⟨pl,site,leads,done⟩:=m
  simp only at hs
  subst hs
  have g1:(V3 (pt g.sp 0) g.bp (Xo g ⟨pl,some (j,ref),leads,done⟩) done)[0+1]?=some (pt g.bp 0):=Vd rfl
  have kr:=fun L=>Z0w g.bp g.ba pl L
  have hlv:(Xo g ⟨pl,some (j,ref),leads,done⟩).length=6:=by simp[Xo,hni.leads,hok.ld]
  have kf:=fun L=>Zjo g ⟨pl,some (j,ref),leads,done⟩ L hlv hok.ld
  simp only[Wp,Zdl,Zdm,Zj1,Zo7,Zo6,Zo5]at ku kf ⊢
  refine uE func37 ntmps37 ?_
  repeat' (first|refine uN ?_|refine uC (ku) ?_|(refine uP ?_ ?_<;>intro h<;>try exact zx)|fail)
  refine fo 5 ?_
  refine gc (kr _) ?_
  rintro v L' ⟨rfl,rfl⟩
  repeat' (first|refine uN ?_|refine uC (ku) ?_|(refine uP ?_ ?_<;>intro h<;>try exact zx)|fail)
  refine fo 3 ?_
  refine gc (kf _) ?_
  rintro v L' ⟨rfl,rfl⟩
  repeat' (first|refine uN ?_|refine uC (ku) ?_|(refine uP ?_ ?_<;>intro h<;>try exact zx)|fail)
  refine Z3 (L':=Wp G s g (Zk8 ⟨pl,some (j,ref),leads,done⟩) X L) ?_ ⟨rfl,G,M,g,Zk8 ⟨pl,some (j,ref),leads,done⟩,hW,rfl,rfl,rfl,hok.fall _ _,rfl,rfl,rfl⟩
  simp only[Wp,Zdl,Zdm,Zj1,Zo7,Zo6,Zo5,Zk8]
  have:Zcx g ⟨{ pl with off:=true },none,Z8,done⟩=[]:=by
   unfold Zcx Z8
   have:=hok.ld
   obtain⟨a,b,c,d,e,f,hh⟩:∃a b c d e f,g.ld=[a,b,c,d,e,f]:=by
    match g.ld,this with
    | [a,b,c,d,e,f],_=>exact⟨_,_,_,_,_,_,rfl⟩
   rw[hh];rfl
  rw[this]
  exact uL
end
section
attribute [local irreducible] V3 Yl Xs Zu Wb Zq
theorem Zxw(T:Nat)(E:Nat→Addr)(G:WdG)(M:Wm)(s:Int)(L:Za)(hG:Er T E [2,3,6,8] L)(hW:WdOk G M)(hM:WI M):
  HC prog 38 [pt G.wp 0,iv s] (Xq G M++L) (fun v L'=>v=eV T E (Zzd M s).2∧Zgk G (Zzd M s).1 L L'):=by
 unfold Zzd
 have hself:=Vr hW L
 have hnl:=hM.wn
 have hwl:=hM.wl
 rcases Qu (M:=M) s with he|⟨he,h0,h1⟩
 ·have kn:=Zae T E G M s _ (Vn hG.sub G M) (Zec hW L) hW.ndl
  generalize Xq G M++L=H at*
  simp only[he]at kn ⊢
  refine uE func38 ntmps38 ?_
  repeat' (first|refine uN ?_|refine uC (kn) ?_|(refine uP ?_ ?_<;>intro h<;>try exact zx)|fail)
  exact Us rfl ⟨rfl,hself⟩
 ·simp only[he]
  cases hs:(Zd M s).site with
  | some q=>
   have kn:=Zae T E G M s _ (Vn hG.sub G M) (Zec hW L) hW.ndl
   have hN:=Zkw hW.ndl h0 h1 L
   have hG':=Vn hG G M
   generalize Xq G M++L=H at*
   simp only[he,Z5r,Z4d]at kn ⊢
   unfold Zdm at hN
   rw[hs]at hN
   obtain⟨q1,q2⟩:=q
   have g0:(V3 (pt (Zo G s).sp 0) (Zo G s).bp (Xo (Zo G s) (Zd M s)) (Zd M s).done)[0+0]?=some (pt (Zo G s).sp 0):=Vd rfl
   refine uE func38 ntmps38 ?_
   repeat' (first|refine uN ?_|refine uC (kn) ?_|(refine uP ?_ ?_<;>intro h<;>try exact zx)|fail)
   exact Us rfl ⟨rfl,hself⟩
  | none=>
   simp only[Z5q,Z2r,Z3h]
   refine HC.node hW h0 h1 ?_
   have kn:=Zae T E G M s _ (Zp3 hG.sub G s (Zo G s) (Zd M s) (V1 G.nd M.n 0 s.toNat)) (Zro hW s _ _ _ L) hW.ndl
   have hok:=Qe hW h0 h1
   have hni:=Uh hM h0 h1
   have hnp:=fun H hH=>Zg8 hW h0 h1 (H:=H) hH
   simp only[he]at kn
   generalize V1 G.nd M.n 0 s.toNat=X at*
   generalize hmm:Zd M s=m at*
   generalize Zo G s=g at*
   obtain⟨pl,site,leads,done⟩:=m
   simp only at hs
   subst hs
   have hpl:pl.b.length=512:=hni.b512
   have g0:∀v,(V3 v g.bp (Xo g ⟨pl,none,leads,done⟩) done)[0+0]?=some v:=fun v=>Vd rfl
   have g1:∀v,(V3 v g.bp (Xo g ⟨pl,none,leads,done⟩) done)[0+1]?=some (pt g.bp 0):=fun v=>Vd rfl
   have g0n:=g0 (.pointer none)
   have g1n:=g1 (.pointer none)
   have p0:=fun v=>Zs8 (sv:=.pointer none) (sv':=v) (bp:=g.bp) (lv:=Xo g ⟨pl,none,leads,done⟩) (dn:=done)
   have kon:=fun L=>on_calls g.bp g.ba pl L
   have kne:=fun L hG=>Zmy T E s g.bp g.ba { pl with off:=false,cut:=-1 } L hG (by simp only;omega)
   have hse:Zo8 s { pl with off:=false,cut:=-1 }=none:=by
    unfold Zo8
    rw[Z16 (by omega)]
    simp only
    rw[Z16 (by omega)]
    simp
   simp only[hse]at kne
   have hlv:(Xo g ⟨pl,none,leads,done⟩).length=6:=by simp[Xo,hni.leads,hok.ld]
   simp only[Wp,Zdl,Zdm,Zj1,Zo7,Zo6,Zo5]at kn ⊢
   refine uE func38 ntmps38 ?_
   repeat' (first|refine uN ?_|refine uC (kn) ?_|(refine uP ?_ ?_<;>intro h<;>try exact zx)|fail)
   refine fo 5 ?_
   refine gc (kon _) ?_
   rintro v L' ⟨rfl,rfl⟩
   repeat' (first|refine uN ?_|refine uC (kn) ?_|(refine uP ?_ ?_<;>intro h<;>try exact zx)|fail)
   refine gc (kne _ ?_) ?_
   ·exact((((((((((((hG.sub.cons _).cons _).cons _).cons _).cons _).cons _).cons _).cons _).cons _).cons _).cons _).cons _)
   rintro v L' ⟨sp,bj,mb,rfl,rfl⟩
   have p0n:=p0 (pt sp 0)
   repeat' (first|refine uN ?_|refine uC (kn) ?_|(refine uP ?_ ?_<;>intro h<;>try exact zx)|fail)
   have kw:=fun L hp hs=>Zjp G s { g with sp:=sp,bj:=bj,mb:=mb,es:=[],ck:=0 } (U8 ⟨pl,none,leads,done⟩) M.ev M.n.length L hW.ev hM.evl hp hni.done hlv hs
   have g0s:=g0 (pt sp 0)
   refine fo 6 ?_
   refine fo 6 ?_
   refine fo 6 ?_
   refine gc (kw _ ?_ ?_) ?_
   ·exact hnp _ (fun b o hb=>Zb (Zb (Zb (Zb (Zb (Zb (Zb (Zb (Zb (Zb (Yr hb)))))))))))
   ·intro j r hjr
    cases hjr
    refine⟨⟨Zk,?_⟩,Zh7 _⟩
    exact Zb (Zb (Zb Zk))
   rintro v L' ⟨evv,c,hev,rfl,rfl⟩
   repeat' (first|refine uN ?_|refine uC (kn) ?_|(refine uP ?_ ?_<;>intro h<;>try exact zx)|fail)
   refine Z3 (L':=Wp { G with ev:=evv,ec:=c } s { g with sp:=sp,bj:=bj,mb:=mb,es:=[],ck:=0 } { U8 ⟨pl,none,leads,done⟩with done:=(Wh s (U8 ⟨pl,none,leads,done⟩) M.ev).1 } X L) ?_ ⟨rfl,{ G with ev:=evv,ec:=c },{ M with ev:=(Wh s (U8 ⟨pl,none,leads,done⟩) M.ev).2 },{ g with sp:=sp,bj:=bj,mb:=mb,es:=[],ck:=0 },{ U8 ⟨pl,none,leads,done⟩with done:=(Wh s (U8 ⟨pl,none,leads,done⟩) M.ev).1 },hW.setE hev,rfl,rfl,rfl,⟨hok.ld,hok.lok,fun j2 r2 e=>by cases e;exact Zlw⟩,rfl,rfl,rfl⟩
   simp only[Wp,U8,Zo7,Zo6,Zo5]
   exact uL
end
theorem Zkv{G G':WdG}{M':Wm}{L:Za}(h:WdOk G' M')(e1:G'.wp=G.wp)(e2:G'.nd=G.nd):Zgk G M' L (Xq G' M'++L):=⟨G',e1,by rw[e2],h,rfl⟩
section
attribute [local irreducible] V3 Yl Xs Zu Wb Zq
theorem Zuy(T:Nat)(E:Nat→Addr)(G:WdG)(M:Wm)(a b:Int)(whole:Bool)(L:Za)(hG:Er T E [2] L)(hW:WdOk G M):
  HC prog 36 [pt G.wp 0,iv a,iv b,.bool whole] (Xq G M++L) (fun v L'=>v=eV T E (Zdh M a b whole).2∧Zgk G (Zdh M a b whole).1 L L'):=by
 unfold Zdh
 have hself:=Vr hW L
 have hI:=Zec hW L
 obtain⟨an,capn,hnv,hnr⟩:=hI.ns
 by_cases h:a<0∨M.n.length≤a∨b<0∨M.n.length≤b
 ·simp only[Z2d h]
  have hG':=Vn hG G M
  have hw:=hI.wp
  unfold Zbx at hw
  rw[hnv]at hw
  generalize Xq G M++L=H at*
  refine uE func36 ntmps36 ?_
  repeat' (first|refine uN ?_|(refine uP ?_ ?_<;>intro h<;>try exact zx)|fail)
  all_goals exact Us rfl ⟨rfl,hself⟩
 ·simp only[Z16 h]
  have hF:=hW.br
  have key:∀es' ck' x,Xy pk es' (fun y=>if y=(min a b,max a b) then x else M.br y)→Zgk G { M with br:=fun y=>if y=(min a b,max a b) then x else M.br y } L (Xq { G with es:=es',ck:=ck' } { M with br:=fun y=>if y=(min a b,max a b) then x else M.br y }++L):=fun es' ck' x hF'=>Zkv (hW.setB hF') rfl rfl
  simp only[Xq,Zhv,Zbx,Z19,Z2b,hnv]at key ⊢
  cases whole with
  | true=>
   simp only[Bool.not_true,Bool.false_and]
   refine uE func36 ntmps36 ?_
   repeat' (first|refine uN ?_|(refine uP ?_ ?_<;>intro h<;>try exact zx)|fail)
   all_goals refine fo 3 ?_
   all_goals refine wmP (v:=false) hF (fun es' ck' hF'=>?_)
   all_goals repeat' (first|refine uN ?_|(refine uP ?_ ?_<;>intro h<;>try exact zx)|fail)
   all_goals exact Z3 uL ⟨rfl,key es' ck' _ hF'⟩
  | false=>
   simp only[Bool.not_false,Bool.true_and]
   refine uE func36 ntmps36 ?_
   repeat' (first|refine uN ?_|(refine uP ?_ ?_<;>intro h<;>try exact zx)|fail)
   all_goals refine fo 3 ?_
   all_goals refine wmP (v:=decide (a≠b)) hF (fun es' ck' hF'=>?_)
   all_goals repeat' (first|refine uN ?_|(refine uP ?_ ?_<;>intro h<;>try exact zx)|fail)
   all_goals exact Z3 uL ⟨rfl,key es' ck' _ hF'⟩
theorem Zuw(T:Nat)(E:Nat→Addr)(G:WdG)(M:Wm)(k:Int)(L:Za)(hG:Er T E [4] L)(hW:WdOk G M)(hl:M.l.length≤100000000):
  HC prog 35 [pt G.wp 0,iv k] (Xq G M++L) (fun v L'=>v=eV T E (Zdg M k).2∧Zgk G (Zdg M k).1 L L'):=by
 unfold Zdg
 have hself:=Vr hW L
 have hI:=Zec hW L
 have ka:=Ze0 T E G M k _ (Vn hG G M) hI
 unfold Zu4 at*
 by_cases h:k<0∨M.l.length≤k
 ·simp only[Z2d h]at ka ⊢
  generalize Xq G M++L=H at*
  refine uE func35 ntmps35 ?_
  repeat' (first|refine uN ?_|refine uC (ka) ?_|(refine uP ?_ ?_<;>intro h<;>try exact zx)|fail)
  all_goals exact Us rfl ⟨rfl,hself⟩
 ·simp only[Z16 h]at ka ⊢
  have key:∀lv lc,Z0 lv (M.l.eraseIdx k.toNat) lc→Zgk G { M with l:=M.l.eraseIdx k.toNat } L (Xq { G with lv:=lv,lc:=lc } { M with l:=M.l.eraseIdx k.toNat }++L):=fun lv lc hv=>Zkv (hW.setL hv) rfl rfl
  have kd:=fun L=>Zgr G.lv M.l G.lc k (k+1) L hW.l hl (by omega) (by omega) rfl
  simp only[Xq,Zhv,Zbx,Z19,Z2b]at key ka ⊢
  obtain⟨a5,cap5,he5,-,-⟩:=hW.l.rd Zi
  rw[he5]at ka kd ⊢
  refine uE func35 ntmps35 ?_
  repeat' (first|refine uN ?_|refine uC (ka) ?_|(refine uP ?_ ?_<;>intro h<;>try exact zx)|fail)
  refine fo 4 ?_
  refine gc (kd _) ?_
  rintro v L' ⟨c',hv',rfl⟩
  obtain⟨a6,cap6,rfl,-,-⟩:=hv'.rd Zi
  repeat' (first|refine uN ?_|refine uC (ka) ?_|(refine uP ?_ ?_<;>intro h<;>try exact zx)|fail)
  exact Z3 uL ⟨rfl,key _ c' hv'⟩
theorem Zxr(G:WdG)(M:Wm)(L:Za)(hI:WdIn L G M):HC prog 157 [pt G.wp 0] L (fun v L'=>v=iv M.l.length∧L'=L):=by
 have hw:=hI.wp
 unfold Zbx at hw
 obtain⟨a,cap,hlv,-⟩:=hI.ls
 rw[hlv]at hw
 refine uE func157 ntmps157 ?_
 repeat' (first|refine uN ?_|fail)
 exact Us rfl ⟨rfl,rfl⟩
theorem Zn4(G:WdG)(M:Wm)(L:Za)(hW:WdOk G M)(hl:M.ev.length≤100000000):
  HC prog 27 [pt G.wp 0] (Xq G M++L) (fun v L'=>∃c,Vec 81 3 ec v M.ev c∧L'=c::(Xq G M++L)):=by
 have kd:=fun L=>Zpr G.ev M.ev G.ec L hW.ev hl
 obtain⟨a5,cap5,he5,-,-⟩:=hW.ev.rd Vt
 simp only[Xq,Zhv,Zbx,Z19,Z2b]
 rw[he5]at kd ⊢
 refine uE func27 ntmps27 ?_
 repeat' (first|refine uN ?_|fail)
 refine fo 5 ?_
 refine gc (kd _) ?_
 rintro v L' ⟨c',hv',rfl⟩
 repeat' (first|refine uN ?_|fail)
 exact Z3 uL ⟨c',hv',rfl⟩
theorem Zrt(T:Nat)(E:Nat→Addr)(G:WdG)(M:Wm)(k:Int)(L:Za)(hG:Er T E [4] L)(hW:WdOk G M)(hl:M.l.length≤99999999):
  HC prog 88 [pt G.wp 0,iv k] (Xq G M++L) (fun v L'=>v=eV T E (Zam M k).2∧Zgk G (Zam M k).1 L L'):=by
 unfold Zam
 have hself:=Vr hW L
 have hI:=Zec hW L
 have ka:=Ze0 T E G M k _ (Vn hG G M) hI
 unfold Zu4 at*
 by_cases h:k<0∨M.l.length≤k
 ·simp only[Z2d h]at ka ⊢
  generalize Xq G M++L=H at*
  refine uE func88 ntmps88 ?_
  repeat' (first|refine uN ?_|refine uC (ka) ?_|(refine uB ?_;intro b)|(refine uP ?_ ?_<;>intro h<;>try exact zx)|refine uM ?_|fail)
  all_goals exact Us rfl ⟨rfl,hself⟩
 ·simp only[Z16 h]at ka ⊢
  have key:∀lv lc,Z0 lv (M.l.take (k+1).toNat++M.l.getD k.toNat Yb::M.l.drop (k+1).toNat) lc→Zgk G { M with l:=M.l.take (k+1).toNat++M.l.getD k.toNat Yb::M.l.drop (k+1).toNat } L (Xq { G with lv:=lv,lc:=lc } { M with l:=M.l.take (k+1).toNat++M.l.getD k.toNat Yb::M.l.drop (k+1).toNat }++L):=fun lv lc hv=>Zkv (hW.setL hv) rfl rfl
  have kd:=fun eb L hne=>Zp8 G.lv M.l G.lc (k+1) (M.l.getD k.toNat Yb) eb L hW.l (by omega) (by omega) (by omega) hne
  obtain⟨a5,cap5,he5,-,hR5⟩:=hW.l.rd Zi
  have hR6:=(hR5 []).mono (L':=Xq G M++L) fun b o hb=>by
   simp only[Has,Xq,Zhv,Z17,Z22,Z2p,Z19,Z2b]at hb ⊢
   simp[hb]
  obtain⟨b,i,l,F,fr,e6,hb,hg⟩:=hR6.at (j:=k) (by omega) (by omega)
  have hgk:M.l[k.toNat]'(by omega)=M.l.getD k.toNat Yb:=by
   rw[List.getD,Z2c (by omega)];rfl
  rw[hgk]at hg
  rw[e6]at he5
  simp only[Xq,Zhv,Zbx,Z19,Z2b]at key ka hb ⊢
  rw[he5]at ka kd hb ⊢
  refine uE func88 ntmps88 ?_
  repeat' (first|refine uN ?_|refine uC (ka) ?_|(refine uB ?_;intro b)|(refine uP ?_ ?_<;>intro h<;>try exact zx)|refine uG ?_|fail)
  refine fo 5 ?_
  refine gc (HC.nodup (Zek func152 rfl (by kernel_rfl)) fun hnd=>kd b _ ?_) ?_
  ·intro q o hq hqe
   subst hqe
   rw[Z17,Z20,Z4o]at hnd
   exact hnd.2.2 _ (Z2v.2 ⟨_,hq,rfl⟩) _ (by simp) rfl
  rintro v L' ⟨c',hv',rfl⟩
  obtain⟨a6,cap6,rfl,-,-⟩:=hv'.rd Zi
  repeat' (first|refine uN ?_|refine uC (ka) ?_|(refine uB ?_;intro b)|(refine uP ?_ ?_<;>intro h<;>try exact zx)|refine uG ?_|fail)
  exact Z3 uL ⟨rfl,key _ c' hv'⟩
end
end Go.HL
namespace Go.HL
open Go Go.Proofs Go.Proofs.Tryz
variable[Tasks]
theorem mx_mem{l:List Int}(h:l≠[]):mx l∈l:=by
 have key:∀(r:List Int) (x:Int),r.foldl max x∈x::r:=by
  intro r
  induction r with
  | nil=>intro x;simp
  | cons y r ih=>
   intro x
   have:=ih (max x y)
   simp only[Z3y,Z2h]at this ⊢
   rcases this with h|h
   ·rw[h]
    by_cases hc:x≤y
    ·right;left;omega
    ·left;omega
   ·exact .inr (.inr h)
 cases l with
 | nil=>exact absurd rfl h
 | cons x r=>exact key r x
def quor(ws:List Int)(s:Nat):Bool:=decide (Zby ws (2 ^ ws.length-1)<2*Zby ws s)
theorem en_ok{ws:List Int}(hc:Ys ws=none){s:Nat}(h:s<2 ^ ws.length):Xz ws (s:Int)=(quor ws s,none):=by
 have e:Zcf ws (s:Int)=(Zby ws s,none):=by
  unfold Zcf
  rw[hc]
  simp only[Z2w]
  rw[Z16]
  have:=blen_le.2 h
  omega
 unfold Xz
 rw[e,all_none hc]
 rfl
def cdN':Option Nat→Int
 | none=>0
 | some c=>c
def Zb5:List Int→Int
 | []=>0
 | x::r=>x+Zb5 r
theorem Z0j(l:List Int)(y:Int):Zb5 (l++[y])=Zb5 l+y:=by
 induction l with
 | nil=>simp[Zb5]
 | cons x r ih=>simp only[Z19,Zb5,ih];omega
theorem Zyg:∀(l:List Int),(∀x∈l,0≤x∧x≤1000)→0≤Zb5 l∧Zb5 l≤1000*l.length
 | [],_=>by simp[Zb5]
 | x::r,h=>by
  have h1:=Zyg r (fun y hy=>h y (by simp[hy]))
  have h2:=h x (by simp)
  simp only[Zb5,Z2y];omega
theorem Zoj:∀(l:List Int),(∀x∈l,0≤x)→(Zb5 l=0↔∀x∈l,x=0)
 | [],_=>by simp[Zb5]
 | x::r,h=>by
  have h1:=Zoj r (fun y hy=>h y (by simp[hy]))
  have h2:=h x (by simp)
  have h3:0≤Zb5 r:=by
   have:∀(l:List Int),(∀x∈l,0≤x)→0≤Zb5 l:=by
    intro l
    induction l with
    | nil=>intro _;simp[Zb5]
    | cons y l ih=>intro hl;have:=ih (fun z hz=>hl z (by simp[hz]));have:=hl y (by simp);simp only[Zb5];omega
   exact this r (fun y hy=>h y (by simp[hy]))
  simp only[Zb5,List.forall_mem_cons,← h1]
  omega
theorem mx_ge:∀(l:List Int) (x:Int),x∈l→x≤mx l:=by
 intro l
 have key:∀(r:List Int) (m:Int),m≤r.foldl max m∧∀y∈r,y≤r.foldl max m:=by
  intro r
  induction r with
  | nil=>intro m;simp
  | cons z r ih=>
   intro m
   obtain⟨h1,h2⟩:=ih (max m z)
   simp only[Z3y,Z2h]
   refine⟨by omega,fun y hy=>?_⟩
   rcases hy with rfl|hy
   ·omega
   ·exact h2 y hy
 cases l with
 | nil=>intro x hx;cases hx
 | cons z r=>
  intro x hx
  obtain⟨h1,h2⟩:=key r z
  simp only[Z2h]at hx
  rcases hx with rfl|hx
  ·exact h1
  ·exact h2 x hx
theorem mx_zero{l:List Int}(h:l≠[])(h0:∀x∈l,0≤x):mx l=0↔Zb5 l=0:=by
 rw[Zoj l h0]
 constructor
 ·intro e x hx
  have:=mx_ge l x hx
  have:=h0 x hx
  omega
 ·intro e
  exact e _ (mx_mem h)
theorem bit_div(n k:Nat):((n:Int) / 2 ^ k % 2=1)↔n / 2 ^ k % 2=1:=by
 have:((n:Int) / 2 ^ k)=((n / 2 ^ k:Nat):Int):=by simp
 rw[this];omega
attribute [local irreducible] HW HO HQ HD HC QOp Has Upd Yi Gets Vv W6 Xn Zaf Wa Yz Zcl Xy
theorem Zgi(a:Option Addr)(cap:Nat)(xs:List Int)(L:Za)(hR:Rd ic 1 L a xs):HC prog 15 [.slice a xs.length cap] L (fun v L'=>v=iv (cdN' (Ys xs))∧L'=L):=by
 refine uE func15 ntmps15 ?_
 repeat' (first|refine uN ?_|(refine uP ?_ ?_<;>intro h<;>try exact zx)|fail)
 ·exact Z3 (LS.refl _) ⟨by unfold Ys;rw[Z2d (by omega)],rfl⟩
 ·exact Z3 (LS.refl _) ⟨by unfold Ys;rw[Z2d (by omega)],rfl⟩
 refine Zm (σ:=Nat × Int) (fun q=>[(0,.slice a xs.length cap),(3,iv q.2),(4,iv q.1)]) (fun _=>L) (fun q=>q.1≤xs.length∧Zb5 (xs.take q.1)=q.2∧∀x∈xs.take q.1,0≤x∧x≤1000) (fun q=>xs.length-q.1) (0,0) uS (Z15 _) ⟨by simp,by simp[Zb5],by simp⟩ ?_
 rintro⟨i,s⟩ ⟨hi,hs,hx⟩
 simp only at hi hs hx ⊢
 have hlen:¬ (xs.length<1∨7<xs.length):=by omega
 have hb:=Zyg _ hx
 rw[hs,Z3g]at hb
 by_cases hlt:i<xs.length
 ·obtain⟨b,ia,l,E,fr,rfl,hb',hg'⟩:=hR.at1 (j:=(i:Int)) (by omega) (by omega)
  have hbad:Zpm xs[i]=true→xs.any Zpm=true:=fun h=>Z4l.2 ⟨_,Z3c hlt,h⟩
  have hsn:Zb5 (xs.take (i+1))=s+xs[i]:=by rw[Z2n hlt,Z0j,hs]
  have he:xs[(i:Int).toNat]'(by omega)=xs[i]:=rfl
  rw[he]at hg'
  generalize hxi:xs[i]=x at*
  repeat' (first|refine uN ?_|(refine uP ?_ ?_<;>intro h<;>try exact zx)|fail)
  ·exact Z3 (LS.refl _) ⟨by unfold Ys;rw[Z16 hlen,Z2d (hbad (by simp[Zpm];omega))],rfl⟩
  ·exact Z3 (LS.refl _) ⟨by unfold Ys;rw[Z16 hlen,Z2d (hbad (by simp[Zpm];omega))],rfl⟩
  ·refine Zn (i+1,s+x) uS (Z15 _) ⟨by simp only;omega,hsn,?_⟩ (by simp only;omega)
   simp only
   rw[Z2n hlt,hxi]
   intro y hy
   simp only[Z2f,Z3j]at hy
   rcases hy with hy|rfl
   ·exact hx y hy
   ·omega
 ·have e:xs.take i=xs:=Z3d (by omega)
  rw[e]at hs hx
  have hne:xs≠[]:=fun e=>hlen (by simp[e])
  have hz:=mx_zero hne (fun x h=>(hx x h).1)
  rw[hs]at hz
  have hnb:¬ xs.any Zpm=true:=by
   simp only[Z5z,Z4y,Zpm,Z3r]
   intro x h
   have:=hx x h
   omega
  repeat' (first|refine uN ?_|(refine uP ?_ ?_<;>intro h<;>try exact zx)|fail)
  ·exact Z3 (LS.refl _) ⟨by unfold Ys;rw[Z16 hlen,Z16 hnb,Z2d (hz.2 h)],rfl⟩
  ·exact Z3 (LS.refl _) ⟨by unfold Ys;rw[Z16 hlen,Z16 hnb,Z16 (fun e=>h (hz.1 e))],rfl⟩
theorem Zwv(n k:Nat)(hk:k≤30)(hn:(n:Int)≤9223372036854775807)(L:Za):HC prog 19 [iv n,iv k] L (fun v L'=>v=.bool (decide (n / 2 ^ k % 2=1))∧L'=L):=by
 have hp:=Zmd hk
 have hq:0≤(n:Int) / 2 ^ k∧(n:Int) / 2 ^ k≤9223372036854775807:=by
  have:=Zpn n k hn
  simp only[Ze6]at this
  omega
 refine uE func19 ntmps19 ?_
 repeat' (first|refine uN ?_|refine uC (Zci k hk _) ?_|fail)
 refine Z3 (LS.refl _) ⟨congrArg Value.bool (Z5i.2 (bit_div n k)),rfl⟩
theorem Zmj(a:Option Addr)(cap:Nat)(xs:List Int)(n:Nat)(L:Za)(hR:Rd ic 1 L a xs)(h7:xs.length≤7)(h3:∀x∈xs,0≤x∧x≤1000)(hn:(n:Int)≤9223372036854775807):HC prog 97 [.slice a xs.length cap,iv n] L (fun v L'=>v=iv (Zby xs n)∧L'=L):=by
 refine uE func97 ntmps97 ?_
 repeat' (first|refine uN ?_|(refine uP ?_ ?_<;>intro h<;>try exact zx)|fail)
 refine Zm (σ:=Nat × Int) (fun q=>[(0,.slice a xs.length cap),(1,iv n),(5,iv q.2),(6,iv q.1)]) (fun _=>L) (fun q=>q.1≤xs.length∧Zby (xs.take q.1) n=q.2) (fun q=>xs.length-q.1) (0,0) uS (Z15 _) ⟨by simp,by simp[Zby]⟩ ?_
 rintro⟨i,s⟩ ⟨hi,hs⟩
 simp only at hi hs ⊢
 have hb:=Ze3 (xs.take i) n (fun x hx=>h3 x (Z4x hx))
 rw[hs,Z3g]at hb
 by_cases hlt:i<xs.length
 ·obtain⟨b,ia,l,E,fr,rfl,hb',hg'⟩:=hR.at1 (j:=(i:Int)) (by omega) (by omega)
  have hx:=h3 xs[i] (Z3c hlt)
  have hsn:=Zip xs[i] (xs.take i) n
  rw[← Z2n hlt,Z3g,Z41 (by omega),hs]at hsn
  have he:xs[(i:Int).toNat]'(by omega)=xs[i]:=rfl
  rw[he]at hg'
  generalize hxi:xs[i]=x at*
  repeat' (first|refine uN ?_|refine X7 (qC (Zwv n i (by omega) hn _)) ?_|(refine uP ?_ ?_<;>intro h<;>try exact zx)|fail)
  ·refine Zn (i+1,s+x) uS (Z15 _) ⟨by simp only;omega,?_⟩ (by simp only;omega)
   simp only
   rw[hsn,Z2d h]
  ·refine Zn (i+1,s) uS (Z15 _) ⟨by simp only;omega,?_⟩ (by simp only;omega)
   simp only
   rw[hsn,Z16 h];omega
 ·have e:xs.take i=xs:=Z3d (by omega)
  rw[e]at hs
  repeat' (first|refine uN ?_|(refine uP ?_ ?_<;>intro h<;>try exact zx)|fail)
  exact Z3 (LS.refl _) ⟨by rw[hs],rfl⟩
theorem Zfm(a:Option Addr)(cap:Nat)(xs:List Int)(n:Nat)(L:Za)(hR:Rd ic 1 L a xs)(h7:xs.length≤7)(h3:∀x∈xs,0≤x∧x≤1000)(hn:(n:Int)≤9223372036854775807):HC prog 33 [.slice a xs.length cap,iv n] L (fun v L'=>v=.bool (quor xs n)∧L'=L):=by
 have k1:=Zmj a cap xs n L hR h7 h3 hn
 have hp:=Zmd (n:=xs.length) (by omega)
 have e:((2:Int) ^ xs.length-1)=((2 ^ xs.length-1:Nat):Int):=by
  have:=Z3p xs.length
  rw[Int.ofNat_sub (by omega)];simp
 have k2:=Zmj a cap xs (2 ^ xs.length-1) L hR h7 h3 (by omega)
 rw[← e]at k2
 have b1:=Ze3 xs n h3
 have b2:=Ze3 xs (2 ^ xs.length-1) h3
 refine uE func33 ntmps33 ?_
 repeat' (first|refine uN ?_|refine uC (k1) ?_|refine uC (k2) ?_|refine X7 (qC (Zci xs.length (by omega) _)) ?_|fail)
 refine Z3 (LS.refl _) ⟨congrArg Value.bool ?_,rfl⟩
 unfold quor
 exact Z5i.2 (by omega)
theorem Zhn{α:Type}{xs ys:List α}{i:Nat}(h:i<xs.length)(h':i<ys.length):xs.take (i+1)=ys.take (i+1)↔xs.take i=ys.take i∧xs[i]=ys[i]:=by
 rw[Z2n h,Z2n h']
 constructor
 ·intro e
  obtain⟨e1,e2⟩:=List.append_inj e (by simp;omega)
  exact⟨e1,by simpa using e2⟩
 ·rintro⟨e1,e2⟩
  rw[e1,e2]
theorem Zmv(a a2:Option Addr)(cap cap2:Nat)(xs ys:List Int)(L:Za)(hR:Rd ic 1 L a xs)(hR2:Rd ic 1 L a2 ys)(hl:xs.length≤1000000):
  HC prog 43 [.slice a xs.length cap,.slice a2 ys.length cap2] L (fun v L'=>v=.bool (decide (xs=ys))∧L'=L):=by
 refine uE func43 ntmps43 ?_
 repeat' (first|refine uN ?_|(refine uP ?_ ?_<;>intro h<;>try exact zx)|refine uM ?_|fail)
 ·exact Z3 (LS.refl _) ⟨by rw[Z3t];intro e;subst e;exact absurd rfl ‹_›,rfl⟩
 refine Zm (σ:=Nat) (fun i=>[(0,.slice a xs.length cap),(1,.slice a2 ys.length cap2),(5,iv i)]) (fun _=>L) (fun i=>i≤xs.length∧xs.take i=ys.take i) (fun i=>xs.length-i) 0 uS (Z15 _) ⟨by omega,by simp⟩ ?_
 rintro i ⟨h1,h2⟩
 by_cases hlt:i<xs.length
 ·obtain⟨b,ia,l,E,fr,rfl,hb,hg⟩:=hR.at1 (j:=(i:Int)) (by omega) (by omega)
  obtain⟨b2,ia2,l2,E2,fr2,rfl,hb2,hg2⟩:=hR2.at1 (j:=(i:Int)) (by omega) (by omega)
  repeat' (first|refine uN ?_|(refine uP ?_ ?_<;>intro h<;>try exact zx)|refine uM ?_|fail)
  ·refine Z3 (LS.refl _) ⟨?_,rfl⟩
   rw[Z3t]
   intro e
   subst e
   exact h rfl
  ·refine Zn (i+1) uS (Z15 _) ⟨by omega,?_⟩ (by omega)
   rw[Zhn hlt (by omega)]
   exact⟨h2,by simpa using h⟩
 ·repeat' (first|refine uN ?_|(refine uP ?_ ?_<;>intro h<;>try exact zx)|refine uM ?_|fail)
  refine Z3 (LS.refl _) ⟨?_,rfl⟩
  rw[Z29]
  have e1:xs.take i=xs:=Z3d (by omega)
  have e2:ys.take i=ys:=Z3d (by omega)
  rw[← e1,h2,e2]
structure LdIs(ws:List Int)(id deal att:Int)(m:Ld):Prop where
 hid:m.id=id
 hdl:m.deal=deal
 hat:m.att=att
 hw:m.w=ws
 htl:m.told.length=7
 hhd:m.heard<2 ^ ws.length
theorem LdIs.ok{w:List Int}{id deal att:Int}{m m':Ld}{wv:Value}{wc:List Zp}(h:LdIs w id deal att m)(h':LdIs w id deal att m')(ho:LdOk wv wc m):LdOk wv wc m':=ho.of (by rw[h.hw,h'.hw]) (by rw[h.htl,h'.htl])
theorem LdIs.done{w:List Int}{id deal att:Int}{m:Ld}(h:LdIs w id deal att m):LdIs w id deal att (V5 m):=⟨h.hid,h.hdl,h.hat,h.hw,h.htl,h.hhd⟩
theorem LdIs.prep{w:List Int}{id deal att:Int}{m:Ld}(h:LdIs w id deal att m)(p:Int):LdIs w id deal att (Qn m p):=⟨h.hid,h.hdl,h.hat,h.hw,h.htl,Z3p _⟩
theorem LdIs.m1{w:List Int}{id deal att:Int}{m:Ld}(h:LdIs w id deal att m)(f:Fr):LdIs w id deal att (Zdi m f):=by
 unfold Zdi;split
 ·exact h
 ·exact⟨h.hid,h.hdl,h.hat,h.hw,h.htl,h.hhd⟩
theorem LdIs.m2{w:List Int}{id deal att:Int}{m:Ld}(h:LdIs w id deal att m)(f:Fr)(hf:X4 m f):LdIs w id deal att (Zbj m f):=by
 have h1:=h.m1 f
 refine⟨h1.hid,h1.hdl,h1.hat,h1.hw,?_,?_⟩
 ·simp[Zbj,h.htl]
 ·have:=hf.2.2.2.2.2.1
  have:=hf.2.2.2.2.1
  rw[h.hw] at*
  exact Zgz h.hhd (by omega)
theorem LdIs.count{w:List Int}{id deal att:Int}{m:Ld}(h:LdIs w id deal att m):LdIs w id deal att (Ya m).1:=by
 unfold Ya
 split
 ·exact h.prep _
 split
 ·exact h
 split
 ·exact h.done
 split
 ·exact h.done
 ·exact h.prep _
theorem LdIs.hear{w:List Int}{id deal att:Int}{m:Ld}(h:LdIs w id deal att m)(f:Fr):LdIs w id deal att (Zw m f).1:=by
 unfold Zw
 split
 ·exact h
 rename_i hw
 have hf:X4 m f:=by
  by_cases hf:X4 m f
  ·exact hf
  ·exact absurd (.inr hf) hw
 split
 ·unfold noM
  have h1:=h.m1 f
  split
  ·exact h1.done
  ·exact⟨h1.hid,h1.hdl,h1.hat,h1.hw,h1.htl,h1.hhd⟩
 ·exact(h.m2 f hf).count
theorem Zky(m:Ld)(k p:Int):(Zdo m k p).length≤m.w.length:=U1 (Zbo m k p) (Zgn m k p) m.w.length
theorem Zb3(m:Ld)(f:Fr):(Zw m f).2.length≤m.w.length:=by
 have e1:(Zdi m f).w=m.w:=by unfold Zdi;split<;>rfl
 have e2:(Zbj m f).w=m.w:=e1
 unfold Zw
 split
 ·simp
 split
 ·unfold noM
  split
  ·have:=Zky (V5 (Zdi m f)) 7 3
   rw[show (V5 (Zdi m f)).w=m.w from e1]at this
   exact this
  ·simp
 ·unfold Ya
  have hp:∀p,(Znv (Zbj m f) p).2.length≤m.w.length:=fun p=>by
   have:=Zky (Qn (Zbj m f) p) 5 p
   rw[show (Qn (Zbj m f) p).w=m.w from e1]at this
   exact this
  have hd:∀p,(Zdr (Zbj m f) p).2.length≤m.w.length:=fun p=>by
   have:=Zky (V5 (Zbj m f)) 7 p
   rw[show (V5 (Zbj m f)).w=m.w from e1]at this
   exact this
  split
  ·exact hp _
  split
  ·simp
  split
  ·exact hd _
  split
  ·exact hd _
  ·exact hp _
end Go.HL
