/- Texts laid into one, without what the claim does not use. Conditions: none. -/
import Derived.Test.YtkookaogdkdegaaGreatDoorMSpD
set_option linter.unusedVariables false
set_option linter.unusedSimpArgs false
/-! WgB -/
section
namespace Go.HL
open Go Go.Proofs
set_option maxHeartbeats 2000000 attribute [local irreducible] HW HO HQ HD HC QOp Has Upd Zt Gets Z8 Z0 Zo Xm Zz Zj Xp Zy

def Za4:List Int→Nat→Int
 | [],_=>0
 | x::r,s=>(if s % 2=1 then x else 0)+Za4 r (s / 2)
theorem Zg4 (y:Int) : ∀ (l:List Int) (s:Nat),Za4 (l++[y]) s=Za4 l s+(if s / 2 ^ l.length % 2=1 then y else 0)
 | [],s=>by simp [Za4]
 | x::r,s=>by
  simp only [List.cons_append,Za4,Zg4 y r (s / 2),List.length_cons,Nat.div_div_eq_div_mul,Nat.pow_succ,Nat.mul_comm 2]
  omega
theorem Zdx : ∀ (l:List Int) (s:Nat),(∀ x∈l,0≤x∧x≤1000)→0≤Za4 l s∧Za4 l s≤1000*l.length
 | [],s,_=>by simp [Za4]
 | x::r,s,h=>by
  have h1:=Zdx r (s / 2) (fun y hy=>h y (by simp [hy]))
  have h2:=h x (by simp)
  simp only [Za4,List.length_cons]
  split<;>omega
def Zbj (ws:List Int) (set:Int):Int × Option Nat:=
 match Ym ws with
 | some e=>(0,some e)
 | none=>if set<0∨ws.length<Q0 set.toNat then (0,some 2) else (Za4 ws set.toNat,none)
theorem Vn {ws:List Int} (h:Ym ws=none):1≤ws.length∧ws.length≤7∧(∀ x∈ws,0≤x∧x≤1000)∧mx ws≠0:=by
 unfold Ym at h
 split at h
 ·cases h
 ·split at h
  ·cases h
  ·split at h
   ·cases h
   ·rename_i h1 h2 h3
    refine ⟨by omega,by omega,fun x hx=>?_,h3⟩
    simp only [Bool.not_eq_true,List.any_eq_false,Znu,decide_eq_true_eq] at h2
    have:=h2 x hx
    omega
theorem Zv6 (n k:Nat):(((((n:Int) / 2 ^ k).toNat &&& Int.toNat 1:Nat):Int)=1)↔n / 2 ^ k % 2=1:=by
 have e:((n:Int) / 2 ^ k).toNat=n / 2 ^ k:=by
  have:((n:Int) / 2 ^ k)=((n / 2 ^ k:Nat):Int):=by simp
  rw [this];rfl
 rw [e,show Int.toNat 1=1 from rfl,Nat.and_one_is_mod]
 omega
theorem Znw (n k:Nat) (h:(n:Int)≤9223372036854775807):0≤(n:Int) / 2 ^ k∧(n:Int) / 2 ^ k≤Zck .i64∧(0:Int)≤1∧(1:Int)≤Zck .i64:=by
 have:((n:Int) / 2 ^ k)=((n / 2 ^ k:Nat):Int):=by simp
 have h2:n / 2 ^ k≤n:=Nat.div_le_self _ _
 rw [this]
 clear this
 generalize n / 2 ^ k=q at h2 ⊢
 simp only [Zck]
 omega
theorem Zni (T:Nat) (E:Nat→Addr) (a:Option Addr) (cap:Nat) (xs:List Int) (set:Int) (L:Zb) (hG:Er T E [2,3,4] L) (hR:Rd ic 1 L a xs) (hl:xs.length≤1000000) (hs:set≤9223372036854775807) :
  HC Tryz.prog 217 [.slice a xs.length cap,iv set] L (fun v L'=>v = .tuple ⟨[iv (Zbj xs set).1,eV T E (Zbj xs set).2]⟩∧L'=L):=by
 refine Za (fun _ _=>Tryz.call217 _ _) Tryz.func217 rfl Tryz.ntmps217 (Nat.le_of_ble_eq_true rfl) ?_;simp only [Zd,Nat.reduceAdd]
 have hk:=Zcp T E a cap xs L hG hR hl
 cases hc:Ym xs with
 | some e =>
  rw [hc] at hk
  repeat' (first|refine uN ?_|refine Z2 S ?_|refine uC (hk) ?_|(refine uP ?_ ?_<;>(intro h;((try simp only [zs,zq,reduceCtorEq] at h);try exact zx)))|fail)
  (refine Wb rfl rfl rfl ?_ ⟨?_,rfl⟩;(next=>(repeat (first|exact List.Sublist.refl _|apply List.Sublist.cons))))
  simp [Zbj,hc]
 | none =>
  rw [hc] at hk
  obtain ⟨c1,c2,c3,c4⟩:=Vn hc
  by_cases h0:0≤set
  ·obtain ⟨n,rfl⟩:=Int.eq_ofNat_of_zero_le h0
   have hb:=Zyk n (by omega) L
   repeat' (first|refine uN ?_|refine Z2 S ?_|refine uC (hk) ?_|refine uC (hb) ?_|(refine uP ?_ ?_<;>(intro h;((try simp only [zs,zq,reduceCtorEq] at h);try exact zx)))|fail)
   ·(refine Wb rfl rfl rfl ?_ ⟨?_,rfl⟩;(next=>(repeat (first|exact List.Sublist.refl _|apply List.Sublist.cons))))
    simp only [Zbj,hc]
    rw [if_pos (by simp;omega)]
    rfl
   ·refine Zp (σ:=Int × Int) (fun s=>[(1,iv n),(7,iv s.2),(26,.slice a xs.length cap),(27,iv xs.length),(28,iv s.1)]) (fun _=>L) (fun s=>0≤s.1∧s.1≤xs.length∧Za4 (xs.take s.1.toNat) n=s.2) (fun s=>(xs.length-s.1).toNat) (0,0) uS (List.Sublist.refl _) ⟨by simp,by simp,by simp [Za4]⟩ ?_
    rintro ⟨j,m⟩ ⟨j0,j1,hm⟩
    simp only at j0 j1 hm
    by_cases hlt:j<xs.length
    ·obtain ⟨b,i,l,E',fr,rfl,hb',hg'⟩:=hR.at1 j0 hlt
     have hm2:=Zdx (xs.take j.toNat) n (fun x hx=>c3 x (List.mem_of_mem_take hx))
     have hx:=c3 (xs[j.toNat]'(by omega)) (List.getElem_mem _)
     have hn:=Zg4 (xs[j.toNat]'(by omega)) (xs.take j.toNat) n
     rw [← Uu j0 hlt] at hn
     rw [hm] at hm2 hn
     rw [List.length_take] at hm2 hn
     rw [Nat.min_eq_left (by omega)] at hn
     have hb1:=Znw n j.toNat hs
     have hb2:=Zv6 n j.toNat
     repeat' (first|refine uN ?_|refine Z2 S ?_|(refine uP ?_ ?_<;>(intro h;((try simp only [zs,zq,reduceCtorEq] at h);try exact zx)))|fail)
     all_goals (refine Zq (j+1,_) uS (List.Sublist.refl _) ⟨by show 0≤j+1;omega,by show j+1≤(xs.length:Int);omega,?_⟩ (by show (xs.length-(j+1)).toNat<(xs.length-j).toNat;omega))
     all_goals (show Za4 (xs.take (j+1).toNat) n=_;rw [hn])
     ·rw [if_pos (hb2.1 (by assumption))]
     ·rw [if_neg (fun e=>by have:=hb2.2 e;contradiction)];omega
    ·repeat' (first|refine uN ?_|refine Z2 S ?_|(refine uP ?_ ?_<;>(intro h;((try simp only [zs,zq,reduceCtorEq] at h);try exact zx)))|fail)
     (refine Wb rfl rfl rfl ?_ ⟨?_,rfl⟩;(next=>(repeat (first|exact List.Sublist.refl _|apply List.Sublist.cons))))
     rw [Qy hlt] at hm
     simp only [Zbj,hc]
     rw [if_neg (by simp;omega),← hm]
     rfl
  ·repeat' (first|refine uN ?_|refine Z2 S ?_|refine uC (hk) ?_|(refine uP ?_ ?_<;>(intro h;((try simp only [zs,zq,reduceCtorEq] at h);try exact zx)))|fail)
   (refine Wb rfl rfl rfl ?_ ⟨?_,rfl⟩;(next=>(repeat (first|exact List.Sublist.refl _|apply List.Sublist.cons))))
   simp only [Zbj,hc]
   rw [if_pos (by omega)]
   rfl
theorem Zin {k:Nat} (h:k≤30):0≤(k:Int)∧(k:Int)≤64 ∧ -9223372036854775808≤(1:Int)*2 ^ (k:Int).toNat∧(1:Int)*2 ^ (k:Int).toNat≤9223372036854775807:=by
 have h1:(2:Nat) ^ k≤2 ^ 30:=Nat.pow_le_pow_right (by decide) h
 have e:(1:Int)*2 ^ (k:Int).toNat=((2 ^ k:Nat):Int):=by simp
 rw [e]
 have h2:=Nat.two_pow_pos k
 generalize (2:Nat) ^ k=q at *
 omega
def Xv (ws:List Int) (set:Int):Bool × Option Nat:=
 match Zbj ws set with
 | (_,some e)=>(false,some e)
 | (n,none)=>(decide ((Zbj ws (2 ^ ws.length-1)).1<2*n),(Zbj ws (2 ^ ws.length-1)).2)
theorem Zzp {ws:List Int} {set:Int} (h:(Zbj ws set).2=none):Ym ws=none∧0≤set∧Q0 set.toNat≤ws.length∧(Zbj ws set).1=Za4 ws set.toNat:=by
 unfold Zbj at *
 cases hc:Ym ws with
 | some e=>rw [hc] at h;cases h
 | none =>
  rw [hc] at h
  simp only at *
  split at h
  ·cases h
  ·rename_i h1
   rw [if_neg h1]
   refine ⟨trivial,?_,?_,rfl⟩<;>omega
theorem all_none {ws:List Int} (h:Ym ws=none):Zbj ws (2 ^ ws.length-1)=(Za4 ws (2 ^ ws.length-1),none):=by
 have e:((2:Int) ^ ws.length-1)=((2 ^ ws.length-1:Nat):Int):=by
  have:=Nat.two_pow_pos ws.length
  rw [Int.ofNat_sub (by omega)]
  simp
 have h2:Q0 (2 ^ ws.length-1)≤ws.length:=blen_le.2 (by have:=Nat.two_pow_pos ws.length;omega)
 unfold Zbj
 rw [h,e]
 simp only [Int.toNat_natCast]
 rw [if_neg (by omega)]
theorem Zfi (T:Nat) (E:Nat→Addr) (a:Option Addr) (cap:Nat) (xs:List Int) (set:Int) (L:Zb) (hG:Er T E [2,3,4] L) (hR:Rd ic 1 L a xs) (hl:xs.length≤1000000) (hs:set≤9223372036854775807) :
  HC Tryz.prog 193 [.slice a xs.length cap,iv set] L (fun v L'=>v = .tuple ⟨[.bool (Xv xs set).1,eV T E (Xv xs set).2]⟩∧L'=L):=by
 refine Za (fun _ _=>Tryz.call193 _ _) Tryz.func193 rfl Tryz.ntmps193 (Nat.le_of_ble_eq_true rfl) ?_;simp only [Zd,Nat.reduceAdd]
 have hk:=Zni T E a cap xs set L hG hR hl hs
 cases hc:(Zbj xs set).2 with
 | some e =>
  rw [hc] at hk
  repeat' (first|refine uN ?_|refine uC (hk) ?_|(refine uP ?_ ?_<;>(intro h;((try simp only [zs,zq,reduceCtorEq] at h);try exact zx)))|fail)
  (refine Wb rfl rfl rfl ?_ ⟨?_,rfl⟩;(next=>(repeat (first|exact List.Sublist.refl _|apply List.Sublist.cons))))
  have:Xv xs set=(false,some e):=by
   unfold Xv
   split
   ·rename_i h;rw [h] at hc;cases hc;rfl
   ·rename_i h;rw [h] at hc;cases hc
  rw [this]
 | none =>
  rw [hc] at hk
  obtain ⟨h1,h2,h3,h4⟩:=Zzp hc
  obtain ⟨c1,c2,c3,c4⟩:=Vn h1
  have hsh:=Zin (k:=xs.length) (by omega)
  have e2:(1:Int)*2 ^ (xs.length:Int).toNat=2 ^ xs.length:=by simp
  have hp:1≤(1:Int)*2 ^ (xs.length:Int).toNat:=by
   rw [e2]
   have e3:(2:Int) ^ xs.length=((2 ^ xs.length:Nat):Int):=by simp
   rw [e3]
   have:=Nat.two_pow_pos xs.length
   generalize (2:Nat) ^ xs.length=q at *
   omega
  have hk2:=Zni T E a cap xs (1*2 ^ (xs.length:Int).toNat-1) L hG hR hl (by omega)
  have hb:=Zdx xs set.toNat c3
  rw [← h4] at hb
  repeat' (first|refine uN ?_|refine uC (hk) ?_|refine uC (hk2) ?_|(refine uP ?_ ?_<;>(intro h;((try simp only [zs,zq,reduceCtorEq] at h);try exact zx)))|fail)
  (refine Wb rfl rfl rfl ?_ ⟨?_,rfl⟩;(next=>(repeat (first|exact List.Sublist.refl _|apply List.Sublist.cons))))
  rw [e2]
  have:Xv xs set=(decide ((Zbj xs (2 ^ xs.length-1)).1<2*(Zbj xs set).1),(Zbj xs (2 ^ xs.length-1)).2):=by
   unfold Xv
   split
   ·rename_i h;rw [h] at hc;cases hc
   ·rename_i h;rw [h]
  rw [this]
end Go.HL
end

/-! LdB -/
section
namespace Go.HL
open Go Go.Proofs
theorem Rd.inn {α:Type} {enc:α→List Value} {sz:Nat} {L:Zb} {c:List Zr} {a:Option Addr} {xs:List α} (e:Zr) (h:Rd enc sz (c::L) a xs):Rd enc sz ((e::c)::L) a xs:=by
 rcases h with h|⟨b,i,l,E,fr,h1,h2,h3⟩
 ·exact .inl h
 ·exact .inr ⟨b,i,l,E,fr,h1,Wy h2,h3⟩
theorem bit_iff0 (n k:Nat):(((((n:Int) / 2 ^ k).toNat &&& Int.toNat 1:Nat):Int)=0)↔n / 2 ^ k % 2=0:=by
 have e:((n:Int) / 2 ^ k).toNat=n / 2 ^ k:=by
  have:((n:Int) / 2 ^ k)=((n / 2 ^ k:Nat):Int):=by simp
  rw [this];rfl
 rw [e,show Int.toNat 1=1 from rfl,Nat.and_one_is_mod]
 omega
def X2 (m:Ld) (f:Fr):Prop:=f.kd=m.wait∧f.dl=m.deal∧f.att=m.att∧f.to=m.id∧0≤f.fr∧f.fr<m.w.length∧m.heard / 2 ^ f.fr.toNat % 2=0
instance (m:Ld) (f:Fr):Decidable (X2 m f):=by unfold X2;infer_instance
def Wt (m:Ld) (i:Nat):List St:=if m.heard / 2 ^ i % 2=1 then [m.told.getD i W4] else []
def Xg (m:Ld):List St:=(List.range m.w.length).flatMap (Wt m)
def Q8 (m:Ld) (f:Fr):Ld:=if f.kd=2 then m else { m with seen:=max m.seen f.s.pr }
def Qm (m:Ld) (f:Fr):Ld:={ Q8 m f with heard:=m.heard ||| 2 ^ f.fr.toNat,told:=m.told.set f.fr.toNat f.s }
def Zcu (m:Ld) (p:Int):Ld × List Fr:=(Vo m,Zci (Vo m) 7 p)
def Zlr (m:Ld) (p:Int):Ld × List Fr:=(Qe m p,Zci (Qe m p) 5 p)
def Yf (m:Ld):Ld × List Fr:=
 if m.wait=2∧m.heard=2 ^ m.w.length-1 then Zlr m 4 else
 if m.wait=2∨(Xv m.w m.heard).1=false then (m,[]) else
 if m.wait=6 then Zcu m (Vm m.phase) else
 if (Yl (Xg m)).2 then Zcu m (Yl (Xg m)).1 else Zlr m (Yl (Xg m)).1
def Zw (m:Ld) (f:Fr):Ld × List Fr:=
 if m.wait=0 ∨ ¬ X2 m f then (m,[]) else
 if f.yes=false then Zz2 (Q8 m f) else Yf (Qm m f)
theorem Wn (f:Nat→List St) (i:Nat):(List.range (i+1)).flatMap f=(List.range i).flatMap f++f i:=by
 rw [List.range_succ,List.flatMap_append];simp
theorem Wk (f:Nat→List St) (hf : ∀ i,(f i).length≤1) : ∀ i,((List.range i).flatMap f).length≤i
 | 0=>by simp
 | i+1=>by rw [Wn,List.length_append];have:=Wk f hf i;have:=hf i;omega
theorem Zb9 (m:Ld) (i:Nat):(Wt m i).length≤1:=by unfold Wt;split<;>simp
theorem Zfo {a:Nat} {k n:Nat} (h:a<2 ^ n) (hk:k<n):a ||| 2 ^ k<2 ^ n:=Nat.or_lt_two_pow h (Nat.pow_lt_pow_right (by decide) hk)
set_option maxHeartbeats 2000000 attribute [local irreducible] HW HO HQ HD HC QOp Has Upd Zt Gets Z8 Z0 Zo Xm Zz Zj Xp Zy
attribute [local irreducible] X3
theorem Zpk (lp:Nat) (wv:Value) (wc:List Zr) (m:Ld) (L:Zb) (hm:LdOk wv wc m) (hh:m.heard<128):HC Tryz.prog 198 [pt lp 0] (Q1 lp wv wc m::L)
  (fun v L' => ∃ c,Vec 69 3 sc v (Xg m) c∧L'=c::Q1 lp wv wc m::L):=by
 obtain ⟨a,cap,rfl,hcap,hR⟩:=hm.vec.rd Wh
 have hlen:=hm.len
 have htl:=hm.told
 generalize hwv:Value.slice a m.w.length cap=wv at *
 have g3:(X3 wv m)[0+3]? = some (.slice a m.w.length cap):=by rw [hwv];exact Xr rfl
 have g6:(X3 wv m)[0+6]? = some (iv m.heard):=Xr rfl
 refine Za (fun _ _=>Tryz.call198 _ _) Tryz.func198 rfl Tryz.ntmps198 (Nat.le_of_ble_eq_true rfl) ?_;simp only [Zd,Nat.reduceAdd]
 repeat' (first|refine uN ?_|(refine uB ?_;intro b)|(refine uP ?_ ?_<;>(intro h;((try simp only [zs,zq,reduceCtorEq] at h);try exact zx)))|fail)
 refine Zih ?_
 refine Zp (σ:=Nat × Value × List Zr) (fun q=>[(0,pt lp 0),(3,q.2.1),(9,iv m.w.length),(10,iv q.1)]) (fun q=>q.2.2::Q1 lp wv wc m::L) (fun q=>q.1≤m.w.length∧Vec 69 3 sc q.2.1 ((List.range q.1).flatMap (Wt m)) q.2.2) (fun q=>m.w.length-q.1) (0,Ys,[]) uS (List.Sublist.refl _) ⟨by simp,Zv⟩ ?_
 rintro ⟨i,v,c⟩ ⟨hi,hv⟩
 simp only at hi hv ⊢
 have hle:=Wk (Wt m) (Zb9 m) i
 by_cases hlt:i<m.w.length
 ·have hb1:=Znw m.heard (i:Int).toNat (by omega)
  have hb2:=Zv6 m.heard (i:Int).toNat
  have ht:m.told[i]? = some (m.told.getD i W4):=by rw [List.getD,List.getElem?_eq_getElem (by omega)];rfl
  have gt:=ld_told (wv:=wv) ht
  by_cases hbit:m.heard / 2 ^ i % 2=1
  ·have e:Wt m i=[m.told.getD i W4]:=if_pos hbit
   have hb3:=hb2.2 hbit
   repeat' (first|refine uN ?_|refine Zu S ?_|(refine uB ?_;intro b)|(refine uP ?_ ?_<;>(intro h;((try simp only [zs,zq,reduceCtorEq] at h);try exact zx)))|refine da 101 ?_|fail)
   refine fo 1 ?_
   refine Zce S (m.told.getD i W4) hv Zao Zpg ?_
   intro v' c' hv'
   repeat' (first|refine uN ?_|refine Zu S ?_|(refine uB ?_;intro b)|(refine uP ?_ ?_<;>(intro h;((try simp only [zs,zq,reduceCtorEq] at h);try exact zx)))|refine da 101 ?_|fail)
   refine Zq (i+1,v',c') uS (.cons_cons _ (.cons _ (.refl _))) ⟨by simp only;omega,?_⟩ (by simp only;omega)
   simp only
   rw [Wn,e]
   exact hv'
  ·have e:Wt m i=[]:=if_neg hbit
   have hb3 : ¬ _:=fun h=>hbit (hb2.1 h)
   repeat' (first|refine uN ?_|refine Zu S ?_|(refine uB ?_;intro b)|(refine uP ?_ ?_<;>(intro h;((try simp only [zs,zq,reduceCtorEq] at h);try exact zx)))|refine da 101 ?_|fail)
   refine Zq (i+1,v,c) uS (List.Sublist.refl _) ⟨by simp only;omega,?_⟩ (by simp only;omega)
   simp only
   rw [Wn,e,List.append_nil]
   exact hv
 ·repeat' (first|refine uN ?_|refine Zu S ?_|(refine uB ?_;intro b)|(refine uP ?_ ?_<;>(intro h;((try simp only [zs,zq,reduceCtorEq] at h);try exact zx)))|refine da 101 ?_|fail)
  have hi2:i=m.w.length:=by omega
  subst hi2
  exact Z9 (LS.refl _) ⟨c,hv,rfl⟩
theorem Zes (lp:Nat) (wv:Value) (wc:List Zr) (m:Ld) (f:Fr) (L:Zb) (hm:LdOk wv wc m) (hh:m.heard<128):HC Tryz.prog 191 [pt lp 0,.agg ⟨fc f⟩] (Q1 lp wv wc m::L)
  (fun v L'=>v = .bool (decide (X2 m f))∧L'=Q1 lp wv wc m::L):=by
 obtain ⟨a,cap,rfl,hcap,hR⟩:=hm.vec.rd Wh
 have hlen:=hm.len
 generalize hwv:Value.slice a m.w.length cap=wv at *
 have g0:(X3 wv m)[0+0]? = some (iv m.id):=Xr rfl
 have g1:(X3 wv m)[0+1]? = some (iv m.deal):=Xr rfl
 have g2:(X3 wv m)[0+2]? = some (iv m.att):=Xr rfl
 have g3:(X3 wv m)[0+3]? = some (.slice a m.w.length cap):=by rw [hwv];exact Xr rfl
 have g5:(X3 wv m)[0+5]? = some (iv m.wait):=Xr rfl
 have g6:(X3 wv m)[0+6]? = some (iv m.heard):=Xr rfl
 have hb1:=Znw m.heard f.fr.toNat (by omega)
 have hb2:=bit_iff0 m.heard f.fr.toNat
 refine Za (fun _ _=>Tryz.call191 _ _) Tryz.func191 rfl Tryz.ntmps191 (Nat.le_of_ble_eq_true rfl) ?_;simp only [Zd,Nat.reduceAdd]
 repeat' (first|refine uN ?_|refine Z2 S ?_|(refine uB ?_;intro b)|(refine uP ?_ ?_<;>(intro h;((try simp only [zs,zq,reduceCtorEq] at h);try exact zx)))|fail)
 all_goals refine Z9 (LS.skip _ (LS.refl _)) ⟨congrArg Value.bool ?_,rfl⟩
 all_goals first
  | (refine (decide_eq_false (fun h=>?_)).symm;obtain ⟨h1,h2,h3,h4,h5,h6,h7⟩:=h;omega)
  | (refine decide_eq_decide.2 ⟨fun h=>⟨?_,?_,?_,?_,?_,?_,hb2.1 h⟩,fun h=>hb2.2 h.2.2.2.2.2.2⟩<;>assumption)
theorem Zx7 {m:Ld} {f:Fr} (h:m.wait=0 ∨ ¬ X2 m f):Zw m f=(m,[]):=if_pos h
theorem LdOk.m1 {wv:Value} {wc:List Zr} {m:Ld} (h:LdOk wv wc m) (f:Fr):LdOk wv wc (Q8 m f):=by
 unfold Q8;split
 ·exact h
 ·exact h.of rfl rfl
theorem LdOk.m2 {wv:Value} {wc:List Zr} {m:Ld} (h:LdOk wv wc m) (f:Fr):LdOk wv wc (Qm m f):=by
 refine h.of ?_ ?_
 ·unfold Qm Q8;split<;>rfl
 ·simp [Qm]
theorem Zha {m:Ld} {f:Fr} (h:X2 m f):0≤f.fr∧f.fr<m.w.length∧f.kd=m.wait:=⟨h.2.2.2.2.1,h.2.2.2.2.2.1,h.1⟩
theorem or_int (a k:Nat):(((a:Int).toNat ||| ((1:Int)*2 ^ (k:Int).toNat).toNat:Nat):Int)=((a ||| 2 ^ k:Nat):Int):=by
 have:((1:Int)*2 ^ (k:Int).toNat)=((2 ^ k:Nat):Int):=by simp
 rw [this];rfl
theorem or_ok {a k:Nat} (ha:a<128) (hk:k<7):0≤(a:Int)∧(a:Int)≤Zck .i64∧0≤(1:Int)*2 ^ (k:Int).toNat∧(1:Int)*2 ^ (k:Int).toNat≤Zck .i64:=by
 have e:((1:Int)*2 ^ (k:Int).toNat)=((2 ^ k:Nat):Int):=by simp
 have:2 ^ k<2 ^ 7:=Nat.pow_lt_pow_right (by decide) hk
 rw [e]
 simp only [Zck]
 generalize 2 ^ k=q at *
 omega
theorem full_int (n:Nat):((1:Int)*2 ^ (n:Int).toNat-1)=((2 ^ n-1:Nat):Int):=by
 have e:((1:Int)*2 ^ (n:Int).toNat)=((2 ^ n:Nat):Int):=by simp
 have:=Nat.two_pow_pos n
 rw [e];generalize 2 ^ n=q at *;omega
theorem shl_le {n:Nat} (h:n≤7):1≤(1:Int)*2 ^ (n:Int).toNat∧(1:Int)*2 ^ (n:Int).toNat≤128:=by
 have e:((1:Int)*2 ^ (n:Int).toNat)=((2 ^ n:Nat):Int):=by simp
 have:=Nat.two_pow_pos n
 have:2 ^ n≤2 ^ 7:=Nat.pow_le_pow_right (by decide) h
 rw [e];generalize 2 ^ n=q at *;omega
end Go.HL
end

/-! LdC -/
section
namespace Go.HL
open Go Go.Proofs
set_option maxHeartbeats 2000000 attribute [local irreducible] HW HO HQ HD HC QOp Has Upd Zt Gets Z8 Z0 Zo Xm Zz Zj Xp Zy
attribute [local irreducible] X3
theorem Zn3 (T:Nat) (E:Nat→Addr) (lp:Nat) (wv:Value) (wc:List Zr) (m:Ld) (f:Fr) (L:Zb) (hG:Er T E [2,3,4] L) (hm:LdOk wv wc m) (hh:m.heard<2 ^ m.w.length) (hw:m.wait≠0) (hfit:X2 m f) (hy:f.yes=true) (hkd:f.kd=2) :
  HC Tryz.prog 151 [pt lp 0,.agg ⟨fc f⟩] (Q1 lp wv wc m::L) (fun v L' => ∃ c,Z7 v (Yf (Qm m f)).2 c∧L'=c::Q1 lp wv wc (Yf (Qm m f)).1::L):=by
 have hm2:=hm.m2 f
 have hlen:=hm.len
 have htl:=hm.told
 have hh7:m.heard<128:=Nat.lt_of_lt_of_le hh (Nat.pow_le_pow_right (by decide) hlen)
 have kf : ∀ L,_:=fun L=>Zes lp wv wc m f L hm hh7
 obtain ⟨a,cap,rfl,hcap,hR⟩:=hm.vec.rd Wh
 generalize hwv:Value.slice a m.w.length cap=wv at *
 obtain ⟨hfr,hfr2,hk0⟩:=Zha hfit
 rw [decide_eq_true hfit] at kf
 clear hfit
 obtain ⟨fr,to,dl0,kd,att,yes,s⟩:=f
 simp only at hy hfr hfr2 hkd hk0
 subst hy hkd
 obtain ⟨k,rfl⟩:=Int.eq_ofNat_of_zero_le hfr
 have hk7:k<m.w.length:=by omega
 generalize hM:Qm m ⟨k,to,dl0,2,att,true,s⟩=M at *
 have eM:M={ m with heard:=m.heard ||| 2 ^ k,told:=m.told.set k s }:=by rw [← hM];rfl
 have e1:M.w=m.w:=by rw [eM]
 have e2:M.wait=2:=by rw [eM];exact hk0.symm
 have e3:M.heard<128:=by rw [eM];exact Zfo (n:=7) hh7 (by omega)
 have g3:(X3 wv M)[0+3]? = some (.slice a m.w.length cap):=by rw [hwv];exact Xr rfl
 have g5:(X3 wv m)[0+5]? = some (iv m.wait):=Xr rfl
 have g5':(X3 wv M)[0+5]? = some (iv 2):=by rw [← e2];exact Xr rfl
 have g6:(X3 wv m)[0+6]? = some (iv m.heard):=Xr rfl
 have g6':(X3 wv M)[0+6]? = some (iv M.heard):=Xr rfl
 have p6:Zt (X3 wv m) (0+6) [iv (((m.heard:Int).toNat ||| ((1:Int)*2 ^ (k:Int).toNat).toNat:Nat):Int)] (X3 wv { m with heard:=m.heard ||| 2 ^ k }):=by
  rw [or_int];exact Q7 rfl (by decide) rfl rfl rfl
 have pT:Zt (X3 wv { m with heard:=m.heard ||| 2 ^ k }) (0+7+(k:Int).toNat*3) (sc s) (X3 wv M):=by
  rw [eM];exact Zwn (m:={ m with heard:=m.heard ||| 2 ^ k }) s (by show k<m.told.length;omega)
 have hsh:=Zin (k:=k) (by omega)
 have hor:=or_ok hh7 (show k<7 by omega)
 have hsh2:=Zin (k:=m.w.length) (by omega)
 have hsh3:=shl_le hlen
 have hfull:=full_int m.w.length
 have ke : ∀ b o,HC Tryz.prog 193 [.slice a m.w.length cap,iv M.heard] ([(b,o)]::Q1 lp wv wc M::L) (fun v L'=>v = .tuple ⟨[.bool (Xv m.w M.heard).1,eV T E (Xv m.w M.heard).2]⟩∧L'=[(b,o)]::Q1 lp wv wc M::L):=fun b o =>
  Zfi T E a cap m.w M.heard _ ((hG.cons _).cons _) (((hR L).inn _).cons _) (by omega) (by omega)
 have kp:=Zee lp wv wc M 4
 have hc1:M.heard=2 ^ M.w.length-1→Yf M=Zlr M 4:=fun h=>if_pos ⟨e2,h⟩
 have hc2 : ¬ M.heard=2 ^ M.w.length-1→Yf M=(M,[]):=fun h=>by unfold Yf;rw [if_neg (fun h2=>h h2.2),if_pos (.inl e2)]
 clear eM hM
 refine Za (fun _ _=>Tryz.call151 _ _) Tryz.func151 rfl Tryz.ntmps151 (Nat.le_of_ble_eq_true rfl) ?_;simp only [Zd,Nat.reduceAdd]
 repeat' (first|refine uN ?_|refine Z2 S ?_|refine Yp S ?_|refine Wq (qC (Yw kf 1)) ?_|refine Qr (qC (Yw kf 1)) ?_|refine uC (ke _ _) ?_|refine Yb (fun _=>Yw kf 1) ?_|refine Yc (fun _=>Yw kf 1) ?_|refine Yd (fun _=>Yw kf 1) ?_|refine Ye (fun _=>Yw kf 1) ?_|refine Yb (fun _=>ke _ _) ?_|refine Yc (fun _=>ke _ _) ?_|refine Yd (fun _=>ke _ _) ?_|refine Ye (fun _=>ke _ _) ?_|(refine uB ?_;intro b)|(refine uP ?_ ?_<;>(intro h;((try simp only [zs,zq,reduceCtorEq] at h);try exact zx)))|refine da 101 ?_|fail)
 ·rw [hc1 (by rw [e1];omega)]
  refine fo 1 ?_
  refine gc (kp _ hm2) ?_
  rintro v L' ⟨c,hv,rfl⟩
  repeat' (first|refine uN ?_|refine Z2 S ?_|refine Yp S ?_|(refine uB ?_;intro b)|(refine uP ?_ ?_<;>(intro h;((try simp only [zs,zq,reduceCtorEq] at h);try exact zx)))|refine da 101 ?_|fail)
  exact Z9 uZ ⟨c,hv,rfl⟩
 ·rw [hc2 (by rw [e1];omega)]
  exact Z9 (L':=[]::Q1 lp wv wc M::L) (LS.skip _ (LS.refl _)) ⟨[],Zv,rfl⟩
theorem Zn2 (T:Nat) (E:Nat→Addr) (lp:Nat) (wv:Value) (wc:List Zr) (m:Ld) (f:Fr) (L:Zb) (hG:Er T E [2,3,4] L) (hm:LdOk wv wc m) (hh:m.heard<2 ^ m.w.length) (hw:m.wait≠0) (hfit:X2 m f) (hy:f.yes=true) (hkd:f.kd≠2) :
  HC Tryz.prog 151 [pt lp 0,.agg ⟨fc f⟩] (Q1 lp wv wc m::L) (fun v L' => ∃ c,Z7 v (Yf (Qm m f)).2 c∧L'=c::Q1 lp wv wc (Yf (Qm m f)).1::L):=by
 have hm2:=hm.m2 f
 have hlen:=hm.len
 have htl:=hm.told
 have hh7:m.heard<128:=Nat.lt_of_lt_of_le hh (Nat.pow_le_pow_right (by decide) hlen)
 have kf : ∀ L,_:=fun L=>Zes lp wv wc m f L hm hh7
 obtain ⟨a,cap,rfl,hcap,hR⟩:=hm.vec.rd Wh
 generalize hwv:Value.slice a m.w.length cap=wv at *
 obtain ⟨hfr,hfr2,hk0⟩:=Zha hfit
 rw [decide_eq_true hfit] at kf
 clear hfit
 obtain ⟨fr,to,dl0,kd,att,yes,s⟩:=f
 simp only at hy hfr hfr2 hkd hk0
 subst hy
 obtain ⟨k,rfl⟩:=Int.eq_ofNat_of_zero_le hfr
 have hk7:k<m.w.length:=by omega
 generalize hM:Qm m ⟨k,to,dl0,kd,att,true,s⟩=M at *
 have eM:M={ m with seen:=max m.seen s.pr,heard:=m.heard ||| 2 ^ k,told:=m.told.set k s }:=by rw [← hM];simp only [Qm,Q8,if_neg hkd];rfl
 have e1:M.w=m.w:=by rw [eM]
 have e2:M.wait=kd:=by rw [eM];exact hk0.symm
 have e3:M.heard<128:=by rw [eM];exact Zfo (n:=7) hh7 (by omega)
 have g3:(X3 wv M)[0+3]? = some (.slice a m.w.length cap):=by rw [hwv];exact Xr rfl
 have g5:(X3 wv m)[0+5]? = some (iv m.wait):=Xr rfl
 have g5':(X3 wv M)[0+5]? = some (iv kd):=by rw [← e2];exact Xr rfl
 have g6:(X3 wv { m with seen:=max m.seen s.pr })[0+6]? = some (iv m.heard):=Xr rfl
 have g6':(X3 wv M)[0+6]? = some (iv M.heard):=Xr rfl
 have g8':(X3 wv M)[0+28]? = some (iv M.phase):=ld_phase hm2.told
 have g9:(X3 wv m)[0+29]? = some (iv m.seen):=Zoo htl
 have p9:Zt (X3 wv m) (0+29) [iv (max m.seen s.pr)] (X3 wv { m with seen:=max m.seen s.pr }):=Zrd htl _
 have p6:Zt (X3 wv { m with seen:=max m.seen s.pr }) (0+6) [iv (((m.heard:Int).toNat ||| ((1:Int)*2 ^ (k:Int).toNat).toNat:Nat):Int)] (X3 wv { m with seen:=max m.seen s.pr,heard:=m.heard ||| 2 ^ k }):=by
  rw [or_int];exact Q7 rfl (by decide) rfl rfl rfl
 have pT:Zt (X3 wv { m with seen:=max m.seen s.pr,heard:=m.heard ||| 2 ^ k }) (0+7+(k:Int).toNat*3) (sc s) (X3 wv M):=by
  rw [eM];exact Zwn (m:={ m with seen:=max m.seen s.pr,heard:=m.heard ||| 2 ^ k }) s (by show k<m.told.length;omega)
 have hsh:=Zin (k:=k) (by omega)
 have hor:=or_ok hh7 (show k<7 by omega)
 have ke : ∀ b o,HC Tryz.prog 193 [.slice a m.w.length cap,iv M.heard] ([(b,o)]::Q1 lp wv wc M::L) (fun v L'=>v = .tuple ⟨[.bool (Xv m.w M.heard).1,eV T E (Xv m.w M.heard).2]⟩∧L'=[(b,o)]::Q1 lp wv wc M::L):=fun b o =>
  Zfi T E a cap m.w M.heard _ ((hG.cons _).cons _) (((hR L).inn _).cons _) (by omega) (by omega)
 have kd1:=Zbt lp wv wc M (Vm M.phase)
 have kd2:=Zbt lp wv wc M (Yl (Xg M)).1
 have kp:=Zee lp wv wc M (Yl (Xg M)).1
 have ks:=fun L=>Zpk lp wv wc M L hm2 e3
 have hst:(Xg M).length≤7:=by
  have:=Wk (Wt M) (Zb9 M) M.w.length
  have e9:M.w.length=m.w.length:=by rw [e1]
  show ((List.range M.w.length).flatMap (Wt M)).length≤7
  omega
 have hc0 : ¬ (M.wait=2∧M.heard=2 ^ M.w.length-1):=by rw [e2];exact fun h=>hkd h.1
 have hc1:(Xv m.w M.heard).1=false→Yf M=(M,[]):=fun h=>by unfold Yf;rw [if_neg hc0,e1,if_pos (.inr h)]
 have hc2:(Xv m.w M.heard).1=true→kd=6→Yf M=Zcu M (Vm M.phase):=fun h h6=>by unfold Yf;rw [if_neg hc0,e1,if_neg (by rw [h,e2];simp [hkd]),e2,if_pos h6]
 have hc3:(Xv m.w M.heard).1=true→kd≠6→Yf M=if (Yl (Xg M)).2 then Zcu M (Yl (Xg M)).1 else Zlr M (Yl (Xg M)).1:=fun h h6=>by unfold Yf;rw [if_neg hc0,e1,if_neg (by rw [h,e2];simp [hkd]),e2,if_neg h6]
 generalize (Xv m.w M.heard).1=en at *
 clear eM hM hc0
 refine Za (fun _ _=>Tryz.call151 _ _) Tryz.func151 rfl Tryz.ntmps151 (Nat.le_of_ble_eq_true rfl) ?_;simp only [Zd,Nat.reduceAdd]
 repeat' (first|refine uN ?_|refine Z2 S ?_|refine Yp S ?_|refine Wq (qC (Yw kf 1)) ?_|refine Qr (qC (Yw kf 1)) ?_|refine uC (ke _ _) ?_|refine uC (Y1 _ _) ?_|refine Yb (fun _=>Yw kf 1) ?_|refine Yc (fun _=>Yw kf 1) ?_|refine Yd (fun _=>Yw kf 1) ?_|refine Ye (fun _=>Yw kf 1) ?_|refine Yb (fun _=>ke _ _) ?_|refine Yc (fun _=>ke _ _) ?_|refine Yd (fun _=>ke _ _) ?_|refine Ye (fun _=>ke _ _) ?_|refine Yb (fun _=>Y1 _ _) ?_|refine Yc (fun _=>Y1 _ _) ?_|refine Yd (fun _=>Y1 _ _) ?_|refine Ye (fun _=>Y1 _ _) ?_|(refine uB ?_;intro b)|(refine uP ?_ ?_<;>(intro h;((try simp only [zs,zq,reduceCtorEq] at h);try exact zx)))|refine da 101 ?_|fail)
 ·rw [hc1 h]
  exact Z9 (L':=[]::Q1 lp wv wc M::L) (LS.skip _ (LS.refl _)) ⟨[],Zv,rfl⟩
 ·rename_i hen
  rw [hc2 hen h]
  refine fo 1 ?_
  refine gc (kd1 _ hm2) ?_
  rintro v L' ⟨c,hv,rfl⟩
  repeat' (first|refine uN ?_|refine Z2 S ?_|refine Yp S ?_|(refine uB ?_;intro b)|(refine uP ?_ ?_<;>(intro h;((try simp only [zs,zq,reduceCtorEq] at h);try exact zx)))|refine da 101 ?_|fail)
  exact Z9 uZ ⟨c,hv,rfl⟩
 ·rename_i hen
  rw [hc3 hen h]
  refine fo 1 ?_
  refine gc (ks _) ?_
  rintro v L' ⟨c,hv,rfl⟩
  obtain ⟨a2,cap2,rfl,hcap2,hR2⟩:=hv.rd Zao
  have kc:=fun L=>Zny a2 cap2 (Xg M) (c::L) (hR2 L) (by omega)
  repeat' (first|refine uN ?_|refine Z2 S ?_|refine Yp S ?_|refine uC (kc _) ?_|refine Yb (fun _=>kc _) ?_|refine Yc (fun _=>kc _) ?_|refine Yd (fun _=>kc _) ?_|refine Ye (fun _=>kc _) ?_|(refine uB ?_;intro b)|(refine uP ?_ ?_<;>(intro h;((try simp only [zs,zq,reduceCtorEq] at h);try exact zx)))|refine da 101 ?_|fail)
  ·rename_i hfin
   rw [if_pos h]
   refine fo 1 ?_
   refine gc (kd2 _ hm2) ?_
   rintro v L' ⟨c3,hv3,rfl⟩
   repeat' (first|refine uN ?_|refine Z2 S ?_|refine Yp S ?_|(refine uB ?_;intro b)|(refine uP ?_ ?_<;>(intro h;((try simp only [zs,zq,reduceCtorEq] at h);try exact zx)))|refine da 101 ?_|fail)
   exact Z9 uZ ⟨c3,hv3,rfl⟩
  ·rename_i hfin
   rw [if_neg (by simp [h])]
   refine fo 1 ?_
   refine gc (kp _ hm2) ?_
   rintro v L' ⟨c3,hv3,rfl⟩
   repeat' (first|refine uN ?_|refine Z2 S ?_|refine Yp S ?_|(refine uB ?_;intro b)|(refine uP ?_ ?_<;>(intro h;((try simp only [zs,zq,reduceCtorEq] at h);try exact zx)))|refine da 101 ?_|fail)
   exact Z9 uZ ⟨c3,hv3,rfl⟩
theorem Zjm (T:Nat) (E:Nat→Addr) (lp:Nat) (wv:Value) (wc:List Zr) (m:Ld) (f:Fr) (L:Zb) (hG:Er T E [2,3,4] L) (hm:LdOk wv wc m) (hh:m.heard<2 ^ m.w.length) :
  HC Tryz.prog 151 [pt lp 0,.agg ⟨fc f⟩] (Q1 lp wv wc m::L) (fun v L' => ∃ c,Z7 v (Zw m f).2 c∧L'=c::Q1 lp wv wc (Zw m f).1::L):=by
 have hh7:m.heard<128:=Nat.lt_of_lt_of_le hh (Nat.pow_le_pow_right (by decide) hm.len)
 have kf : ∀ L,_:=fun L=>Zes lp wv wc m f L hm hh7
 have g5:(X3 wv m)[0+5]? = some (iv m.wait):=Xr rfl
 by_cases hw:m.wait=0 ∨ ¬ X2 m f
 ·rw [Zx7 hw]
  by_cases h0:m.wait=0
  ·refine Za (fun _ _=>Tryz.call151 _ _) Tryz.func151 rfl Tryz.ntmps151 (Nat.le_of_ble_eq_true rfl) ?_;simp only [Zd,Nat.reduceAdd]
   repeat' (first|refine uN ?_|refine Z2 S ?_|refine Yp S ?_|(refine uB ?_;intro b)|(refine uP ?_ ?_<;>(intro h;((try simp only [zs,zq,reduceCtorEq] at h);try exact zx)))|refine da 101 ?_|fail)
   exact Z9 (L':=[]::Q1 lp wv wc m::L) (LS.skip _ (LS.refl _)) ⟨[],Zv,rfl⟩
  ·rw [decide_eq_false (by rcases hw with h|h;exact absurd h h0;exact h)] at kf
   refine Za (fun _ _=>Tryz.call151 _ _) Tryz.func151 rfl Tryz.ntmps151 (Nat.le_of_ble_eq_true rfl) ?_;simp only [Zd,Nat.reduceAdd]
   repeat' (first|refine uN ?_|refine Z2 S ?_|refine Yp S ?_|refine Wq (qC (Yw kf 1)) ?_|refine Qr (qC (Yw kf 1)) ?_|refine Yb (fun _=>Yw kf 1) ?_|refine Yc (fun _=>Yw kf 1) ?_|refine Yd (fun _=>Yw kf 1) ?_|refine Ye (fun _=>Yw kf 1) ?_|(refine uB ?_;intro b)|(refine uP ?_ ?_<;>(intro h;((try simp only [zs,zq,reduceCtorEq] at h);try exact zx)))|refine da 101 ?_|fail)
   exact Z9 (L':=[]::Q1 lp wv wc m::L) (LS.skip _ (LS.refl _)) ⟨[],Zv,rfl⟩
 ·have hfit:X2 m f:=by
   by_cases h:X2 m f
   ·exact h
   ·exact absurd (.inr h) hw
  have hw0:m.wait≠0:=fun h=>hw (.inl h)
  by_cases hy:f.yes=true
  ·have e:Zw m f=Yf (Qm m f):=by unfold Zw;rw [if_neg hw,if_neg (by simp [hy])]
   rw [e]
   by_cases hkd:f.kd=2
   ·exact Zn3 T E lp wv wc m f L hG hm hh hw0 hfit hy hkd
   ·exact Zn2 T E lp wv wc m f L hG hm hh hw0 hfit hy hkd
  ·have hy':f.yes=false:=by simpa using hy
   have e:Zw m f=Zz2 (Q8 m f):=by unfold Zw;rw [if_neg hw,if_pos hy']
   rw [e]
   rw [decide_eq_true hfit] at kf
   clear hw hfit e
   have kn:=no_calls lp wv wc (Q8 m f)
   have hm1:=hm.m1 f
   have g9:(X3 wv m)[0+29]? = some (iv m.seen):=Zoo hm.told
   by_cases hkd:f.kd=2
   ·have e1:Q8 m f=m:=if_pos hkd
    rw [e1] at kn hm1 ⊢
    refine Za (fun _ _=>Tryz.call151 _ _) Tryz.func151 rfl Tryz.ntmps151 (Nat.le_of_ble_eq_true rfl) ?_;simp only [Zd,Nat.reduceAdd]
    repeat' (first|refine uN ?_|refine Z2 S ?_|refine Yp S ?_|refine Wq (qC (Yw kf 1)) ?_|refine Qr (qC (Yw kf 1)) ?_|refine Yb (fun _=>Yw kf 1) ?_|refine Yc (fun _=>Yw kf 1) ?_|refine Yd (fun _=>Yw kf 1) ?_|refine Ye (fun _=>Yw kf 1) ?_|(refine uB ?_;intro b)|(refine uP ?_ ?_<;>(intro h;((try simp only [zs,zq,reduceCtorEq] at h);try exact zx)))|refine da 101 ?_|fail)
    refine fo 1 ?_
    refine gc (kn _ hm1) ?_
    rintro v L' ⟨c,hv,rfl⟩
    repeat' (first|refine uN ?_|refine Z2 S ?_|refine Yp S ?_|(refine uB ?_;intro b)|(refine uP ?_ ?_<;>(intro h;((try simp only [zs,zq,reduceCtorEq] at h);try exact zx)))|refine da 101 ?_|fail)
    exact Z9 uZ ⟨c,hv,rfl⟩
   ·have p9:Zt (X3 wv m) (0+29) [iv (max m.seen f.s.pr)] (X3 wv (Q8 m f)):=by
     unfold Q8;rw [if_neg hkd];exact Zrd hm.told _
    refine Za (fun _ _=>Tryz.call151 _ _) Tryz.func151 rfl Tryz.ntmps151 (Nat.le_of_ble_eq_true rfl) ?_;simp only [Zd,Nat.reduceAdd]
    repeat' (first|refine uN ?_|refine Z2 S ?_|refine Yp S ?_|refine Wq (qC (Yw kf 1)) ?_|refine Qr (qC (Yw kf 1)) ?_|refine Yb (fun _=>Yw kf 1) ?_|refine Yc (fun _=>Yw kf 1) ?_|refine Yd (fun _=>Yw kf 1) ?_|refine Ye (fun _=>Yw kf 1) ?_|(refine uB ?_;intro b)|(refine uP ?_ ?_<;>(intro h;((try simp only [zs,zq,reduceCtorEq] at h);try exact zx)))|refine da 101 ?_|fail)
    refine fo 1 ?_
    refine gc (kn _ hm1) ?_
    rintro v L' ⟨c,hv,rfl⟩
    repeat' (first|refine uN ?_|refine Z2 S ?_|refine Yp S ?_|(refine uB ?_;intro b)|(refine uP ?_ ?_<;>(intro h;((try simp only [zs,zq,reduceCtorEq] at h);try exact zx)))|refine da 101 ?_|fail)
    exact Z9 uZ ⟨c,hv,rfl⟩
end Go.HL
end

/-! WgC -/
section
namespace Go.HL
open Go Go.Proofs
set_option maxHeartbeats 2000000 attribute [local irreducible] HW HO HQ HD HC QOp Has Upd Zt Gets Z8 Z0 Zo Xm Zz Zj Xp Zy

theorem Zkd {n:Nat} (h:n≤30):(2:Int) ^ n≤1073741824∧1≤(2:Int) ^ n:=by
 have h1:(2:Nat) ^ n≤2 ^ 30:=Nat.pow_le_pow_right (by decide) h
 have h2:=Nat.two_pow_pos n
 have e:(2:Int) ^ n=((2 ^ n:Nat):Int):=by simp
 rw [e]
 generalize (2:Nat) ^ n=q at *
 omega
theorem Zbm (n:Nat) (hn:n≤30) (L:Zb):HC Tryz.prog 63 [iv n] L (fun v L'=>v=iv (2 ^ n)∧L'=L):=by
 refine Za (fun _ _=>Tryz.call63 _ _) Tryz.func63 rfl Tryz.ntmps63 (Nat.le_of_ble_eq_true rfl) ?_;simp only [Zd,Nat.reduceAdd]
 repeat' (first|refine uN ?_|(refine uP ?_ ?_<;>(intro h;((try simp only [zs,zq,reduceCtorEq] at h);try exact zx)))|fail)
 refine Zp (σ:=Int × Int) (fun s=>[(0,iv n),(3,iv s.2),(4,iv s.1)]) (fun _=>L) (fun s=>0≤s.1∧s.1≤n∧s.2=2 ^ s.1.toNat) (fun s=>(n-s.1).toNat) (0,1) uS (List.Sublist.refl _) ⟨by simp,by simp,by simp⟩ ?_
 rintro ⟨j,m⟩ ⟨j0,j1,hm⟩
 simp only at j0 j1 hm
 have hp:=Zkd (n:=j.toNat) (by omega)
 rw [← hm] at hp
 by_cases hlt:j<n
 ·repeat' (first|refine uN ?_|(refine uP ?_ ?_<;>(intro h;((try simp only [zs,zq,reduceCtorEq] at h);try exact zx)))|fail)
  refine Zq (j+1,_) uS (List.Sublist.refl _) ⟨by show 0≤j+1;omega,by show j+1≤(n:Int);omega,?_⟩ (by show (n-(j+1)).toNat<(n-j).toNat;omega)
  show 2*m=2 ^ (j+1).toNat
  rw [show (j+1).toNat=j.toNat+1 by omega,Int.pow_succ,hm]
  omega
 ·repeat' (first|refine uN ?_|(refine uP ?_ ?_<;>(intro h;((try simp only [zs,zq,reduceCtorEq] at h);try exact zx)))|fail)
  (refine Xb rfl rfl ?_ ⟨?_,rfl⟩;(next=>(repeat (first|exact List.Sublist.refl _|apply List.Sublist.cons))))
  rw [hm,show j.toNat=n by omega]
end Go.HL
end

/-! LdD -/
section
namespace Go.HL
open Go Go.Proofs
def Zi (id deal:Int) (w:List Int) (att wait:Int):Ld:=⟨id,deal,att,w,sAsking,wait,0,List.replicate 7 W4,0,0⟩
def Zc1 (id deal:Int) (w:List Int) (att:Int):Option Nat:=match Ym w with
 | some e=>some e
 | none=>if id<0∨w.length≤id∨deal<0∨6≤deal∨1048576<att then some 2 else none
def LdRes (T:Nat) (E:Nat→Addr) (e:Option Nat) (m:Ld) (L:Zb) (v:Value) (L':Zb):Prop:=match e with
 | some x=>v = .tuple ⟨[.pointer none,eV T E (some x)]⟩∧L'=L
 | none => ∃ lp wv wc,v = .tuple ⟨[pt lp 0,.nilIface]⟩∧LdOk wv wc m∧L'=Q1 lp wv wc m::L
def tryE (id deal:Int) (w:List Int) (att:Int):Option Nat:=match Zc1 id deal w att with
 | some e=>some e
 | none=>if att<1 then some 2 else none
set_option maxHeartbeats 2000000 attribute [local irreducible] HW HO HQ HD HC QOp Has Upd Zt Gets Z8 Z0 Zo Xm Zz Zj Xp Zy
theorem Zjx (T:Nat) (E:Nat→Addr) (id deal:Int) (a:Option Addr) (cap:Nat) (w:List Int) (att wait:Int) (L:Zb) (hG:Er T E [2,3,4] L) (hR:Rd ic 1 L a w) (hl:w.length≤1000000) :
  HC Tryz.prog 187 [iv id,iv deal,.slice a w.length cap,iv att,iv wait] L (LdRes T E (Zc1 id deal w att) (Zi id deal w att wait) L):=by
 have kc:=Zcp T E a cap w L hG hR hl
 cases hc:Ym w with
 | some e =>
  rw [hc] at kc
  rw [show Zc1 id deal w att=some e by unfold Zc1;rw [hc]]
  refine Za (fun _ _=>Tryz.call187 _ _) Tryz.func187 rfl Tryz.ntmps187 (Nat.le_of_ble_eq_true rfl) ?_;simp only [Zd,Nat.reduceAdd]
  repeat' (first|refine uN ?_|refine Zu S ?_|refine uC (kc) ?_|refine Yb (fun _=>kc) ?_|refine Yc (fun _=>kc) ?_|refine Yd (fun _=>kc) ?_|refine Ye (fun _=>kc) ?_|(refine uB ?_;intro b)|refine dg S 100 (fun _ _=>?_)|(refine uP ?_ ?_<;>(intro h;((try simp only [zs,zq,reduceCtorEq] at h);try exact zx)))|refine da 101 ?_|fail)
  exact W9 (LS.refl _) ⟨rfl,rfl⟩
 | none =>
  rw [hc] at kc
  obtain ⟨c1,c2,c3,c4⟩:=Vn hc
  have hle:Zc1 id deal w att=if id<0∨w.length≤id∨deal<0∨6≤deal∨1048576<att then some 2 else none:=by unfold Zc1;rw [hc]
  refine Za (fun _ _=>Tryz.call187 _ _) Tryz.func187 rfl Tryz.ntmps187 (Nat.le_of_ble_eq_true rfl) ?_;simp only [Zd,Nat.reduceAdd]
  repeat' (first|refine uN ?_|refine Zu S ?_|refine uC (kc) ?_|refine Yb (fun _=>kc) ?_|refine Yc (fun _=>kc) ?_|refine Yd (fun _=>kc) ?_|refine Ye (fun _=>kc) ?_|(refine uB ?_;intro b)|refine dg S 100 (fun _ _=>?_)|(refine uP ?_ ?_<;>(intro h;((try simp only [zs,zq,reduceCtorEq] at h);try exact zx)))|refine da 101 ?_|fail)
  all_goals first|(rw [hle,if_pos (by omega)];exact W9 (LS.refl _) ⟨rfl,rfl⟩;done)|skip
  rw [hle,if_neg (by omega)]
  refine Zoe ?_
  refine Zzv S (enc:=ic) (xs:=[]) (ys:=w) Zv ((hR.cons _).cons _) Wh Zub ?_ (by rfl) (by rfl) (by rfl) (by rfl) (by rfl) (by rfl) (by rfl) (by rfl) (by rfl) (by simp only [List.length_nil];omega) (by simp only [List.length_nil];omega)
  intro v' c' hv
  rw [List.nil_append] at hv
  obtain ⟨a',cap',rfl,-⟩:=hv.rd Wh
  repeat' (first|refine uN ?_|refine Zu S ?_|refine uC (kc) ?_|refine Yb (fun _=>kc) ?_|refine Yc (fun _=>kc) ?_|refine Yd (fun _=>kc) ?_|refine Ye (fun _=>kc) ?_|(refine uB ?_;intro b)|refine dg S 100 (fun _ _=>?_)|(refine uP ?_ ?_<;>(intro h;((try simp only [zs,zq,reduceCtorEq] at h);try exact zx)))|refine da 101 ?_|fail)
  refine W9 (L':=Q1 b (.slice a' w.length cap') c' (Zi id deal w att wait)::L) ?_ ⟨_,_,_,rfl,⟨hv,rfl,c2⟩,rfl⟩
  refine LS.of_perm ?_
  simp only [Q1,List.flatten_cons,List.cons_append,List.nil_append]
  exact List.perm_middle.symm
theorem Zqc (T:Nat) (E:Nat→Addr) (id deal:Int) (a:Option Addr) (cap:Nat) (w:List Int) (L:Zb) (hG:Er T E [2,3,4] L) (hR:Rd ic 1 L a w) (hl:w.length≤1000000) :
  HC Tryz.prog 144 [iv id,iv deal,.slice a w.length cap] L (LdRes T E (Zc1 id deal w 0) (Zi id deal w 0 2) L):=by
 have kc:=Zjx T E id deal a cap w 0 2 L hG hR hl
 cases hc:Zc1 id deal w 0 with
 | some e =>
  rw [hc] at kc
  refine Za (fun _ _=>Tryz.call144 _ _) Tryz.func144 rfl Tryz.ntmps144 (Nat.le_of_ble_eq_true rfl) ?_;simp only [Zd,Nat.reduceAdd]
  repeat' (first|refine uN ?_)
  refine gc kc ?_
  rintro v L' ⟨rfl,rfl⟩
  repeat' (first|refine uN ?_)
  exact W9 (LS.refl _) ⟨rfl,rfl⟩
 | none =>
  rw [hc] at kc
  refine Za (fun _ _=>Tryz.call144 _ _) Tryz.func144 rfl Tryz.ntmps144 (Nat.le_of_ble_eq_true rfl) ?_;simp only [Zd,Nat.reduceAdd]
  repeat' (first|refine uN ?_)
  refine gc kc ?_
  rintro v L' ⟨lp,wv,wc,rfl,hv,rfl⟩
  repeat' (first|refine uN ?_)
  exact W9 (LS.refl _) ⟨_,_,_,rfl,hv,rfl⟩
theorem Zzr (T:Nat) (E:Nat→Addr) (id deal:Int) (a:Option Addr) (cap:Nat) (w:List Int) (att:Int) (L:Zb) (hG:Er T E [2,3,4] L) (hR:Rd ic 1 L a w) (hl:w.length≤1000000) :
  HC Tryz.prog 190 [iv id,iv deal,.slice a w.length cap,iv att] L (LdRes T E (tryE id deal w att) (Zi id deal w att 4) L):=by
 have kc:=Zjx T E id deal a cap w att 4 L hG hR hl
 unfold tryE
 cases hc:Zc1 id deal w att with
 | some e =>
  rw [hc] at kc
  refine Za (fun _ _=>Tryz.call190 _ _) Tryz.func190 rfl Tryz.ntmps190 (Nat.le_of_ble_eq_true rfl) ?_;simp only [Zd,Nat.reduceAdd]
  repeat' (first|refine uN ?_|refine Z2 S ?_|(refine uP ?_ ?_<;>(intro h;((try simp only [zs,zq,reduceCtorEq] at h);try exact zx)))|fail)
  refine gc kc ?_
  rintro v L' ⟨rfl,rfl⟩
  repeat' (first|refine uN ?_|refine Zu S ?_|refine dg S 100 (fun _ _=>?_)|(refine uP ?_ ?_<;>(intro h;((try simp only [zs,zq,reduceCtorEq] at h);try exact zx)))|refine da 101 ?_|fail)
  exact W9 (LS.refl _) ⟨rfl,rfl⟩
 | none =>
  rw [hc] at kc
  refine Za (fun _ _=>Tryz.call190 _ _) Tryz.func190 rfl Tryz.ntmps190 (Nat.le_of_ble_eq_true rfl) ?_;simp only [Zd,Nat.reduceAdd]
  repeat' (first|refine uN ?_|refine Z2 S ?_|(refine uP ?_ ?_<;>(intro h;((try simp only [zs,zq,reduceCtorEq] at h);try exact zx)))|fail)
  refine gc kc ?_
  rintro v L' ⟨lp,wv,wc,rfl,hv,rfl⟩
  have hG2:=hG.cons (Q1 lp wv wc (Zi id deal w att 4))
  repeat' (first|refine uN ?_|refine Zu S ?_|refine dg S 100 (fun _ _=>?_)|(refine uP ?_ ?_<;>(intro h;((try simp only [zs,zq,reduceCtorEq] at h);try exact zx)))|refine da 101 ?_|fail)
  ·rw [if_pos h]
   exact W9 (LS.skips _ (LS.refl _)) ⟨rfl,rfl⟩
  ·rw [if_neg h]
   exact W9 (LS.refl _) ⟨_,_,_,rfl,hv,rfl⟩
end Go.HL
end

/-! WoC -/
section
namespace Go.HL
open Go Go.Proofs
structure Nd where
 pl:Pl
 site:Option (Jn × (Int→Bool))
 leads:List (Option Ld)
 done:List Bool
structure Wm where
 w:List Int
 n:List Nd
 br:Int × Int→Bool
 l:List Fr
 ev:List Evt
structure NdG where
 np:Nat
 bp:Nat
 ba:Nat
 sp:Nat
 bj:Nat
 mb:Nat
 es:List MapEntry
 ck:Nat
 ld:List (Nat × Value × List Zr)
def Zed:Option Ld→Nat × Value × List Zr→Value
 | none,_ => .pointer none
 | some _,g=>pt g.1 0
def ldB:Option Ld→Nat × Value × List Zr→List Zr
 | none,_=>[]
 | some m,g=>Q1 g.1 g.2.1 g.2.2 m
def Zhx (g:NdG):Option (Jn × (Int→Bool))→Value
 | none => .pointer none
 | some _=>pt g.sp 0
def siB (g:NdG) (i:Int):Option (Jn × (Int→Bool))→List Zr
 | none=>[]
 | some (j,_)=>Zh8 g.sp g.bj g.mb i++Zii g.mb g.es g.ck++jC g.bj g.bp j
def Vh (sv:Value) (bp:Nat) (lv:List Value) (dn:List Bool):List Value:=[sv,pt bp 0]++lv++dn.map Value.bool
def Xi (g:NdG) (m:Nd):List Value:=List.zipWith Zed m.leads g.ld
def Zbz (g:NdG) (m:Nd):List Zr:=(List.zipWith ldB m.leads g.ld).flatten
def Zbp (g:NdG) (m:Nd):Obj := .cells ⟨Vh (Zhx g m.site) g.bp (Xi g m) m.done⟩ 162
def Zcl (g:NdG) (m:Nd):List Zr:=[(g.np,Zbp g m)]
def Zj6 (g:NdG) (i:Int) (m:Nd):List Zr:=Zcl g m++Xl g.bp g.ba m.pl++siB g i m.site++Zbz g m
def Qj:List NdG→List Nd→Nat→List Zr
 | g::gs,m::ms,i=>Zj6 g i m++Qj gs ms (i+1)
 | _,_,_=>[]
def Vk:List NdG→List Nd→Nat→Nat→List Zr
 | g::gs,m::ms,i,0=>Qj gs ms (i+1)
 | g::gs,m::ms,i,s+1=>Zj6 g i m++Vk gs ms (i+1) s
 | _,_,_,_=>[]
theorem Zj7 : ∀ {gs:List NdG} {ms:List Nd} {i s:Nat} {g:NdG} {m:Nd},gs[s]? = some g→ms[s]? = some m→List.Perm (Qj gs ms i) (Zj6 g ((i+s:Nat):Int) m++Vk gs ms i s)
 | [],_,_,_,_,_,h,_=>by simp at h
 | _::_,[],_,_,_,_,_,h=>by simp at h
 | g0::gs,m0::ms,i,0,g,m,h,h2=>by
  simp at h h2;subst h;subst h2
  exact .refl _
 | g0::gs,m0::ms,i,s+1,g,m,h,h2=>by
  have ih:=Zj7 (gs:=gs) (ms:=ms) (i:=i+1) (s:=s) (g:=g) (m:=m) (by simpa using h) (by simpa using h2)
  simp only [Qj,Vk]
  rw [show i+(s+1)=i+1+s by omega]
  refine (ih.append_left _).trans ?_
  rw [← List.append_assoc,← List.append_assoc]
  exact List.perm_append_comm.append_right _
theorem Zwr : ∀ {gs:List NdG} {ms:List Nd} {i s:Nat} {g:NdG} {m:Nd},Vk (gs.set s g) (ms.set s m) i s=Vk gs ms i s
 | [],_,_,_,_,_=>by simp [Vk]
 | _::_,[],_,s,_,_=>by cases s<;>simp [Vk]
 | g0::gs,m0::ms,i,0,g,m=>rfl
 | g0::gs,m0::ms,i,s+1,g,m=>by
  simp only [List.set_cons_succ,Vk]
  rw [Zwr]
structure WdG where
 wp:Nat
 wv:Value
 wc:List Zr
 nv:Value
 nc:List Zr
 mb:Nat
 es:List MapEntry
 ck:Nat
 lv:Value
 lc:List Zr
 ev:Value
 ec:List Zr
 nd:List NdG
def Zay (G:WdG):Obj := .cells ⟨[G.wv,G.nv,.map (some G.mb),G.lv,G.ev]⟩ 150
def pc (p:Nat):List Value:=[pt p 0]
theorem Wz (p:Nat):(pc p).length=1:=rfl
theorem Zez (p:Nat):(pc p).all Value.oneCell'=true:=rfl
def Zgf (G:WdG):Zb:=[[(G.wp,Zay G)],G.wc,G.nc,[(G.mb,.map ⟨G.es⟩ G.ck)],G.lc,G.ec]
def Xj (G:WdG) (M:Wm):Zb:=Zgf G++[Qj G.nd M.n 0]
structure LdI (w:List Int) (s d:Nat) (x:Ld):Prop where
 ww:x.w=w
 id:x.id=s
 deal:x.deal=d
 att0:0≤x.att
 att1:x.att≤1048576
 told:x.told.length=7
 tok : ∀ t∈x.told,0≤t.ph∧t.ph≤5
 heard:x.heard<2 ^ w.length
 ph0:0≤x.phase
 ph1:x.phase≤5
 seen0:0≤x.seen
 seen1:x.seen≤1048576
structure NdI (w:List Int) (s:Nat) (m:Nd):Prop where
 leads:m.leads.length=6
 done:m.done.length=6
 b512:m.pl.b.length=512
 si:SI m.pl ⟨Zn m.pl.b,m.pl.off⟩
 up : ∀ j ref,m.site=some (j,ref)→j=⟨Zn m.pl.b,false⟩∧m.pl.off=false
 dn:m.site=none→m.pl.off=true
 ldi : ∀ (d:Nat) x,m.leads[d]? = some (some x)→LdI w s d x
structure NdOk (g:NdG) (m:Nd):Prop where
 ld:g.ld.length=6
 lok : ∀ (d:Nat) x,m.leads[d]? = some (some x) → ∀ q,g.ld[d]? = some q→LdOk q.2.1 q.2.2 x
 map : ∀ j ref,m.site=some (j,ref)→Zy iv g.es ref
theorem NdI.pl {w:List Int} {s:Nat} {m:Nd} (h:NdI w s m):PlOk m.pl:=h.si.ji.pl
theorem NdI.jn {w:List Int} {s:Nat} {m:Nd} (h:NdI w s m) {j:Jn} {ref:Int→Bool} (hs:m.site=some (j,ref)):SI m.pl j:=by
 obtain ⟨e1,e2⟩:=h.up j ref hs
 have:=h.si
 rw [e2] at this
 rw [e1]
 exact this
structure WI (M:Wm):Prop where
 w0:Ym M.w=none
 wl:M.w.length≤7
 w1:1≤M.w.length
 wn:M.n.length=M.w.length
 fr : ∀ f∈M.l,¬ X5 f∧f.to<M.w.length∧f.fr<M.w.length
 evl:M.ev.length≤500
 nd : ∀ (s:Nat) m,M.n[s]? = some m→NdI M.w s m
structure WdOk (G:WdG) (M:Wm):Prop where
 w:Vec 3 1 ic G.wv M.w G.wc
 nodes:Vec 157 1 pc G.nv (G.nd.map (·.np)) G.nc
 ndl:G.nd.length=M.n.length
 br:Zy pk G.es M.br
 l:Z7 G.lv M.l G.lc
 ev:Vec 174 3 ec G.ev M.ev G.ec
 nd : ∀ (s:Nat) g m,G.nd[s]? = some g→M.n[s]? = some m→NdOk g m
end Go.HL
end

/-! WoD -/
section
namespace Go.HL
open Go Go.Proofs
structure WdIn (L:Zb) (G:WdG) (M:Wm):Prop where
 wp:Has L G.wp (Zay G)
 ns : ∃ a cap,G.nv = .slice a M.n.length cap∧Rd pc 1 L a (G.nd.map (·.np))
 ws : ∃ a cap,G.wv = .slice a M.w.length cap∧Rd ic 1 L a M.w
 ls : ∃ a cap,G.lv = .slice a M.l.length cap∧Rd fc 9 L a M.l
 es : ∃ a cap,G.ev = .slice a M.ev.length cap
theorem Rd.mono {α:Type} {enc:α→List Value} {sz:Nat} {L L':Zb} {a:Option Addr} {xs:List α} (h:Rd enc sz L a xs) (hl : ∀ b o,Has L b o→Has L' b o):Rd enc sz L' a xs:=by
 rcases h with h|⟨b,i,l,E,fr,h1,hb,hg⟩
 ·exact .inl h
 ·exact .inr ⟨b,i,l,E,fr,h1,hl _ _ hb,hg⟩
theorem wdIn {L:Zb} {G:WdG} {M:Wm} (h:WdOk G M) (hl : ∀ b o,Has (Zgf G) b o→Has L b o):WdIn L G M:=by
 refine ⟨hl _ _ Zh,?_,?_,?_,?_⟩
 ·obtain ⟨a,cap,e,-,hR⟩:=h.nodes.rd Wz
  refine ⟨a,cap,by rw [e,List.length_map,h.ndl],(hR []).mono fun b o hb=>hl b o ?_⟩
  simp only [Has,List.flatten_cons,List.flatten_nil,List.append_nil,Zgf] at hb ⊢
  simp [hb]
 ·obtain ⟨a,cap,e,-,hR⟩:=h.w.rd Wh
  refine ⟨a,cap,e,(hR []).mono fun b o hb=>hl b o ?_⟩
  simp only [Has,List.flatten_cons,List.flatten_nil,List.append_nil,Zgf] at hb ⊢
  simp [hb]
 ·obtain ⟨a,cap,e,-,hR⟩:=h.l.rd Zl
  refine ⟨a,cap,e,(hR []).mono fun b o hb=>hl b o ?_⟩
  simp only [Has,List.flatten_cons,List.flatten_nil,List.append_nil,Zgf] at hb ⊢
  simp [hb]
 ·obtain ⟨a,cap,e,-,hR⟩:=h.ev.rd U0
  exact ⟨a,cap,e⟩
def Xs (M:Wm) (s:Int):Option Nat:=if s<0∨M.n.length≤s then some 2 else none
def Zf (M:Wm) (s:Int):Nd:=M.n.getD s.toNat ⟨⟨[],false,0⟩,none,[],[]⟩
def Zco (M:Wm) (s:Int):Option Nat:=match Xs M s with
 | some e=>some e
 | none=>if (Zf M s).site.isNone then some 6 else none
def Zk (G:WdG) (s:Int):NdG:=G.nd.getD s.toNat ⟨0,0,0,0,0,0,[],0,[]⟩
theorem Y8 {M:Wm} {s:Int} (h:Xs M s=none):0≤s∧s<M.n.length:=by
 unfold Xs at h
 split at h
 ·cases h
 ·omega
theorem Zka {M:Wm} {s:Int} (h0:0≤s) (h1:s<M.n.length):Xs M s=none:=if_neg (by omega)
theorem getD_some {α:Type} {l:List α} {i:Nat} {x:α} (h:i<l.length):l[i]? = some (l.getD i x):=by simp [List.getD,h]
theorem wd_np {L:Zb} {G:WdG} {M:Wm} {s:Int} (hI:WdIn L G M) (hl:G.nd.length=M.n.length) (h0:0≤s) (h1:s<M.n.length) : ∃ b i l F fr cap,G.nv=sl b i M.n.length cap∧Has L b (.cells ⟨l⟩ F fr)∧l[i+s.toNat]? = some (pt (Zk G s).np 0):=by
 obtain ⟨a,cap,hnv,hR⟩:=hI.ns
 obtain ⟨b,i,l,F,fr,rfl,hb,hg⟩:=hR.at1 (j:=s) h0 (by simp;omega)
 refine ⟨b,i,l,F,fr,cap,hnv,hb,?_⟩
 have e:(G.nd.map (·.np))[s.toNat]'(by simp;omega)=(Zk G s).np:=by
  rw [List.getElem_map]
  unfold Zk
  rw [List.getD,List.getElem?_eq_getElem (by omega)]
  rfl
 rw [e] at hg
 exact hg 0 _ rfl
theorem Wc {sv:Value} {bp:Nat} {lv:List Value} {dn:List Bool} {k:Nat} {v:Value} (h:[sv,pt bp 0][k]? = some v):(Vh sv bp lv dn)[0+k]? = some v:=by
 have hlt:k<[sv,pt bp 0].length:=(List.getElem?_eq_some_iff.1 h).1
 rw [Nat.zero_add,Vh,List.append_assoc,List.getElem?_append_left hlt,h]
theorem Vq {M:Wm} (s:Int):(Xs M s=some 2)∨(Xs M s=none∧0≤s∧s<M.n.length):=by
 by_cases h:s<0∨M.n.length≤s
 ·exact .inl (if_pos h)
 ·exact .inr ⟨if_neg h,by omega,by omega⟩
set_option maxHeartbeats 2000000 attribute [local irreducible] HW HO HQ HD HC QOp Has Upd Zt Gets Z8 Z0 Zo Xm Zz Zj Xp Zy
attribute [local irreducible] Vh
theorem Vz (T:Nat) (E:Nat→Addr) (G:WdG) (M:Wm) (s:Int) (L:Zb) (hG:Er T E [2] L) (hI:WdIn L G M) (hl:G.nd.length=M.n.length):HC Tryz.prog 157 [pt G.wp 0,iv s] L (fun v L'=>v=(match Xs M s with
  | some e => .tuple ⟨[.pointer none,eV T E (some e)]⟩
  | none => .tuple ⟨[pt (Zk G s).np 0,.nilIface]⟩)∧L'=L):=by
 have hw:=hI.wp
 unfold Zay at hw
 by_cases h:s<0∨M.n.length≤s
 ·have e:Xs M s=some 2:=if_pos h
  obtain ⟨a,cap,hnv,hR⟩:=hI.ns
  rw [hnv] at hw
  simp only [e]
  by_cases h0:s<0
  ·refine Za (fun _ _=>Tryz.call157 _ _) Tryz.func157 rfl Tryz.ntmps157 (Nat.le_of_ble_eq_true rfl) ?_;simp only [Zd,Nat.reduceAdd]
   repeat' (first|refine uN ?_|refine Z2 S ?_|(refine uP ?_ ?_<;>(intro h;((try simp only [zs,zq,reduceCtorEq] at h);try exact zx)))|fail)
   exact Zeb rfl ⟨rfl,rfl⟩
  ·refine Za (fun _ _=>Tryz.call157 _ _) Tryz.func157 rfl Tryz.ntmps157 (Nat.le_of_ble_eq_true rfl) ?_;simp only [Zd,Nat.reduceAdd]
   repeat' (first|refine uN ?_|refine Z2 S ?_|(refine uP ?_ ?_<;>(intro h;((try simp only [zs,zq,reduceCtorEq] at h);try exact zx)))|fail)
   exact Zeb rfl ⟨rfl,rfl⟩
 ·have e:Xs M s=none:=if_neg h
  simp only [e]
  obtain ⟨b,i,l,F,fr,cap,hnv,hb,hg⟩:=wd_np hI hl (s:=s) (by omega) (by omega)
  rw [hnv] at hw
  refine Za (fun _ _=>Tryz.call157 _ _) Tryz.func157 rfl Tryz.ntmps157 (Nat.le_of_ble_eq_true rfl) ?_;simp only [Zd,Nat.reduceAdd]
  repeat' (first|refine uN ?_|refine Z2 S ?_|(refine uP ?_ ?_<;>(intro h;((try simp only [zs,zq,reduceCtorEq] at h);try exact zx)))|fail)
  exact Zeb rfl ⟨rfl,rfl⟩
theorem Zzy (T:Nat) (E:Nat→Addr) (G:WdG) (M:Wm) (s:Int) (L:Zb) (hG:Er T E [2,6] L) (hI:WdIn L G M) (hl:G.nd.length=M.n.length) (hN:Xs M s=none→Has L (Zk G s).np (Zbp (Zk G s) (Zf M s))):HC Tryz.prog 143 [pt G.wp 0,iv s] L (fun v L'=>v=(match Xs M s with
  | some e => .tuple ⟨[.pointer none,eV T E (some e)]⟩
  | none => .tuple ⟨[pt (Zk G s).np 0,eV T E (Zco M s)]⟩)∧L'=L):=by
 have kn:=Vz T E G M s L hG.sub hI hl
 rcases Vq (M:=M) s with he|⟨he,h0,h1⟩
 ·simp only [he] at kn ⊢
  refine Za (fun _ _=>Tryz.call143 _ _) Tryz.func143 rfl Tryz.ntmps143 (Nat.le_of_ble_eq_true rfl) ?_;simp only [Zd,Nat.reduceAdd]
  repeat' (first|refine uN ?_|refine uC (kn) ?_|(refine uP ?_ ?_<;>(intro h;((try simp only [zs,zq,reduceCtorEq] at h);try exact zx)))|fail)
  exact Zeb rfl ⟨rfl,rfl⟩
 ·have hN':=hN he
  have hu:Zco M s=if (Zf M s).site.isNone then some 6 else none:=by unfold Zco;rw [he]
  simp only [he] at kn ⊢
  unfold Zbp at hN'
  cases hs:(Zf M s).site with
  | none =>
   rw [hs] at hN' hu
   rw [hu]
   have g0:(Vh (.pointer none) (Zk G s).bp (Xi (Zk G s) (Zf M s)) (Zf M s).done)[0+0]? = some (.pointer none):=Wc rfl
   refine Za (fun _ _=>Tryz.call143 _ _) Tryz.func143 rfl Tryz.ntmps143 (Nat.le_of_ble_eq_true rfl) ?_;simp only [Zd,Nat.reduceAdd]
   repeat' (first|refine uN ?_|refine uC (kn) ?_|(refine uP ?_ ?_<;>(intro h;((try simp only [zs,zq,reduceCtorEq] at h);try exact zx)))|fail)
   exact Zeb rfl ⟨rfl,rfl⟩
  | some q =>
   rw [hs] at hN' hu
   rw [hu]
   have g0:(Vh (pt (Zk G s).sp 0) (Zk G s).bp (Xi (Zk G s) (Zf M s)) (Zf M s).done)[0+0]? = some (pt (Zk G s).sp 0):=Wc rfl
   obtain ⟨q1,q2⟩:=q
   refine Za (fun _ _=>Tryz.call143 _ _) Tryz.func143 rfl Tryz.ntmps143 (Nat.le_of_ble_eq_true rfl) ?_;simp only [Zd,Nat.reduceAdd]
   repeat' (first|refine uN ?_|refine uC (kn) ?_|(refine uP ?_ ?_<;>(intro h;((try simp only [zs,zq,reduceCtorEq] at h);try exact zx)))|fail)
   exact Zeb rfl ⟨rfl,rfl⟩
def Zs1 (M:Wm) (k:Int):Option Nat:=if k<0∨M.l.length≤k then some 4 else none
theorem Zdv (T:Nat) (E:Nat→Addr) (G:WdG) (M:Wm) (k:Int) (L:Zb) (hG:Er T E [4] L) (hI:WdIn L G M):HC Tryz.prog 149 [pt G.wp 0,iv k] L (fun v L'=>v=eV T E (Zs1 M k)∧L'=L):=by
 have hw:=hI.wp
 unfold Zay at hw
 obtain ⟨a,cap,hlv,-⟩:=hI.ls
 rw [hlv] at hw
 unfold Zs1
 by_cases h0:k<0
 ·rw [if_pos (.inl h0)]
  refine Za (fun _ _=>Tryz.call149 _ _) Tryz.func149 rfl Tryz.ntmps149 (Nat.le_of_ble_eq_true rfl) ?_;simp only [Zd,Nat.reduceAdd]
  repeat' (first|refine uN ?_|(refine uP ?_ ?_<;>(intro h;((try simp only [zs,zq,reduceCtorEq] at h);try exact zx)))|fail)
  exact Um rfl ⟨rfl,rfl⟩
 ·by_cases h1:M.l.length≤k
  ·rw [if_pos (.inr h1)]
   refine Za (fun _ _=>Tryz.call149 _ _) Tryz.func149 rfl Tryz.ntmps149 (Nat.le_of_ble_eq_true rfl) ?_;simp only [Zd,Nat.reduceAdd]
   repeat' (first|refine uN ?_|(refine uP ?_ ?_<;>(intro h;((try simp only [zs,zq,reduceCtorEq] at h);try exact zx)))|fail)
   exact Um rfl ⟨rfl,rfl⟩
  ·rw [if_neg (by omega)]
   refine Za (fun _ _=>Tryz.call149 _ _) Tryz.func149 rfl Tryz.ntmps149 (Nat.le_of_ble_eq_true rfl) ?_;simp only [Zd,Nat.reduceAdd]
   repeat' (first|refine uN ?_|(refine uP ?_ ?_<;>(intro h;((try simp only [zs,zq,reduceCtorEq] at h);try exact zx)))|fail)
   exact Um rfl ⟨rfl,rfl⟩
end Go.HL
end

/-! WoE -/
section
namespace Go.HL
open Go Go.Proofs
def Wl (s:Int) (ph:Nat→Int) (q:List Bool × List Evt) (d:Nat):List Bool × List Evt:=
 if q.1.getD d true=true∨(ph d≠2∧ph d≠3) then q else (q.1.set d true,if q.2.length<500 then q.2++[⟨s,d,ph d⟩] else q.2)
def Ur (s:Int) (ph:Nat→Int) (q:List Bool × List Evt) (k:Nat):List Bool × List Evt:=(List.range k).foldl (Wl s ph) q
def V3 (j:Jn) (d:Nat):Int:=(j.l.getD d Zm).s.ph
def Xd (s:Int) (m:Nd) (ev:List Evt):List Bool × List Evt:=match m.site with
 | none=>(m.done,ev)
 | some (j,_)=>Ur s (V3 j) (m.done,ev) 6
theorem Qk (s:Int) (ph:Nat→Int) (q:List Bool × List Evt) (k:Nat):Ur s ph q (k+1)=Wl s ph (Ur s ph q k) k:=by
 unfold Ur
 rw [List.range_succ,List.foldl_append]
 rfl
theorem Zyv {s:Int} {ph:Nat→Int} {q:List Bool × List Evt} {d:Nat}:(Wl s ph q d).1.length=q.1.length:=by
 unfold Wl;split<;>simp
theorem noteD_ev {s:Int} {ph:Nat→Int} {q:List Bool × List Evt} {d:Nat} (h:q.2.length≤500):(Wl s ph q d).2.length≤500:=by
 unfold Wl
 split
 ·exact h
 ·simp only
  split
  ·simp;omega
  ·exact h
theorem Zbe {s:Int} {ph:Nat→Int} {q:List Bool × List Evt} : ∀ k,(Ur s ph q k).1.length=q.1.length
 | 0=>rfl
 | k+1=>by rw [Qk,Zyv,Zbe k]
theorem Zfv {s:Int} {ph:Nat→Int} {q:List Bool × List Evt} (h:q.2.length≤500) : ∀ k,(Ur s ph q k).2.length≤500
 | 0=>h
 | k+1=>by rw [Qk];exact noteD_ev (Zfv h k)
theorem Zfu {sv:Value} {bp:Nat} {lv:List Value} {dn:List Bool} (h:lv.length=6):([sv,pt bp 0]++lv).length=8:=by simp [h]
theorem ndL_done {sv:Value} {bp:Nat} {lv:List Value} {dn:List Bool} {d:Nat} {b:Bool} (hl:lv.length=6) (h:dn[d]? = some b):(Vh sv bp lv dn)[0+8+(d:Int).toNat*1]? = some (.bool b):=by
 rw [Vh,List.getElem?_append_right (by rw [Zfu (dn:=dn) (bp:=bp) (sv:=sv) hl];omega),Zfu (dn:=dn) (bp:=bp) (sv:=sv) hl]
 rw [show 0+8+(d:Int).toNat*1-8=d by omega,List.getElem?_map,h]
 rfl
theorem ndL_putD {sv:Value} {bp:Nat} {lv:List Value} {dn:List Bool} {d:Nat} (b:Bool) (hl:lv.length=6) (h:d<dn.length):Zt (Vh sv bp lv dn) (0+8+(d:Int).toNat*1) [.bool b] (Vh sv bp lv (dn.set d b)):=by
 have e:Vh sv bp lv (dn.set d b)=(Vh sv bp lv dn).set (0+8+(d:Int).toNat*1) (.bool b):=by
  rw [Vh,Vh,List.set_append_right _ _ (by rw [Zfu (dn:=dn) (bp:=bp) (sv:=sv) hl];omega),Zfu (dn:=dn) (bp:=bp) (sv:=sv) hl,List.map_set]
  rw [show 0+8+(d:Int).toNat*1-8=d by omega]
 rw [e]
 refine Vf ?_
 rw [Vh,List.length_append,Zfu (dn:=dn) (bp:=bp) (sv:=sv) hl,List.length_map]
 omega
set_option maxHeartbeats 2000000 attribute [local irreducible] HW HO HQ HD HC QOp Has Upd Zt Gets Z8 Z0 Zo Xm Zz Zj Xp Zy
attribute [local irreducible] Vh Yr Wl
theorem Zej (sp bj mb bp:Nat) (id:Int) (j:Jn) (d:Nat) (L:Zb) (h1:Has L sp (.cells ⟨[pt bj 0,iv id,.map (some mb)]⟩ 211)) (h2:Has L bj (.cells ⟨Yr bp j⟩ 251)) (hl:j.l.length=6) (hd:d<6) :
  HC Tryz.prog 147 [pt sp 0,iv d] L (fun v L'=>v = .tuple ⟨[.agg ⟨sc (j.l.getD d Zm).s⟩,.nilIface]⟩∧L'=L):=by
 have kg : ∀ c:List Zr,HC _ _ _ (c::L) _:=fun c=>Zhc bj bp j d (c::L) (Zc h2) hl hd
 refine Za (fun _ _=>Tryz.call147 _ _) Tryz.func147 rfl Tryz.ntmps147 (Nat.le_of_ble_eq_true rfl) ?_;simp only [Zd,Nat.reduceAdd]
 repeat' (first|refine uN ?_|refine uC (kg _) ?_|(refine uB ?_;intro b)|fail)
 exact W9 (LS.c (LS.refl _)) ⟨rfl,rfl⟩ (hx:=Xy S (hg:=Ze rfl (Ze rfl (Ze rfl Z4))))
structure SiIn (L:Zb) (g:NdG) (id:Int) (j:Jn):Prop where
 si:Has L g.sp (.cells ⟨[pt g.bj 0,iv id,.map (some g.mb)]⟩ 211)
 jn:Has L g.bj (.cells ⟨Yr g.bp j⟩ 251)
structure NpIn (L:Zb) (nv:Value) (n:Nat) (s:Int) (np:Nat):Prop where
 at_ : ∃ b i l F fr cap,nv=sl b i n cap∧Has L b (.cells ⟨l⟩ F fr)∧l[i+s.toNat]? = some (pt np 0)
 lo:0≤s
 hi:s<n
theorem Zh1 (G:WdG) (s:Int) (g:NdG) (m:Nd) (ev:List Evt) (n:Nat) (L:Zb) (hv:Vec 174 3 ec G.ev ev G.ec) (hl:ev.length≤500) (hp:NpIn L G.nv n s g.np) (hd:m.done.length=6) (hlv:(Xi g m).length=6)
  (hs : ∀ j ref,m.site=some (j,ref)→SiIn L g s j∧j.l.length=6):HC Tryz.prog 159 [pt G.wp 0,iv s] ([(G.wp,Zay G)]::G.ec::Zcl g m::L)
  (fun v L' => ∃ evv c,Vec 174 3 ec evv (Xd s m ev).2 c∧v = .tuple ⟨[]⟩∧L'=[(G.wp,Zay { G with ev:=evv,ec:=c })]::c::Zcl g { m with done:=(Xd s m ev).1 }::L):=by
 obtain ⟨wp,wv,wc,nv,nc,mb,es,ck,lv,lc,evv,evc,nd⟩:=G
 simp only at hv hp
 obtain ⟨⟨b,i,l,F,fr,cap,rfl,hb,hg⟩,h0,h1⟩:=hp
 obtain ⟨pl,site,leads,done⟩:=m
 simp only at hd hs
 simp only [Zay,Zcl,Zbp]
 cases site with
 | none =>
  have g0:(Vh (.pointer none) g.bp (Xi g ⟨pl,none,leads,done⟩) done)[0+0]? = some (.pointer none):=Wc rfl
  simp only [Xd,Zhx]
  refine Za (fun _ _=>Tryz.call159 _ _) Tryz.func159 rfl Tryz.ntmps159 (Nat.le_of_ble_eq_true rfl) ?_;simp only [Zd,Nat.reduceAdd]
  repeat' (first|refine uN ?_|refine Z2 S ?_|refine Yp S ?_|(refine uB ?_;intro b)|(refine uP ?_ ?_<;>(intro h;((try simp only [zs,zq,reduceCtorEq] at h);try exact zx)))|refine da 101 ?_|fail)
  exact er0 rfl ⟨_,_,hv,rfl,rfl⟩
 | some q =>
  obtain ⟨j,ref⟩:=q
  obtain ⟨⟨hsi,hjn⟩,hjl⟩:=hs j ref rfl
  have g0 : ∀ dn,(Vh (pt g.sp 0) g.bp (Xi g ⟨pl,some (j,ref),leads,done⟩) dn)[0+0]? = some (pt g.sp 0):=fun dn=>Wc rfl
  have hlv2 : ∀ dn,(Xi g ⟨pl,some (j,ref),leads,dn⟩)=(Xi g ⟨pl,some (j,ref),leads,done⟩):=fun dn=>rfl
  generalize hLV:Xi g ⟨pl,some (j,ref),leads,done⟩=LV at g0 hlv hlv2
  simp only [Xd,Zhx]
  have g00:=g0 done
  refine Za (fun _ _=>Tryz.call159 _ _) Tryz.func159 rfl Tryz.ntmps159 (Nat.le_of_ble_eq_true rfl) ?_;simp only [Zd,Nat.reduceAdd]
  repeat' (first|refine uN ?_|refine Z2 S ?_|refine Yp S ?_|(refine uB ?_;intro b)|(refine uP ?_ ?_<;>(intro h;((try simp only [zs,zq,reduceCtorEq] at h);try exact zx)))|refine da 101 ?_|fail)
  refine Zp (σ:=Nat × (Value × List Zr)) (fun q=>[(0,pt wp 0),(1,iv s),(4,pt g.np 0),(20,iv q.1)])
   (fun q=>[(wp,.cells ⟨[wv,sl b i n cap,.map (some mb),lv,q.2.1]⟩ 150)]::q.2.2::[(g.np,.cells ⟨Vh (pt g.sp 0) g.bp LV (Ur s (V3 j) (done,ev) q.1).1⟩ 162)]::L)
   (fun q=>q.1≤6∧Vec 174 3 ec q.2.1 (Ur s (V3 j) (done,ev) q.1).2 q.2.2) (fun q=>6-q.1) (0,evv,evc) uS (List.Sublist.refl _) ⟨by simp,hv⟩ ?_
  rintro ⟨d,ev1,c1⟩ ⟨hd6,hv1⟩
  simp only at hd6 hv1 ⊢
  have hdl:=Zbe (s:=s) (ph:=V3 j) (q:=(done,ev)) d
  have hel:=Zfv (s:=s) (ph:=V3 j) (q:=(done,ev)) hl d
  have hsucc:=Qk s (V3 j) (done,ev) d
  generalize hRR:Ur s (V3 j) (done,ev) d=R at *
  obtain ⟨dn,es1⟩:=R
  simp only at hdl hel hv1 ⊢
  by_cases hlt:d<6
  ·have ks : ∀ c1 c2 c3:List Zr,HC _ _ _ (c1::c2::c3::L) _:=fun c1 c2 c3=>Zej g.sp g.bj g.mb g.bp s j d (c1::c2::c3::L) (Zc (Zc (Zc hsi))) (Zc (Zc (Zc hjn))) hjl hlt
   have g00:=g0 dn
   have hdn:dn[d]? = some (dn.getD d true):=getD_some (by omega)
   have gD:=ndL_done (sv:=pt g.sp 0) (bp:=g.bp) (lv:=LV) hlv hdn
   have gP:=ndL_putD (sv:=pt g.sp 0) (bp:=g.bp) (lv:=LV) (dn:=dn) (d:=d) true hlv (by omega)
   obtain ⟨a5,cap5,he5,-,-⟩:=hv1.rd U0
   subst he5
   have hnx:Ur s (V3 j) (done,ev) (d+1)=Wl s (V3 j) (dn,es1) d:=hsucc
   by_cases hdone:dn.getD d true=true
   ·rw [hdone] at gD
    have e2:Wl s (V3 j) (dn,es1) d=(dn,es1):=by unfold Wl;rw [if_pos (.inl hdone)]
    rw [e2] at hnx
    repeat' (first|refine uN ?_|refine Z2 S ?_|refine Yp S ?_|refine uC (ks _ _ _) ?_|refine Yb (fun _=>ks _ _ _) ?_|refine Yc (fun _=>ks _ _ _) ?_|refine Yd (fun _=>ks _ _ _) ?_|refine Ye (fun _=>ks _ _ _) ?_|(refine uB ?_;intro b)|(refine uP ?_ ?_<;>(intro h;((try simp only [zs,zq,reduceCtorEq] at h);try exact zx)))|refine da 101 ?_|fail)
    refine Zg (d+1,.slice a5 es1.length cap5,c1) uS ?_ ⟨by simp only;omega,?_⟩ (by simp only;omega)
    ·rw [hnx];exact LS.c (LS.refl _)
    ·rw [hnx];exact hv1
   ·have hdf:dn.getD d true=false:=by simpa using hdone
    rw [hdf] at gD
    by_cases hph:V3 j d≠2∧V3 j d≠3
    ·have e2:Wl s (V3 j) (dn,es1) d=(dn,es1):=by unfold Wl;rw [if_pos (.inr hph)]
     rw [e2] at hnx
     unfold V3 at hph
     repeat' (first|refine uN ?_|refine Z2 S ?_|refine Yp S ?_|refine uC (ks _ _ _) ?_|refine Yb (fun _=>ks _ _ _) ?_|refine Yc (fun _=>ks _ _ _) ?_|refine Yd (fun _=>ks _ _ _) ?_|refine Ye (fun _=>ks _ _ _) ?_|(refine uB ?_;intro b)|(refine uP ?_ ?_<;>(intro h;((try simp only [zs,zq,reduceCtorEq] at h);try exact zx)))|refine da 101 ?_|fail)
     all_goals refine Zg (d+1,.slice a5 es1.length cap5,c1) uS ?_ ⟨by simp only;omega,?_⟩ (by simp only;omega)
     all_goals rw [hnx]
     all_goals first|exact hv1|exact LS.c (LS.refl _)
    ·have e2:Wl s (V3 j) (dn,es1) d=(dn.set d true,if es1.length<500 then es1++[⟨s,d,V3 j d⟩] else es1):=by unfold Wl;rw [if_neg (by simp only [hdf];intro h;rcases h with h|h;cases h;exact hph h)]
     rw [e2] at hnx
     have hph':=hph
     unfold V3 at hph'
     by_cases h500:es1.length<500
     ·rw [if_pos h500] at hnx
      repeat' (first|refine uN ?_|refine Z2 S ?_|refine Yp S ?_|refine uC (ks _ _ _) ?_|refine Yb (fun _=>ks _ _ _) ?_|refine Yc (fun _=>ks _ _ _) ?_|refine Yd (fun _=>ks _ _ _) ?_|refine Ye (fun _=>ks _ _ _) ?_|(refine uB ?_;intro b)|(refine uP ?_ ?_<;>(intro h;((try simp only [zs,zq,reduceCtorEq] at h);try exact zx)))|refine da 101 ?_|fail)
      all_goals refine fo 3 ?_
      all_goals refine Zce S ⟨s,d,V3 j d⟩ hv1 U0 Zt0 ?_
      all_goals intro v' c' hv'
      all_goals obtain ⟨a6,cap6,he6,-,-⟩:=hv'.rd U0
      all_goals subst he6
      all_goals repeat' (first|refine uN ?_|refine Z2 S ?_|refine Yp S ?_|refine uC (ks _ _ _) ?_|refine Yb (fun _=>ks _ _ _) ?_|refine Yc (fun _=>ks _ _ _) ?_|refine Yd (fun _=>ks _ _ _) ?_|refine Ye (fun _=>ks _ _ _) ?_|(refine uB ?_;intro b)|(refine uP ?_ ?_<;>(intro h;((try simp only [zs,zq,reduceCtorEq] at h);try exact zx)))|refine da 101 ?_|fail)
      all_goals refine Zg (d+1,.slice a6 (es1++[⟨s,d,V3 j d⟩]:List Evt).length cap6,c') uS ?_ ⟨by simp only;omega,?_⟩ (by simp only;omega)
      all_goals rw [hnx]
      all_goals first|exact hv'|exact uL
     ·rw [if_neg h500] at hnx
      repeat' (first|refine uN ?_|refine Z2 S ?_|refine Yp S ?_|refine uC (ks _ _ _) ?_|refine Yb (fun _=>ks _ _ _) ?_|refine Yc (fun _=>ks _ _ _) ?_|refine Yd (fun _=>ks _ _ _) ?_|refine Ye (fun _=>ks _ _ _) ?_|(refine uB ?_;intro b)|(refine uP ?_ ?_<;>(intro h;((try simp only [zs,zq,reduceCtorEq] at h);try exact zx)))|refine da 101 ?_|fail)
      all_goals refine Zg (d+1,.slice a5 es1.length cap5,c1) uS ?_ ⟨by simp only;omega,?_⟩ (by simp only;omega)
      all_goals rw [hnx]
      all_goals first|exact hv1|exact LS.c (LS.refl _)
  ·obtain rfl:d=6:=by omega
   have hR6:Ur s (V3 j) (done,ev) 6=(dn,es1):=hRR
   rw [hR6]
   repeat' (first|refine uN ?_|refine Z2 S ?_|refine Yp S ?_|(refine uB ?_;intro b)|(refine uP ?_ ?_<;>(intro h;((try simp only [zs,zq,reduceCtorEq] at h);try exact zx)))|refine da 101 ?_|fail)
   exact ee0 rfl ⟨_,_,hv1,rfl,by rw [hlv2 dn]⟩
end Go.HL
end

/-! WoF -/
section
namespace Go.HL
open Go Go.Proofs
def noLeads:List (Option Ld):=List.replicate 6 none
def Zyt:List Value:=List.replicate 6 (.pointer none)
theorem Zj9 : ∀ (ld:List (Nat × Value × List Zr)),ld.length=6→List.zipWith Zed noLeads ld=Zyt
 | [_,_,_,_,_,_],_=>rfl
theorem Zrs {sv sv':Value} {bp:Nat} {lv:List Value} {dn:List Bool}:Zt (Vh sv bp lv dn) (0+0) [sv'] (Vh sv' bp lv dn):=by
 have:Vh sv' bp lv dn=(Vh sv bp lv dn).set (0+0) sv':=rfl
 rw [this]
 exact Vf (by simp [Vh])
theorem ndL_putL {sv:Value} {bp:Nat} {lv lv':List Value} {dn:List Bool} (h:lv'.length=lv.length):Zt (Vh sv bp lv dn) (0+2) lv' (Vh sv bp lv' dn):=by
 have key:=Zkf (l:=Vh sv bp lv dn) (i:=0+2) (vs:=lv') (by rw [Vh,h];simp;omega)
 have e:(Vh sv bp lv dn).take (0+2)++lv'++(Vh sv bp lv dn).drop (0+2+lv'.length)=Vh sv bp lv' dn:=by
  rw [h]
  have e1:(Vh sv bp lv dn).drop (0+2+lv.length)=dn.map Value.bool:=by
   rw [Vh]
   have:0+2+lv.length=([sv,pt bp 0]++lv).length:=by simp;omega
   rw [this,List.drop_left]
  rw [e1]
  simp [Vh]
 rw [e] at key
 exact key
theorem Zc5 {sv:Value} {bp:Nat} {lv:List Value} {dn:List Bool} {d:Nat} {v:Value} (h:lv[d]? = some v):(Vh sv bp lv dn)[0+2+(d:Int).toNat*1]? = some v:=by
 have hlt:d<lv.length:=(List.getElem?_eq_some_iff.1 h).1
 rw [Vh,List.append_assoc,List.getElem?_append_right (by simp<;>omega),List.getElem?_append_left (by simp<;>omega)]
 rw [show 0+2+(d:Int).toNat*1-[sv,pt bp 0].length=d by simp<;>omega]
 exact h
theorem Zrt {sv:Value} {bp:Nat} {lv:List Value} {dn:List Bool} {d:Nat} (v:Value) (h:d<lv.length):Zt (Vh sv bp lv dn) (0+2+(d:Int).toNat*1) [v] (Vh sv bp (lv.set d v) dn):=by
 have e:Vh sv bp (lv.set d v) dn=(Vh sv bp lv dn).set (0+2+(d:Int).toNat*1) v:=by
  rw [Vh,Vh,List.append_assoc,List.append_assoc,List.set_append_right _ _ (by simp<;>omega),List.set_append_left _ _ (by simp<;>omega)]
  rw [show 0+2+(d:Int).toNat*1-[sv,pt bp 0].length=d by simp<;>omega]
 rw [e]
 refine Vf ?_
 simp [Vh]
 omega
set_option maxHeartbeats 2000000 attribute [local irreducible] HW HO HQ HD HC QOp Has Upd Zt Gets Z8 Z0 Zo Xm Zz Zj Xp Zy
attribute [local irreducible] Vh Yr Xl Zs
theorem Zhz (g:NdG) (m:Nd) (L:Zb) (hl:(Xi g m).length=6) (hd:g.ld.length=6):HC Tryz.prog 156 [pt g.np 0] (Zcl g m::L) (fun v L'=>v = .tuple ⟨[]⟩∧L'=Zcl g { m with site:=none,leads:=noLeads }::L):=by
 have e:Xi g { m with site:=none,leads:=noLeads }=Zyt:=Zj9 _ hd
 simp only [Zcl,Zbp,e,Zhx]
 have p0:=Zrs (sv:=Zhx g m.site) (sv' := .pointer none) (bp:=g.bp) (lv:=Xi g m) (dn:=m.done)
 have p1:=ndL_putL (sv := .pointer none) (bp:=g.bp) (lv:=Xi g m) (lv':=Zyt) (dn:=m.done) (by rw [hl];rfl)
 refine Za (fun _ _=>Tryz.call156 _ _) Tryz.func156 rfl Tryz.ntmps156 (Nat.le_of_ble_eq_true rfl) ?_;simp only [Zd,Nat.reduceAdd]
 repeat' (first|refine uN ?_)
 exact ee0 rfl ⟨rfl,rfl⟩
def Y7 (s:Int) (m:Nd) (ev:List Evt) (f:Fr):Nd × List Evt × List Fr × Bool:=match m.site with
 | none=>(m,ev,[],false)
 | some (j,ref)=>if (Zs s ref m.pl j f).1.off then (⟨(Zs s ref m.pl j f).1,none,noLeads,m.done⟩,ev,[],false)
  else (⟨(Zs s ref m.pl j f).1,some ((Zs s ref m.pl j f).2.1,ref),m.leads,(Xd s ⟨(Zs s ref m.pl j f).1,some ((Zs s ref m.pl j f).2.1,ref),m.leads,m.done⟩ ev).1⟩,
   (Xd s ⟨(Zs s ref m.pl j f).1,some ((Zs s ref m.pl j f).2.1,ref),m.leads,m.done⟩ ev).2,(Zs s ref m.pl j f).2.2.1,(Zs s ref m.pl j f).2.2.2.isNone)
theorem NpIn.cons {L:Zb} {nv:Value} {n:Nat} {s:Int} {np:Nat} (h:NpIn L nv n s np) (c:List Zr):NpIn (c::L) nv n s np:=by
 obtain ⟨⟨b,i,l,F,fr,cap,h1,h2,h3⟩,h4,h5⟩:=h
 exact ⟨⟨b,i,l,F,fr,cap,h1,Zc h2,h3⟩,h4,h5⟩
def HearQ (G:WdG) (s:Int) (g:NdG) (m:Nd) (ref:Int→Bool) (ev:List Evt) (r:Pl × Jn × List Fr × Option Nat) (L:Zb) (v:Value) (L':Zb):Prop:=
 if r.1.off then v = .tuple ⟨[Ys,.bool false]⟩∧L'=[(G.wp,Zay G)]::G.ec::Zcl g ⟨r.1,none,noLeads,m.done⟩::Xl g.bp g.ba r.1::L
 else ∃ fv c evv c2,Z7 fv r.2.2.1 c∧Vec 174 3 ec evv (Xd s ⟨r.1,some (r.2.1,ref),m.leads,m.done⟩ ev).2 c2∧v = .tuple ⟨[fv,.bool r.2.2.2.isNone]⟩ ∧
  L'=[(G.wp,Zay { G with ev:=evv,ec:=c2 })]::c2::Zcl g ⟨r.1,some (r.2.1,ref),m.leads,(Xd s ⟨r.1,some (r.2.1,ref),m.leads,m.done⟩ ev).1⟩::Zh8 g.sp g.bj g.mb s::Zii g.mb g.es g.ck::Xl g.bp g.ba r.1::jC g.bj g.bp r.2.1::c::L
theorem Zs6 (T:Nat) (E:Nat→Addr) (G:WdG) (s:Int) (g:NdG) (m:Nd) (f:Fr) (ev:List Evt) (n:Nat) (j:Jn) (ref:Int→Bool) (L:Zb) (hG:Er T E [2,3,5,6] L) (hp:NpIn L G.nv n s g.np) (hv:Vec 174 3 ec G.ev ev G.ec) (hl:ev.length≤500)
  (hN:NdOk g m) (w:List Int) (sn:Nat) (hI:NdI w sn m) (hs:m.site=some (j,ref)) (hj':(Zs s ref m.pl j f).2.1.l.length=6):HC Tryz.prog 152 [pt G.wp 0,iv s,.agg ⟨fc f⟩] ([(G.wp,Zay G)]::G.ec::Zcl g m::Zh8 g.sp g.bj g.mb s::Zii g.mb g.es g.ck::Xl g.bp g.ba m.pl::jC g.bj g.bp j::L)
  (HearQ G s g m ref ev (Zs s ref m.pl j f) L):=by
 have hF:=hN.map j ref hs
 have hj:=(hI.jn hs).ji.jn
 have kh:=fun L hG=>Zss T E g.sp g.bj g.mb g.bp g.ba s g.es g.ck ref m.pl j f L hG hF hI.pl hj
 generalize Zs s ref m.pl j f=r at kh hj' ⊢
 obtain ⟨pl',j',fs,er⟩:=r
 simp only at kh hj' ⊢
 have hlvs : ∀ x,(Xi g ⟨pl',x,m.leads,m.done⟩).length=6:=fun x=>by simp [Xi,hI.leads,hN.ld]
 have hlvs0:(Xi g m).length=6:=by simp [Xi,hI.leads,hN.ld]
 have hpw:=Zhk g.bp g.ba pl'
 have kf:=fun L=>Zhz g m L hlvs0 hN.ld
 unfold HearQ
 obtain ⟨pl,site,leads,done⟩:=m
 simp only at hs kh kf hlvs ⊢
 subst hs
 obtain ⟨wp,wv,wc,nv,nc,mb,es,ck,lv,lc,evv,evc,nd⟩:=G
 simp only at hv hp ⊢
 have hp0:=hp
 obtain ⟨⟨nb,i,l,F,fr,cap,rfl,hb,hg⟩,h0,h1⟩:=hp
 have g0:(Vh (pt g.sp 0) g.bp (Xi g ⟨pl,some (j,ref),leads,done⟩) done)[0+0]? = some (pt g.sp 0):=Wc rfl
 have g1:(Vh (pt g.sp 0) g.bp (Xi g ⟨pl,some (j,ref),leads,done⟩) done)[0+1]? = some (pt g.bp 0):=Wc rfl
 simp only [Zay,Zcl,Zbp,Zhx] at kf ⊢
 cases hoff:pl'.off with
 | true =>
  simp only [if_true]
  rw [hoff] at hpw
  refine Za (fun _ _=>Tryz.call152 _ _) Tryz.func152 rfl Tryz.ntmps152 (Nat.le_of_ble_eq_true rfl) ?_;simp only [Zd,Nat.reduceAdd]
  repeat' (first|refine uN ?_|refine Zu S ?_|(refine uB ?_;intro b)|(refine uP ?_ ?_<;>(intro h;((try simp only [zs,zq,reduceCtorEq] at h);try exact zx)))|refine da 101 ?_|fail)
  refine fo 7 ?_
  refine fo 7 ?_
  refine fo 7 ?_
  refine fo 7 ?_
  refine gc (kh _ ?_) ?_
  ·exact ((((hG.cons _).cons _).cons _).cons _)
  rintro v L' ⟨fv,c,rfl,hfv,rfl⟩
  repeat' (first|refine uN ?_|refine Zu S ?_|refine Wq (qC (Yw (hpw) 2)) ?_|refine Yb (fun _=>Yw (hpw) 2) ?_|refine Yc (fun _=>Yw (hpw) 2) ?_|refine Yd (fun _=>Yw (hpw) 2) ?_|refine Ye (fun _=>Yw (hpw) 2) ?_|(refine uB ?_;intro b)|(refine uP ?_ ?_<;>(intro h;((try simp only [zs,zq,reduceCtorEq] at h);try exact zx)))|refine da 101 ?_|fail)
  refine fo 8 ?_
  refine gc (kf _) ?_
  rintro v L' ⟨rfl,rfl⟩
  repeat' (first|refine uN ?_|refine Zu S ?_|(refine uB ?_;intro b)|(refine uP ?_ ?_<;>(intro h;((try simp only [zs,zq,reduceCtorEq] at h);try exact zx)))|refine da 101 ?_|fail)
  exact W9 (L':=[(wp,.cells ⟨[wv,sl nb i n cap,.map (some mb),lv,evv]⟩ 150)]::evc::Zcl g ⟨pl',none,noLeads,done⟩::Xl g.bp g.ba pl'::L) (by simp only [Zcl,Zbp];exact uL) ⟨rfl,rfl⟩
 | false =>
  simp only [Bool.false_eq_true,if_false]
  rw [hoff] at hpw
  have hkn:=fun (M1:Nd) (hM:M1=⟨pl',some (j',ref),leads,done⟩) (G1:WdG) (hG1:G1=⟨wp,wv,wc,sl nb i n cap,nc,mb,es,ck,lv,lc,evv,evc,nd⟩) L (hq:NpIn L (sl nb i n cap) n s g.np) (hsi:SiIn L g s j')=>Zh1 G1 s g M1 ev n L (by subst hG1;exact hv) hl (by subst hG1;exact hq) (by subst hM;exact hI.done) (by subst hM;exact hlvs _) (by subst hM;intro j2 r2 h2;cases h2;exact ⟨hsi,hj'⟩)
  have hkn:=fun L hq hsi=>hkn _ rfl _ rfl L hq hsi
  simp only [Zay,Zcl,Zbp,Zhx] at hkn
  refine Za (fun _ _=>Tryz.call152 _ _) Tryz.func152 rfl Tryz.ntmps152 (Nat.le_of_ble_eq_true rfl) ?_;simp only [Zd,Nat.reduceAdd]
  repeat' (first|refine uN ?_|refine Zu S ?_|(refine uB ?_;intro b)|(refine uP ?_ ?_<;>(intro h;((try simp only [zs,zq,reduceCtorEq] at h);try exact zx)))|refine da 101 ?_|fail)
  refine fo 7 ?_
  refine fo 7 ?_
  refine fo 7 ?_
  refine fo 7 ?_
  refine gc (kh _ ?_) ?_
  ·exact ((((hG.cons _).cons _).cons _).cons _)
  rintro v L' ⟨fv,c,rfl,hfv,rfl⟩
  repeat' (first|refine uN ?_|refine Zu S ?_|refine Wq (qC (Yw (hpw) 2)) ?_|refine Yb (fun _=>Yw (hpw) 2) ?_|refine Yc (fun _=>Yw (hpw) 2) ?_|refine Yd (fun _=>Yw (hpw) 2) ?_|refine Ye (fun _=>Yw (hpw) 2) ?_|(refine uB ?_;intro b)|(refine uP ?_ ?_<;>(intro h;((try simp only [zs,zq,reduceCtorEq] at h);try exact zx)))|refine da 101 ?_|fail)
  refine fo 8 ?_
  refine fo 8 ?_
  refine fo 8 ?_
  refine gc (hkn _ ?_ ?_) ?_
  ·exact (((((((⟨⟨nb,i,l,F,fr,cap,rfl,hb,hg⟩,h0,h1⟩:NpIn L (sl nb i n cap) n s g.np).cons _).cons _).cons _).cons _).cons _).cons _)
  ·exact ⟨Zh,Zc (Zc (Zc Zh))⟩
  rintro v L' ⟨evv',c2,hv2,rfl,rfl⟩
  obtain ⟨af,capf,rfl,-,-⟩:=hfv.rd Zl
  cases er with
  | none =>
   repeat' (first|refine uN ?_|refine Zu S ?_|(refine uB ?_;intro b)|(refine uP ?_ ?_<;>(intro h;((try simp only [zs,zq,reduceCtorEq] at h);try exact zx)))|refine da 101 ?_|fail)
   exact W9 uL ⟨_,_,_,_,hfv,hv2,rfl,rfl⟩
  | some x =>
   repeat' (first|refine uN ?_|refine Zu S ?_|(refine uB ?_;intro b)|(refine uP ?_ ?_<;>(intro h;((try simp only [zs,zq,reduceCtorEq] at h);try exact zx)))|refine da 101 ?_|fail)
   exact W9 uL ⟨_,_,_,_,hfv,hv2,rfl,rfl⟩
end Go.HL
end

/-! PlR -/
section
namespace Go.HL
open Go Go.Proofs
def Wp (rp:Nat) (m:Pl) (left:Int):List Zr:=[(rp,.cells ⟨[bs m.b,.bool m.off,iv left,.bool (decide (m.cut ≠ -1))]⟩ 51)]
theorem wr_a {m:Pl} {at_:Int} {s:List UInt8} (ha:0≤at_) (hc:m.cut = -1) (ho:m.off=false):Zbo m at_.toNat s=(⟨m.b.take at_.toNat++s.take ((s.length:Int)).toNat++m.b.drop (at_+(s.length:Int)).toNat,m.off,m.cut⟩,none):=by
 have e:(at_+(s.length:Int)).toNat=at_.toNat+s.length:=by omega
 simp [Zbo,kM,hc,ho,Ws,e]
theorem wr_b {m:Pl} {at_:Int} {s:List UInt8} (ha:0≤at_) (h1 : -1≤m.cut) (hc : ¬m.cut = -1) (hl:m.cut<s.length):Zbo m at_.toNat s=(⟨m.b.take at_.toNat++s.take m.cut.toNat++m.b.drop (at_+m.cut).toNat,true,m.cut-m.cut⟩,some 6):=by
 have e1:min s.length m.cut.toNat=m.cut.toNat:=by omega
 have e2:m.cut.toNat<s.length:=by omega
 have e3:(at_+m.cut).toNat=at_.toNat+m.cut.toNat:=by omega
 have e4:min m.cut.toNat s.length=m.cut.toNat:=by omega
 have e5:m.cut-(m.cut.toNat:Int)=m.cut-m.cut:=by omega
 simp only [Zbo,kM,hc,Ws,e1,e2,e3,e4,e5,if_false,if_true,List.length_take,decide_true,Bool.or_true]
theorem wr_c {m:Pl} {at_:Int} {s:List UInt8} (ha:0≤at_) (h1 : -1≤m.cut) (hc : ¬m.cut = -1) (hl : ¬m.cut<s.length) (ho:m.off=false):Zbo m at_.toNat s=(⟨m.b.take at_.toNat++s.take ((s.length:Int)).toNat++m.b.drop (at_+(s.length:Int)).toNat,m.off,m.cut-s.length⟩,none):=by
 have e1:min s.length m.cut.toNat=s.length:=by omega
 have e3:(at_+(s.length:Int)).toNat=at_.toNat+s.length:=by omega
 simp [Zbo,kM,hc,ho,Ws,e1,e3]
set_option maxHeartbeats 2000000 attribute [local irreducible] HW HO HQ HD HC QOp Has Upd Zt Gets Z8 Z0 Zo Xm Zz Zj Xp Zy
theorem Zkq (rp:Nat) (m:Pl) (left:Int) (at_ n:Int) (L:Zb) (hl:m.b.length≤1000000):HC Tryz.prog 170 [pt rp 0,iv at_,iv n] (Wp rp m left::L) (fun v L'=>v=iv (cdN (Wf m at_ n))∧L'=Wp rp m left::L):=by
 refine Za (fun _ _=>Tryz.call170 _ _) Tryz.func170 rfl Tryz.ntmps170 (Nat.le_of_ble_eq_true rfl) ?_;simp only [Zd,Nat.reduceAdd]
 unfold Wf
 repeat' (first|refine uN ?_|(refine uP ?_ ?_<;>(intro h;((try simp only [zs,zq,reduceCtorEq] at h);try exact zx)))|fail)
 all_goals refine Z9 uZ ⟨?_,rfl⟩
 all_goals first|(rw [if_pos (by omega)];rfl)|(rw [if_neg (by omega),if_pos (by assumption)];rfl)|(rw [if_neg (by omega),if_neg (by simp_all)];rfl)
theorem Zu6 (rp:Nat) (m:Pl) (left:Int) (n:Int) (L:Zb):HC Tryz.prog 47 [pt rp 0,iv n] (Wp rp m left::L)
  (fun v L'=>if n<0 then v=iv 2∧L'=Wp rp m left::L else if m.off then v=iv 6∧L'=Wp rp m left::L else v=iv 0∧L'=Wp rp { m with cut:=n } n::L):=by
 refine Za (fun _ _=>Tryz.call47 _ _) Tryz.func47 rfl Tryz.ntmps47 (Nat.le_of_ble_eq_true rfl) ?_;simp only [Zd,Nat.reduceAdd]
 by_cases h1:n<0
 ·simp only [if_pos h1]
  repeat' (first|refine uN ?_|(refine uP ?_ ?_<;>(intro h;((try simp only [zs,zq,reduceCtorEq] at h);try exact zx)))|fail)
  exact Z9 uZ ⟨rfl,rfl⟩
 by_cases h2:m.off=true
 ·simp only [if_neg h1,if_pos h2]
  repeat' (first|refine uN ?_|(refine uP ?_ ?_<;>(intro h;((try simp only [zs,zq,reduceCtorEq] at h);try exact zx)))|fail)
  all_goals first|exact Z9 uZ ⟨rfl,rfl⟩|simp_all
 ·simp only [if_neg h1,if_neg h2]
  repeat' (first|refine uN ?_|(refine uP ?_ ?_<;>(intro h;((try simp only [zs,zq,reduceCtorEq] at h);try exact zx)))|fail)
  have e:([(rp,.cells ⟨[bs m.b,.bool m.off,iv n,.bool true]⟩ 51)]:List Zr)=Wp rp { m with cut:=n } n:=by
   have:decide (n ≠ -1)=true:=decide_eq_true (by omega)
   simp only [Wp,this]
  rw [e]
  exact Z9 uZ ⟨rfl,rfl⟩
theorem Zzd (rp:Nat) (m:Pl) (left:Int) (L:Zb):HC Tryz.prog 43 [pt rp 0] (Wp rp m left::L) (fun v L'=>v = .tuple #[]∧L'=Wp rp { m with off:=false,cut := -1 } left::L):=by
 refine Za (fun _ _=>Tryz.call43 _ _) Tryz.func43 rfl Tryz.ntmps43 (Nat.le_of_ble_eq_true rfl) ?_;simp only [Zd,Nat.reduceAdd]
 repeat' (first|refine uN ?_)
 exact ee0 rfl ⟨rfl,rfl⟩
theorem Zb7 (rp:Nat) (m:Pl) (left:Int) (at_:Int) (s:List UInt8) (L:Zb) (hl:m.b.length≤1000000) (hs:s.length≤1000000) (hc : -1≤m.cut∧m.cut≤9223372036854775807) (hleft:m.cut ≠ -1→left=m.cut) :
  HC Tryz.prog 171 [pt rp 0,iv at_,bs s] (Wp rp m left::L) (fun v L'=>v=iv (cdN (Yg m at_ s).2) ∧ ∃ left',((Yg m at_ s).1.cut ≠ -1→left'=(Yg m at_ s).1.cut)∧L'=Wp rp (Yg m at_ s).1 left'::L):=by
 have hk:=Zkq rp m left at_ s.length L hl
 refine Za (fun _ _=>Tryz.call171 _ _) Tryz.func171 rfl Tryz.ntmps171 (Nat.le_of_ble_eq_true rfl) ?_;simp only [Zd,Nat.reduceAdd]
 unfold Yg
 have hb : ∀ e,Wf m at_ s.length=some e→e=2∨e=6:=fun e h=>by
  unfold Wf at h
  split at h
  ·cases h;exact .inl rfl
  ·split at h
   ·cases h;exact .inr rfl
   ·cases h
 cases hm:Wf m at_ s.length with
 | some e =>
  rw [hm] at hk
  have he:=hb e hm
  simp only [cdN] at hk ⊢
  repeat' (first|refine uN ?_|refine Z2 S ?_|refine Yp S ?_|refine uC (hk) ?_|refine Yb (fun _=>hk) ?_|refine Yc (fun _=>hk) ?_|refine Yd (fun _=>hk) ?_|refine Ye (fun _=>hk) ?_|(refine uP ?_ ?_<;>(intro h;((try simp only [zs,zq,reduceCtorEq] at h);try exact zx)))|refine da 101 ?_|fail)
  ·exact Z9 uZ ⟨rfl,left,hleft,rfl⟩
  all_goals (rename ¬(0:Int)<_=>hz;omega)
 | none =>
  rw [hm] at hk
  simp only [cdN] at hk
  have h0:0≤at_∧at_+s.length≤m.b.length∧m.off=false:=by
   unfold Wf at hm
   split at hm
   ·cases hm
   ·split at hm
    ·cases hm
    ·rename_i h1 h2
     simp at h2
     refine ⟨by omega,by omega,h2⟩
  obtain ⟨ha,has,hoff⟩:=h0
  have hp1 : ∀ k:Int,(List.take at_.toNat m.b).length+(List.take k.toNat s).length≤9223372036854775807:=fun k=>by simp;omega
  have hp2 : ∀ k:Int,(List.take at_.toNat m.b++List.take k.toNat s).length+(List.drop (at_+k).toNat m.b).length≤9223372036854775807:=fun k=>by simp;omega
  by_cases hcut:m.cut = -1
  ·have Yw:=hp1 s.length
   have hq2:=hp2 s.length
   simp only [wr_a ha hcut hoff]
   repeat' (first|refine uN ?_|refine Z2 S ?_|refine Yp S ?_|refine uC (hk) ?_|refine Yb (fun _=>hk) ?_|refine Yc (fun _=>hk) ?_|refine Yd (fun _=>hk) ?_|refine Ye (fun _=>hk) ?_|(refine uP ?_ ?_<;>(intro h;((try simp only [zs,zq,reduceCtorEq] at h);try exact zx)))|refine da 101 ?_|fail)
   ·simp_all
   ·refine Z9 (L':=Wp rp ⟨m.b.take at_.toNat++s.take ((s.length:Int)).toNat++m.b.drop (at_+(s.length:Int)).toNat,m.off,m.cut⟩ left::L) uZ ⟨rfl,left,?_,rfl⟩
    exact hleft
  ·obtain rfl:=hleft hcut
   by_cases hlt:m.cut<s.length
   ·have Yw:=hp1 m.cut
    have hq2:=hp2 m.cut
    simp only [wr_b ha hc.1 hcut hlt]
    repeat' (first|refine uN ?_|refine Z2 S ?_|refine Yp S ?_|refine uC (hk) ?_|refine Yb (fun _=>hk) ?_|refine Yc (fun _=>hk) ?_|refine Yd (fun _=>hk) ?_|refine Ye (fun _=>hk) ?_|(refine uP ?_ ?_<;>(intro h;((try simp only [zs,zq,reduceCtorEq] at h);try exact zx)))|refine da 101 ?_|fail)
    have hd:decide (m.cut ≠ -1)=decide (m.cut-m.cut ≠ -1):=by rw [decide_eq_decide];omega
    rw [hd]
    exact Z9 (L':=Wp rp ⟨m.b.take at_.toNat++s.take m.cut.toNat++m.b.drop (at_+m.cut).toNat,true,m.cut-m.cut⟩ (m.cut-m.cut)::L) uZ ⟨rfl,m.cut-m.cut,fun _=>rfl,rfl⟩
   ·have Yw:=hp1 s.length
    have hq2:=hp2 s.length
    simp only [wr_c ha hc.1 hcut hlt hoff]
    repeat' (first|refine uN ?_|refine Z2 S ?_|refine Yp S ?_|refine uC (hk) ?_|refine Yb (fun _=>hk) ?_|refine Yc (fun _=>hk) ?_|refine Yd (fun _=>hk) ?_|refine Ye (fun _=>hk) ?_|(refine uP ?_ ?_<;>(intro h;((try simp only [zs,zq,reduceCtorEq] at h);try exact zx)))|refine da 101 ?_|fail)
    ·simp_all
    ·have hd:decide (m.cut ≠ -1)=decide (m.cut-s.length ≠ -1):=by rw [decide_eq_decide];omega
     rw [hd]
     exact Z9 (L':=Wp rp ⟨m.b.take at_.toNat++s.take ((s.length:Int)).toNat++m.b.drop (at_+(s.length:Int)).toNat,m.off,m.cut-s.length⟩ (m.cut-s.length)::L) uZ ⟨rfl,m.cut-s.length,fun _=>rfl,rfl⟩
end Go.HL
end

/-! ErD1 -/
section
namespace Go.HL
open Go Go.Proofs
set_option maxHeartbeats 2000000 attribute [local irreducible] HW HO HQ HD HC QOp Has Upd Zt Gets Z8 Z0 Zo Xm Zz Zj Xp Zy
end Go.HL
end

/-! PlC -/
section
namespace Go.HL
open Go Go.Proofs
theorem hcHas2 {P:Program} {F:Nat} {args:List Value} {b c:Nat} {o q:Obj} {V:Value} (h : ∀ L,HC P F args ([(b,o),(c,q)]::L) (fun v L'=>v=V∧L'=[(b,o),(c,q)]::L)) (hne:(c,q)≠(b,o)) {L:Zb} (hb:Has L b o) (hc:Has L c q):HC P F args L (fun v L'=>v=V∧L'=L):=by
 obtain ⟨l1,l2,e⟩:=List.append_of_mem hb
 have hm:(c,q)∈l1++l2:=by
  have:(c,q)∈l1++(b,o)::l2:=e▸hc
  simp only [List.mem_append,List.mem_cons] at this ⊢
  rcases this with h|h|h
  ·exact .inl h
  ·exact absurd h hne
  ·exact .inr h
 obtain ⟨m1,m2,e2⟩:=List.append_of_mem hm
 have hp:List.Perm L.flatten ([(b,o),(c,q)]::[m1++m2]).flatten:=by
  rw [e]
  simp only [List.flatten_cons,List.flatten_nil,List.append_nil,List.cons_append,List.nil_append]
  refine List.perm_middle.trans (.cons _ ?_)
  rw [e2]
  exact List.perm_middle
 exact ⟨(h []).1,fun k w hs=>((h [m1++m2]).2 k w (hs.sp (LS.of_perm hp.symm))).mono fun e w' ⟨v,L',he,hs',hv,hL⟩=>⟨v,L,he,(hL▸hs').sp (LS.of_perm hp),hv,rfl⟩⟩
def plB (bp ba:Nat) (m:Pl):Zr:=(bp,.cells ⟨[sl ba 0 m.b.length m.b.length,.bool m.off,iv m.cut]⟩ 205)
def plD (ba:Nat) (m:Pl):Zr:=(ba,.cells ⟨m.b.map u8⟩ 5)
theorem Zxt (bp ba:Nat) (m:Pl) (L:Zb) (h : ∀ p∈[plB bp ba m,plD ba m],Has L p.1 p.2):HC Tryz.prog 162 [pt bp 0] L (fun v L'=>v=bs m.b∧L'=L):=
 hcHas2 (Zg7 bp ba m) (by simp) (h (plB bp ba m) (by simp)) (h (plD ba m) (by simp))
section dt
variable {P:Program} (S:Tab P) {n:Nat} {ops:List Oper} {Q:Exit→Z5→Zb→Prop} {Ss:List (Nat × Zr)} {rem rem':List (Nat × Oper)} {ρ:Z5} {L:Zb} {ty:TypeId} {pos:String} {af:Array Edge} {g:Option (Nat × Bool)} {d i:Nat}
end dt
set_option maxHeartbeats 2000000 attribute [local irreducible] HW HO HQ HD HC QOp Has Upd Zt Gets Z8 Z0 Zo Xm Zz Zj Xp Zy
attribute [local irreducible] Xl Yk plB plD
end Go.HL
end

/-! WoG -/
section
namespace Go.HL
open Go Go.Proofs
def Xf (m:Pl) (d:Int):St:=((Zn m.b).getD d.toNat Zm).s
def Xz (M:Wm) (s d:Int):Option Nat:=match Xs M s with
 | some e=>some e
 | none=>if d<0∨6≤d then some 2 else none
def U8 (M:Wm) (s d:Int):St:=match Xz M s d with
 | some _=>W4
 | none=>Xf (Zf M s).pl d
theorem Zgs (b:List UInt8):(Zn b).length=6:=by simp [Zn]
theorem WdIn.cons {L:Zb} {G:WdG} {M:Wm} (h:WdIn L G M) (c:List Zr):WdIn (c::L) G M:=by
 obtain ⟨h1,⟨a2,c2,e2,r2⟩,⟨a3,c3,e3,r3⟩,⟨a4,c4,e4,r4⟩,h5⟩:=h
 exact ⟨Zc h1,⟨a2,c2,e2,r2.cons c⟩,⟨a3,c3,e3,r3.cons c⟩,⟨a4,c4,e4,r4.cons c⟩,h5⟩
set_option maxHeartbeats 2000000 attribute [local irreducible] HW HO HQ HD HC QOp Has Upd Zt Gets Z8 Z0 Zo Xm Zz Zj Xp Zy
attribute [local irreducible] Vh Yr Xl Zn
theorem Zgi (T:Nat) (E:Nat→Addr) (G:WdG) (M:Wm) (s d:Int) (L:Zb) (hG:Er T E [2,6] L) (hI:WdIn L G M) (hl:G.nd.length=M.n.length) (hN:Xs M s=none→Has L (Zk G s).np (Zbp (Zk G s) (Zf M s)))
  (hP:Xs M s=none→216≤(Zf M s).pl.b.length∧(Zf M s).pl.b.length≤512 ∧ ∀ p∈[plB (Zk G s).bp (Zk G s).ba (Zf M s).pl,plD (Zk G s).ba (Zf M s).pl],Has L p.1 p.2) :
  HC Tryz.prog 108 [pt G.wp 0,iv s,iv d] L (fun v L'=>v = .tuple ⟨[.agg ⟨sc (U8 M s d)⟩,eV T E (Xz M s d)]⟩∧L'=L):=by
 have kn:=fun L hG hI=>Vz T E G M s L hG hI hl
 unfold U8 Xz
 rcases Vq (M:=M) s with he|⟨he,h0,h1⟩
 ·simp only [he] at kn ⊢
  refine Za (fun _ _=>Tryz.call108 _ _) Tryz.func108 rfl Tryz.ntmps108 (Nat.le_of_ble_eq_true rfl) ?_;simp only [Zd,Nat.reduceAdd]
  repeat' (first|refine uN ?_|refine Wq (qC (kn _ (hG.sub.cons _) (hI.cons _))) ?_|(refine uB ?_;intro b)|(refine uP ?_ ?_<;>(intro h;((try simp only [zs,zq,reduceCtorEq] at h);try exact zx)))|fail)
  exact W9 (LS.c (LS.refl _)) ⟨rfl,rfl⟩ (hx:=Xy S (hg:=Ze rfl (Ze rfl (Ze rfl Z4))))
 ·have hN':=hN he
  obtain ⟨hp1,hp2,hp3⟩:=hP he
  simp only [he] at kn ⊢
  generalize Zf M s=m at hN' hp1 hp2 hp3 ⊢
  generalize hg:Zk G s=g at hN' hp3 kn
  have hbh : ∀ c:List Zr,∀ p∈[plB g.bp g.ba m.pl,plD g.ba m.pl],Has (c::L) p.1 p.2:=fun c p hp=>Zc (hp3 p hp)
  unfold Zbp at hN'
  have g1:(Vh (Zhx g m.site) g.bp (Xi g m) m.done)[0+1]? = some (pt g.bp 0):=Wc rfl
  refine Za (fun _ _=>Tryz.call108 _ _) Tryz.func108 rfl Tryz.ntmps108 (Nat.le_of_ble_eq_true rfl) ?_;simp only [Zd,Nat.reduceAdd]
  repeat' (first|refine uN ?_|refine Wq (qC (kn _ (hG.sub.cons _) (hI.cons _))) ?_|refine Wq (qC (Zxt g.bp g.ba m.pl _ (hbh _))) ?_|(refine uB ?_;intro b)|(refine uP ?_ ?_<;>(intro h;((try simp only [zs,zq,reduceCtorEq] at h);try exact zx)))|fail)
  refine gc (Zt3 T E m.pl.b _ (hG.sub.cons _) (by omega)) ?_
  simp only [if_pos hp2]
  rintro v L' ⟨bp,ba,rfl,rfl⟩
  repeat' (first|refine uN ?_|refine Wq (qC (kn _ (hG.sub.cons _) (hI.cons _))) ?_|(refine uB ?_;intro b)|(refine uP ?_ ?_<;>(intro h;((try simp only [zs,zq,reduceCtorEq] at h);try exact zx)))|fail)
  refine gc (Zkb T E bp ba _ _ (hG.cons _) (by simp only;omega)) ?_
  have hnl : ¬ (m.pl.b.length<216):=by omega
  simp only [if_neg hnl,Bool.false_eq_true,if_false]
  rintro v L' ⟨bj,rfl,rfl⟩
  repeat' (first|refine uN ?_|refine Wq (qC (kn _ (hG.sub.cons _) (hI.cons _))) ?_|(refine uB ?_;intro b)|(refine uP ?_ ?_<;>(intro h;((try simp only [zs,zq,reduceCtorEq] at h);try exact zx)))|fail)
  refine gc (Zmi T E bj bp _ d _ ((hG.sub.cons _).cons _) (Zgs _)) ?_
  by_cases hd:d<0∨6≤d
  ·simp only [if_pos hd]
   rintro v L' ⟨rfl,rfl⟩
   repeat' (first|refine uN ?_|refine Wq (qC (kn _ (hG.sub.cons _) (hI.cons _))) ?_|(refine uB ?_;intro b)|(refine uP ?_ ?_<;>(intro h;((try simp only [zs,zq,reduceCtorEq] at h);try exact zx)))|fail)
   exact W9 (LS.c (LS.c (LS.c (LS.refl _)))) ⟨rfl,rfl⟩ (hx:=Xy S (hg:=Ze rfl (Ze rfl (Ze rfl Z4))))
  ·simp only [if_neg hd]
   rintro v L' ⟨rfl,rfl⟩
   repeat' (first|refine uN ?_|refine Wq (qC (kn _ (hG.sub.cons _) (hI.cons _))) ?_|(refine uB ?_;intro b)|(refine uP ?_ ?_<;>(intro h;((try simp only [zs,zq,reduceCtorEq] at h);try exact zx)))|fail)
   exact W9 (LS.c (LS.c (LS.c (LS.refl _)))) ⟨rfl,rfl⟩ (hx:=Xy S (hg:=Ze rfl (Ze rfl (Ze rfl Z4))))
end Go.HL
end

/-! WoM -/
section
namespace Go.HL
open Go Go.Proofs
def Y0 (M:Wm) (s:Int) (m:Nd):Wm:={ M with n:=M.n.set s.toNat m }
def Vp (d:Int) (m:Nd):Bool:=decide (Xf m.pl d≠W4) || (m.leads.getD d.toNat none).isSome
def Wv (M:Wm) (s d:Int):Wm × Option Nat:=
 if d<0∨6≤d∨s<0∨M.n.length≤s then (M,some 2) else
 match Zco M s with
 | some e=>(M,some e)
 | none=>if M.n.any (Vp d) then (M,some 8) else
  ({ Y0 M s { Zf M s with leads:=(Zf M s).leads.set d.toNat (some (Zi s d M.w 0 2)) } with l:=M.l++Xk (Zi s d M.w 0 2) },none)
def U2 (m:Nd) (d:Int):Nd:=match m.site with
 | none=>m
 | some (j,ref)=>{ m with site:=some (j,fun x=>if x=d then true else ref x) }
def Wo (M:Wm) (s d:Int):Wm × Option Nat:=
 if d<0∨6≤d then (M,some 2) else
 match Zco M s with
 | some e=>(M,some e)
 | none=>(Y0 M s (U2 (Zf M s) d),none)
def Yt (M:Wm) (s:Int) (f:Fr):Wm × List Fr × Bool:=
 ({ Y0 M s (Y7 s (Zf M s) M.ev f).1 with ev:=(Y7 s (Zf M s) M.ev f).2.1 },(Y7 s (Zf M s) M.ev f).2.2)
def Z6 (m:Ld) (l:List Fr):Ld × List Fr:=l.foldl (fun q f=>((Zw q.1 f).1,q.2++(Zw q.1 f).2)) (m,[])
def Yu (m:Nd) (d promise:Int):Int:=match m.leads.getD d.toNat none with
 | none=>promise
 | some x=>max promise x.seen
def Zar (k s a:Int):Int:=a+(s-a) % k
def Vv (s d a:Int):Fr:=⟨s,s,d,3,a,false,W4⟩
def Zbl (M:Wm) (s d promise:Int):Wm × Bool:=
 let a:=Zar M.w.length s (Yu (Zf M s) d promise+1)
 if 1048576<a then (M,true) else
 let r:=Yt M s (Vv s d a)
 if r.2.2=false then (r.1,false) else
 let q:=Z6 (Zi s d M.w a 4) r.2.1
 ({ Y0 r.1 s { Zf r.1 s with leads:=(Zf r.1 s).leads.set d.toNat (some q.1) } with l:=r.1.l++Xk (Zi s d M.w a 4)++q.2 },true)
def W7 (M:Wm) (s:Int) (d:Int) (st:St):List Fr:=(List.range M.w.length).map fun (i:Nat)=>(⟨s,(i:Int),d,7,st.pr,false,⟨st.ph,0,0⟩⟩:Fr)
def tickD (s:Int) (q:Wm × Bool) (d:Nat):Wm × Bool:=
 if q.2=false then q else
 match (Zf q.1 s).site with
 | none=>(q.1,false)
 | some (j,_) =>
  if Yq j d=W4 then q else
  if (Yq j d).ph=2∨(Yq j d).ph=3 then ({ q.1 with l:=q.1.l++W7 q.1 s d (Yq j d) },true) else
  Zbl q.1 s d (Yq j d).pr
def Uc (M:Wm) (s:Int):Wm × Option Nat:=match Zco M s with
 | some e=>(M,some e)
 | none=>(((List.range 6).foldl (tickD s) (M,true)).1,none)
def Zjy (f:Fr):Int × Int:=(min f.fr f.to,max f.fr f.to)
def Ya (M:Wm) (k:Int):Wm × Option Nat:=match Zs1 M k with
 | some e=>(M,some e)
 | none =>
  let f:=M.l.getD k.toNat Yv
  let M1:Wm:={ M with l:=M.l.eraseIdx k.toNat }
  if (Zf M1 f.to).site.isNone∨M.br (Zjy f)=true then (M1,none) else
  if f.kd=2∨f.kd=4∨f.kd=6 then
   match (Zf M1 f.to).leads.getD f.dl.toNat none with
   | none=>(M1,none)
   | some x=>({ Y0 M1 f.to { Zf M1 f.to with leads:=(Zf M1 f.to).leads.set f.dl.toNat (some (Zw x f).1) } with l:=M1.l++(Zw x f).2 },none)
  else ({ (Yt M1 f.to f).1 with l:=M1.l++(Yt M1 f.to f).2.1 },none)
def Qp (M:Wm) (k:Int):Wm × Option Nat:=match Zs1 M k with
 | some e=>(M,some e)
 | none=>({ M with l:=M.l.eraseIdx k.toNat },none)
def Vw (M:Wm) (k:Int):Wm × Option Nat:=match Zs1 M k with
 | some e=>(M,some e)
 | none=>({ M with l:=M.l.take (k+1).toNat++M.l.getD k.toNat Yv::M.l.drop (k+1).toNat },none)
def V8 (M:Wm) (a b:Int) (whole:Bool):Wm × Option Nat:=
 if a<0∨M.n.length≤a∨b<0∨M.n.length≤b then (M,some 2) else
 ({ M with br:=fun x=>if x=(min a b,max a b) then (!whole && decide (a≠b)) else M.br x },none)
def Zct (M:Wm) (s n:Int):Wm × Option Nat:=
 if n<0 then (M,some 2) else
 match Zco M s with
 | some e=>(M,some e)
 | none=>(Y0 M s { Zf M s with pl:={ (Zf M s).pl with cut:=n } },none)
def Zjd (m:Nd):Nd:=⟨{ m.pl with off:=true },none,noLeads,m.done⟩
def Qo (M:Wm) (s:Int):Wm × Option Nat:=match Zco M s with
 | some e=>(M,some e)
 | none=>(Y0 M s (Zjd (Zf M s)),none)
def Uz (m:Nd):Nd:=⟨{ m.pl with off:=false,cut := -1 },some (⟨Zn m.pl.b,false⟩,fun _=>false),m.leads,m.done⟩
def Zpo (M:Wm) (s:Int):Wm × Option Nat:=match Xs M s with
 | some e=>(M,some e)
 | none=>if (Zf M s).site.isSome then (M,some 8) else
  ({ Y0 M s { Uz (Zf M s) with done:=(Xd s (Uz (Zf M s)) M.ev).1 } with ev:=(Xd s (Uz (Zf M s)) M.ev).2 },none)
def Zh5 (M:Wm) (s:Int):Bool × Option Nat:=match Xs M s with
 | some e=>(false,some e)
 | none=>((Zf M s).site.isSome,none)
def Up (M:Wm) (s d:Int):List UInt8 × Option Nat:=
 if s<0∨M.n.length≤s∨d<0∨6≤d then ([],some 2) else
 match (Zf M s).leads.getD d.toNat none with
 | none=>([110,111,110,101],none)
 | some x=>(x.state,none)
def newNd:Nd:=⟨⟨Yk 512,false,-1⟩,some (⟨Zn (Yk 512),false⟩,fun _=>false),noLeads,List.replicate 6 false⟩
def Ve (w:List Int):Wm:=⟨w,List.replicate w.length newNd,fun _=>false,[],[]⟩
end Go.HL
end

/-! WoN -/
section
namespace Go.HL
open Go Go.Proofs
def Zm8 (g:NdG) (i:Int):Option (Jn × (Int→Bool))→List Zr
 | none=>[]
 | some _=>Zh8 g.sp g.bj g.mb i
def Zm7 (g:NdG):Option (Jn × (Int→Bool))→List Zr
 | none=>[]
 | some _=>Zii g.mb g.es g.ck
def Zm6 (g:NdG):Option (Jn × (Int→Bool))→List Zr
 | none=>[]
 | some (j,_)=>jC g.bj g.bp j
theorem siB_cut (g:NdG) (i:Int) (s:Option (Jn × (Int→Bool))):siB g i s=Zm8 g i s++(Zm7 g s++Zm6 g s):=by
 rcases s with _|⟨j,r⟩
 ·rfl
 ·simp [siB,Zm8,Zm7,Zm6]
def We (G:WdG) (s:Int) (g:NdG) (m:Nd) (X:List Zr) (L:Zb):Zb:=
 [(G.wp,Zay G)]::G.ec::Zcl g m::Zm8 g s m.site::Zm7 g m.site::Xl g.bp g.ba m.pl::Zm6 g m.site::Zbz g m::G.lc::G.wc::G.nc::[(G.mb,.map ⟨G.es⟩ G.ck)]::X::L
theorem Zs2 (G:WdG) (s:Int) (g:NdG) (m:Nd) (X:List Zr) (L:Zb):(Zgf G++[Zj6 g s m++X]++L).flatten=([(G.wp,Zay G)]::G.wc::G.nc::[(G.mb,.map ⟨G.es⟩ G.ck)]::G.lc::G.ec::Zcl g m::Xl g.bp g.ba m.pl::Zm8 g s m.site::Zm7 g m.site::Zm6 g m.site::Zbz g m::X::L).flatten:=by
 simp only [Zgf,Zj6,siB_cut,List.flatten_cons,List.flatten_append,List.cons_append,List.nil_append,List.append_assoc,List.flatten_nil,List.append_nil]
theorem wdOp_ls (G:WdG) (s:Int) (g:NdG) (m:Nd) (X:List Zr) (L:Zb):LS (We G s g m X L).flatten (Zgf G++[Zj6 g s m++X]++L).flatten:=by
 rw [Zs2,We]
 exact uL
theorem Zxf (G:WdG) (s:Int) (g:NdG) (m:Nd) (X:List Zr) (L:Zb):LS (Zgf G++[Zj6 g s m++X]++L).flatten (We G s g m X L).flatten:=by
 rw [Zs2,We]
 exact uL
theorem Vu {s:Int} (h:0≤s):((0+s.toNat:Nat):Int)=s:=by omega
theorem Zru {gs:List NdG} {ms:List Nd} {s:Int} {g:NdG} {m:Nd} (h0:0≤s) (hg:gs[s.toNat]? = some g) (hm:ms[s.toNat]? = some m) (T:Zb) (L:Zb):List.Perm (T++[Qj gs ms 0]++L).flatten (T++[Zj6 g s m++Vk gs ms 0 s.toNat]++L).flatten:=by
 have:=Zj7 (i:=0) hg hm
 rw [Vu h0] at this
 simp only [List.flatten_append,List.flatten_cons,List.flatten_nil,List.append_nil]
 exact (this.append_left _).append_right _
theorem Ziv {G:WdG} {M:Wm} {s:Int} (hl:G.nd.length=M.n.length) (h0:0≤s) (h1:s<M.n.length) (L:Zb):LS (We G s (Zk G s) (Zf M s) (Vk G.nd M.n 0 s.toNat) L).flatten (Xj G M++L).flatten:=by
 have hg:G.nd[s.toNat]? = some (Zk G s):=getD_some (by omega)
 have hm:M.n[s.toNat]? = some (Zf M s):=getD_some (by omega)
 refine LS.trans (wdOp_ls _ _ _ _ _ _) (LS.of_perm ?_)
 exact (Zru h0 hg hm (Zgf G) L).symm
theorem Zla {G:WdG} {gs:List NdG} {ms:List Nd} {s:Int} {g:NdG} {m:Nd} (h0:0≤s) (h1:s.toNat<gs.length) (h2:s.toNat<ms.length) (L:Zb):LS (Zgf G++[Qj (gs.set s.toNat g) (ms.set s.toNat m) 0]++L).flatten (We G s g m (Vk gs ms 0 s.toNat) L).flatten:=by
 have hg:(gs.set s.toNat g)[s.toNat]? = some g:=by simp [h1]
 have hm:(ms.set s.toNat m)[s.toNat]? = some m:=by simp [h2]
 refine LS.trans (LS.of_perm (Zru h0 hg hm (Zgf G) L)) ?_
 rw [Zwr]
 exact Zxf _ _ _ _ _ _
theorem Zg0 {G:WdG} {M:Wm} {s:Int} (hl:G.nd.length=M.n.length) (h0:0≤s) (h1:s<M.n.length) {b:Nat} {o:Obj} (hb:(b,o)∈Zj6 (Zk G s) s (Zf M s)) (L:Zb):Has (Qj G.nd M.n 0::L) b o:=by
 have hg:G.nd[s.toNat]? = some (Zk G s):=getD_some (by omega)
 have hm:M.n[s.toNat]? = some (Zf M s):=getD_some (by omega)
 have:=Zj7 (i:=0) hg hm
 rw [Vu h0] at this
 unfold Has
 rw [List.flatten_cons]
 exact List.mem_append_left _ (this.mem_iff.2 (List.mem_append_left _ hb))
theorem Zxg {G:WdG} {M:Wm} {s:Int} (hl:G.nd.length=M.n.length) (h0:0≤s) (h1:s<M.n.length) (L:Zb):Has (Qj G.nd M.n 0::L) (Zk G s).np (Zbp (Zk G s) (Zf M s)):=
 Zg0 hl h0 h1 (by simp [Zj6,Zcl]) L
theorem Ud {G:WdG} {M:Wm} (h:WdOk G M) {s:Int} (h0:0≤s) (h1:s<M.n.length):NdOk (Zk G s) (Zf M s):=by
 have hl:=h.ndl
 exact h.nd s.toNat _ _ (getD_some (by omega)) (getD_some (by omega))
theorem Wu {M:Wm} (h:WI M) {s:Int} (h0:0≤s) (h1:s<M.n.length):NdI M.w s.toNat (Zf M s):=h.nd s.toNat _ (getD_some (by omega))
theorem WdOk.setL {G:WdG} {M:Wm} (h:WdOk G M) {lv:Value} {lc:List Zr} {l:List Fr} (hv:Z7 lv l lc):WdOk { G with lv:=lv,lc:=lc } { M with l:=l }:=⟨h.w,h.nodes,h.ndl,h.br,hv,h.ev,h.nd⟩
theorem WdOk.setE {G:WdG} {M:Wm} (h:WdOk G M) {ev:Value} {c:List Zr} {l:List Evt} (hv:Vec 174 3 ec ev l c):WdOk { G with ev:=ev,ec:=c } { M with ev:=l }:=⟨h.w,h.nodes,h.ndl,h.br,h.l,hv,h.nd⟩
theorem WdOk.setB {G:WdG} {M:Wm} (h:WdOk G M) {es:List MapEntry} {ck:Nat} {f:Int × Int→Bool} (hv:Zy pk es f):WdOk { G with es:=es,ck:=ck } { M with br:=f }:=⟨h.w,h.nodes,h.ndl,hv,h.l,h.ev,h.nd⟩
theorem WdOk.put {G:WdG} {M:Wm} (h:WdOk G M) {s:Int} {g:NdG} {m:Nd} (h0:0≤s) (h1:s<M.n.length) (hn:NdOk g m) (hp:g.np=(Zk G s).np):WdOk { G with nd:=G.nd.set s.toNat g } (Y0 M s m):=by
 have hl:=h.ndl
 have e:(G.nd.set s.toNat g).map (·.np)=G.nd.map (·.np):=by
  rw [List.map_set,hp]
  have hg:G.nd[s.toNat]? = some (Zk G s):=getD_some (by omega)
  refine List.ext_getElem? fun i=>?_
  rw [List.getElem?_set]
  split
  ·rename_i hi
   subst hi
   rw [if_pos (by simp;omega),List.getElem?_map,hg]
   rfl
  ·rfl
 refine ⟨h.w,by simp only [e];exact h.nodes,by simp [Y0,hl],h.br,h.l,h.ev,fun q g1 m1 Yw hq2=>?_⟩
 simp only [Y0,List.getElem?_set] at Yw hq2
 by_cases hq:s.toNat=q
 ·rw [if_pos hq] at Yw hq2
  split at Yw
  ·split at hq2
   ·cases Yw;cases hq2;exact hn
   ·cases hq2
  ·cases Yw
 ·rw [if_neg hq] at Yw hq2
  exact h.nd q g1 m1 Yw hq2
theorem Zou {G:WdG} {s:Int} {g:NdG} (h0:0≤s) (h1:s<G.nd.length) (hp:g.np=(Zk G s).np):(G.nd.set s.toNat g).map (·.np)=G.nd.map (·.np):=by
 rw [List.map_set,hp]
 have hg:G.nd[s.toNat]? = some (Zk G s):=getD_some (by omega)
 refine List.ext_getElem? fun i=>?_
 rw [List.getElem?_set]
 split
 ·rename_i hi
  subst hi
  rw [if_pos (by simp;omega),List.getElem?_map,hg]
  rfl
 ·rfl
def Zg5 (G:WdG) (M':Wm) (L L':Zb):Prop := ∃ G',G'.wp=G.wp∧G'.nd.map (·.np)=G.nd.map (·.np)∧WdOk G' M'∧L'=Xj G' M'++L
theorem Vy {G:WdG} {M:Wm} (h:WdOk G M) (L:Zb):Zg5 G M L (Xj G M++L):=⟨G,rfl,rfl,h,rfl⟩
theorem Zws {G G':WdG} (h:G'.nd.map (·.np)=G.nd.map (·.np)) {s:Int} (h0:0≤s) (h1:s<G.nd.length):(Zk G' s).np=(Zk G s).np:=by
 have hl:G'.nd.length=G.nd.length:=by simpa using congrArg List.length h
 have e1:G'.nd[s.toNat]? = some (Zk G' s):=getD_some (by omega)
 have e2:G.nd[s.toNat]? = some (Zk G s):=getD_some (by omega)
 have:=congrArg (fun l=>l[s.toNat]?) h
 simp only [List.getElem?_map,e1,e2,Option.map_some,Option.some.injEq] at this
 exact this
theorem HC.node {F:Nat} {args:List Value} {G:WdG} {M M':Wm} {s:Int} {L:Zb} {V:Value→Prop} (h:WdOk G M) (h0:0≤s) (h1:s<M.n.length)
  (k:HC Tryz.prog F args (We G s (Zk G s) (Zf M s) (Vk G.nd M.n 0 s.toNat) L) (fun v L'=>V v ∧ ∃ G' M1 g' m',WdOk G' M1∧G'.nd=G.nd∧M1.n=M.n∧G'.wp=G.wp∧NdOk g' m'∧g'.np=(Zk G s).np∧M'=Y0 M1 s m'∧L'=We G' s g' m' (Vk G.nd M.n 0 s.toNat) L)) :
  HC Tryz.prog F args (Xj G M++L) (fun v L'=>V v∧Zg5 G M' L L'):=by
 have hl:=h.ndl
 refine HC.post (HC.sp k (Ziv hl h0 h1 L)) ?_
 rintro v L' ⟨hv,G',M1,g',m',hW,e1,e2,e3,hN,e4,rfl,rfl⟩
 have hnp:g'.np=(Zk G' s).np:=by rw [e4];unfold Zk;rw [e1]
 refine ⟨Xj { G' with nd:=G'.nd.set s.toNat g' } (Y0 M1 s m')++L,?_,hv,{ G' with nd:=G'.nd.set s.toNat g' },e3,?_,hW.put h0 (by rw [e2];exact h1) hN hnp,rfl⟩
 ·simp only [Xj,Y0,e1,e2]
  exact Zla (G:=G') h0 (by omega) (by omega) L
 ·simp only
  rw [← e1]
  exact Zou h0 (by rw [e1];omega) hnp
theorem HC.nodeC {F:Nat} {args:List Value} {G:WdG} {M M':Wm} {s:Int} {L:Zb} {V:Value→List Zr→Prop} (h:WdOk G M) (h0:0≤s) (h1:s<M.n.length)
  (k:HC Tryz.prog F args (We G s (Zk G s) (Zf M s) (Vk G.nd M.n 0 s.toNat) L) (fun v L' => ∃ c,V v c ∧ ∃ G' M1 g' m',WdOk G' M1∧G'.nd=G.nd∧M1.n=M.n∧G'.wp=G.wp∧NdOk g' m'∧g'.np=(Zk G s).np∧M'=Y0 M1 s m'∧L'=We G' s g' m' (Vk G.nd M.n 0 s.toNat) (c::L))) :
  HC Tryz.prog F args (Xj G M++L) (fun v L' => ∃ c,V v c∧Zg5 G M' (c::L) L'):=by
 have hl:=h.ndl
 refine HC.post (HC.sp k (Ziv hl h0 h1 L)) ?_
 rintro v L' ⟨c,hv,G',M1,g',m',hW,e1,e2,e3,hN,e4,rfl,rfl⟩
 have hnp:g'.np=(Zk G' s).np:=by rw [e4];unfold Zk;rw [e1]
 refine ⟨Xj { G' with nd:=G'.nd.set s.toNat g' } (Y0 M1 s m')++(c::L),?_,c,hv,{ G' with nd:=G'.nd.set s.toNat g' },e3,?_,hW.put h0 (by rw [e2];exact h1) hN hnp,rfl⟩
 ·simp only [Xj,Y0,e1,e2]
  exact Zla (G:=G') h0 (by omega) (by omega) _
 ·simp only
  rw [← e1]
  exact Zou h0 (by rw [e1];omega) hnp
theorem NdOk.fall {g:NdG} {m:Nd} (h:NdOk g m) (pl:Pl) (dn:List Bool):NdOk g ⟨pl,none,noLeads,dn⟩:=by
 refine ⟨h.ld,fun d x hx=>?_,fun j ref hs=>by cases hs⟩
 simp only [noLeads,List.getElem?_replicate] at hx
 split at hx<;>cases hx
theorem NdOk.same {g:NdG} {m:Nd} (h:NdOk g m) {j:Jn} {ref:Int→Bool} (hs:m.site=some (j,ref)) (pl:Pl) (j':Jn) (dn:List Bool):NdOk g ⟨pl,some (j',ref),m.leads,dn⟩:=
 ⟨h.ld,h.lok,fun j2 r2 e=>by cases e;exact h.map j ref hs⟩
theorem Zfw {G:WdG} {M:Wm} (h:WdOk G M) {s:Int} (h0:0≤s) (h1:s<M.n.length) {H:Zb} (hH : ∀ b o,(b,o)∈G.nc→Has H b o):NpIn H G.nv M.n.length s (Zk G s).np:=by
 have hl:=h.ndl
 obtain ⟨a,cap,hnv,-,hR⟩:=h.nodes.rd Wz
 have hR2:=(hR []).mono (L':=H) fun b o hb=>hH b o (by simpa [Has] using hb)
 obtain ⟨b,i,l,F,fr,rfl,hb,hg⟩:=hR2.at1 (j:=s) h0 (by simp;omega)
 refine ⟨⟨b,i,l,F,fr,cap,by rw [hnv,List.length_map,hl],hb,?_⟩,h0,h1⟩
 have e:(G.nd.map (·.np))[s.toNat]'(by simp;omega)=(Zk G s).np:=by
  rw [List.getElem_map]
  unfold Zk
  rw [List.getD,List.getElem?_eq_getElem (by omega)]
  rfl
 rw [e] at hg
 exact hg 0 _ rfl
set_option maxHeartbeats 2000000 attribute [local irreducible] HW HO HQ HD HC QOp Has Upd Zt Gets Z8 Z0 Zo Xm Zz Zj Xp Zy
attribute [local irreducible] Vh Yr Xl Zs
theorem Zgg (T:Nat) (E:Nat→Addr) (G:WdG) (M:Wm) (s:Int) (f:Fr) (L:Zb) (hG:Er T E [2,3,5,6] L) (h:WdOk G M) (hI:WI M) (h0:0≤s) (h1:s<M.n.length) (hs:(Zf M s).site≠none) :
  HC Tryz.prog 152 [pt G.wp 0,iv s,.agg ⟨fc f⟩] (Xj G M++L) (fun v L' => ∃ c,(∃ fv,Z7 fv (Yt M s f).2.1 c∧v = .tuple ⟨[fv,.bool (Yt M s f).2.2]⟩)∧Zg5 G (Yt M s f).1 (c::L) L'):=by
 refine HC.nodeC h h0 h1 ?_
 have hN:=Ud h h0 h1
 have hi:=Wu hI h0 h1
 have hn:=hI.wn
 have hnp:=Zfw h h0 h1 (H:=Zbz (Zk G s) (Zf M s)::G.lc::G.wc::G.nc::[(G.mb,.map ⟨G.es⟩ G.ck)]::Vk G.nd M.n 0 s.toNat::L) fun b o hb=>Zc (Zc (Zc (Yo hb)))
 unfold Yt Y7
 generalize hm:Zf M s=m at *
 cases hsi:m.site with
 | none=>exact absurd hsi hs
 | some q =>
  obtain ⟨j,ref⟩:=q
  have hsj:=Zdc (id:=s) (ref:=ref) (hi.jn hsi) f
  have hj6:(Zs s ref m.pl j f).2.1.l.length=6:=hsj.1.ji.jn.len
  have kh:=Zs6 T E G s (Zk G s) m f M.ev M.n.length j ref (Zbz (Zk G s) m::G.lc::G.wc::G.nc::[(G.mb,.map ⟨G.es⟩ G.ck)]::Vk G.nd M.n 0 s.toNat::L) ((((((hG.cons _).cons _).cons _).cons _).cons _).cons _) hnp h.ev hI.evl hN M.w s.toNat hi hsi hj6
  have ew:We G s (Zk G s) m (Vk G.nd M.n 0 s.toNat) L=[(G.wp,Zay G)]::G.ec::Zcl (Zk G s) m::Zh8 (Zk G s).sp (Zk G s).bj (Zk G s).mb s::Zii (Zk G s).mb (Zk G s).es (Zk G s).ck::Xl (Zk G s).bp (Zk G s).ba m.pl::jC (Zk G s).bj (Zk G s).bp j::(Zbz (Zk G s) m::G.lc::G.wc::G.nc::[(G.mb,.map ⟨G.es⟩ G.ck)]::Vk G.nd M.n 0 s.toNat::L):=by
   unfold We;rw [hsi];rfl
  rw [ew]
  refine HC.post kh ?_
  intro v L' hq
  unfold HearQ at hq
  simp only
  split at hq
  ·rename_i hoff
   obtain ⟨rfl,rfl⟩:=hq
   refine ⟨We G s (Zk G s) ⟨(Zs s ref m.pl j f).1,none,noLeads,m.done⟩ (Vk G.nd M.n 0 s.toNat) ([]::L),?_,[],?_,G,M,Zk G s,_,h,rfl,rfl,rfl,hN.fall _ _,rfl,?_,rfl⟩
   ·simp only [We,Zm8,Zm7,Zm6]
    have:Zbz (Zk G s) ⟨(Zs s ref m.pl j f).1,none,noLeads,m.done⟩=[]:=by
     unfold Zbz noLeads
     have:=hN.ld
     obtain ⟨a,b,c,d,e,f,hh⟩ : ∃ a b c d e f,(Zk G s).ld=[a,b,c,d,e,f]:=by
      match (Zk G s).ld,this with
      | [a,b,c,d,e,f],_=>exact ⟨_,_,_,_,_,_,rfl⟩
     rw [hh];rfl
    rw [this]
    exact uL
   ·rw [if_pos hoff]
    exact ⟨_,Zv,rfl⟩
   ·rw [if_pos hoff];rfl
  ·rename_i hoff
   obtain ⟨fv,c,evv,c2,hfv,hev,rfl,rfl⟩:=hq
   refine ⟨We { G with ev:=evv,ec:=c2 } s (Zk G s) ⟨(Zs s ref m.pl j f).1,some ((Zs s ref m.pl j f).2.1,ref),m.leads,(Xd s ⟨(Zs s ref m.pl j f).1,some ((Zs s ref m.pl j f).2.1,ref),m.leads,m.done⟩ M.ev).1⟩ (Vk G.nd M.n 0 s.toNat) (c::L),?_,c,?_,{ G with ev:=evv,ec:=c2 },_,Zk G s,_,h.setE hev,rfl,rfl,rfl,hN.same hsi _ _ _,rfl,?_,rfl⟩
   ·simp only [We,Zm8,Zm7,Zm6]
    exact uL
   ·rw [if_neg hoff]
    exact ⟨_,hfv,rfl⟩
   ·rw [if_neg hoff];rfl
end Go.HL
end

/-! WoO -/
section
namespace Go.HL
open Go Go.Proofs
theorem LS.mem {a b:List Zr} (h:LS a b) {x:Zr} (hx:x∈a):x∈b:=by
 obtain ⟨l,h1,h2⟩:=h
 exact h2.subset (h1.mem_iff.2 hx)
theorem Zas {G:WdG} {M:Wm} (h:WdOk G M) (L:Zb):WdIn (Xj G M++L) G M:=wdIn h fun b o hb=>by
 unfold Has Xj at *
 rw [List.append_assoc,List.flatten_append]
 exact List.mem_append_left _ hb
theorem Zps {G:WdG} {M:Wm} (h:WdOk G M) (s:Int) (g:NdG) (m:Nd) (X:List Zr) (L:Zb):WdIn (We G s g m X L) G M:=wdIn h fun b o hb=>by
 unfold Has at *
 refine (Zxf G s g m X L).mem ?_
 rw [List.append_assoc,List.flatten_append]
 exact List.mem_append_left _ hb
theorem Zcd {G:WdG} {M:Wm} {s:Int} (hl:G.nd.length=M.n.length) (h0:0≤s) (h1:s<M.n.length) (L:Zb):Has (Xj G M++L) (Zk G s).np (Zbp (Zk G s) (Zf M s)):=by
 have:=Zxg hl h0 h1 L
 unfold Has Xj at *
 rw [List.append_assoc,List.flatten_append]
 exact List.mem_append_right _ this
theorem wdOp_has {G:WdG} {s:Int} {g:NdG} {m:Nd} {X:List Zr} {L:Zb}:Has (We G s g m X L) g.np (Zbp g m):=by
 unfold We Zcl
 exact Zc (Zc Zh)
def upV (G:WdG) (M:Wm) (s:Int):Value:=match Xs M s with
 | some _ => .pointer none
 | none=>pt (Zk G s).np 0
theorem Zxc {M:Wm} {s:Int} (h:Zco M s=none):Xs M s=none∧0≤s∧s<M.n.length ∧ ∃ j ref,(Zf M s).site=some (j,ref):=by
 unfold Zco at h
 rcases Vq (M:=M) s with he|⟨he,h0,h1⟩
 ·rw [he] at h;cases h
 ·rw [he] at h
  refine ⟨he,h0,h1,?_⟩
  cases hs:(Zf M s).site with
  | none=>rw [hs] at h;cases h
  | some q=>exact ⟨q.1,q.2,rfl⟩
theorem Zvn {G:WdG} {M:Wm} {s:Int} (h:Xs M s=none):upV G M s=pt (Zk G s).np 0:=by unfold upV;rw [h]
theorem Zdo {g:NdG} {m:Nd} {d:Nat} {o:Option Ld} {q:Nat × Value × List Zr} (h1:m.leads[d]? = some o) (h2:g.ld[d]? = some q):(Xi g m)[d]? = some (Zed o q):=by
 unfold Xi
 rw [List.getElem?_zipWith,h1,h2]
theorem Zrc {g:NdG} {m:Nd} {d:Nat} {x:Ld} {q:Nat × Value × List Zr} (h1:m.leads[d]? = some (some x)) (h2:g.ld[d]? = some q) {y:Zr} (hy:y∈Q1 q.1 q.2.1 q.2.2 x):y∈Zbz g m:=by
 unfold Zbz
 refine List.mem_flatten.2 ⟨Q1 q.1 q.2.1 q.2.2 x,?_,hy⟩
 refine List.mem_iff_getElem?.2 ⟨d,?_⟩
 rw [List.getElem?_zipWith,h1,h2]
 rfl
set_option maxHeartbeats 2000000 attribute [local irreducible] HW HO HQ HD HC QOp Has Upd Zt Gets Z8 Z0 Zo Xm Zz Zj Xp Zy
attribute [local irreducible] Vh Yr Xl Zs X3
theorem lstateH (lp:Nat) (wv:Value) (m:Ld) (L:Zb) (h:Has L lp (.cells ⟨X3 wv m⟩ 256)):HC Tryz.prog 164 [pt lp 0] L (fun v L'=>v=bs m.state∧L'=L):=hcHas (fun L=>Zoq lp wv [] m L) h
theorem lseenH (lp:Nat) (wv:Value) (m:Ld) (L:Zb) (ht:m.told.length=7) (h:Has L lp (.cells ⟨X3 wv m⟩ 256)):HC Tryz.prog 189 [pt lp 0] L (fun v L'=>v=iv m.seen∧L'=L):=hcHas (fun L=>Zrq lp wv [] m L ht) h
theorem Zld (T:Nat) (E:Nat→Addr) (G:WdG) (M:Wm) (s:Int) (L:Zb) (hG:Er T E [2,6] L) (hI:WdIn L G M) (hl:G.nd.length=M.n.length) (hN:Xs M s=none→Has L (Zk G s).np (Zbp (Zk G s) (Zf M s))) :
  HC Tryz.prog 143 [pt G.wp 0,iv s] L (fun v L'=>v = .tuple ⟨[upV G M s,eV T E (Zco M s)]⟩∧L'=L):=by
 have k:=Zzy T E G M s L hG hI hl hN
 unfold upV
 rcases Vq (M:=M) s with he|⟨he,h0,h1⟩
 ·have:Zco M s=some 2:=by unfold Zco;rw [he]
  simp only [he,this] at k ⊢
  exact k
 ·simp only [he] at k ⊢
  exact k
theorem Zzu (T:Nat) (E:Nat→Addr) (G:WdG) (M:Wm) (s:Int) (L:Zb) (hG:Er T E [2] L) (hI:WdIn L G M) (hl:G.nd.length=M.n.length) (hN:Xs M s=none→Has L (Zk G s).np (Zbp (Zk G s) (Zf M s))) :
  HC Tryz.prog 113 [pt G.wp 0,iv s] L (fun v L'=>v = .tuple ⟨[.bool (Zh5 M s).1,eV T E (Zh5 M s).2]⟩∧L'=L):=by
 have kn:=Vz T E G M s L hG.sub hI hl
 unfold Zh5
 rcases Vq (M:=M) s with he|⟨he,h0,h1⟩
 ·simp only [he] at kn ⊢
  refine Za (fun _ _=>Tryz.call113 _ _) Tryz.func113 rfl Tryz.ntmps113 (Nat.le_of_ble_eq_true rfl) ?_;simp only [Zd,Nat.reduceAdd]
  repeat' (first|refine uN ?_|refine uC (kn) ?_|(refine uP ?_ ?_<;>(intro h;((try simp only [zs,zq,reduceCtorEq] at h);try exact zx)))|fail)
  exact Zeb rfl ⟨rfl,rfl⟩
 ·have hN':=hN he
  simp only [he] at kn ⊢
  unfold Zbp at hN'
  cases hs:(Zf M s).site with
  | none =>
   rw [hs] at hN'
   have g0:(Vh (.pointer none) (Zk G s).bp (Xi (Zk G s) (Zf M s)) (Zf M s).done)[0+0]? = some (.pointer none):=Wc rfl
   refine Za (fun _ _=>Tryz.call113 _ _) Tryz.func113 rfl Tryz.ntmps113 (Nat.le_of_ble_eq_true rfl) ?_;simp only [Zd,Nat.reduceAdd]
   repeat' (first|refine uN ?_|refine uC (kn) ?_|(refine uP ?_ ?_<;>(intro h;((try simp only [zs,zq,reduceCtorEq] at h);try exact zx)))|fail)
   exact Zeb rfl ⟨rfl,rfl⟩
  | some q =>
   rw [hs] at hN'
   obtain ⟨q1,q2⟩:=q
   have g0:(Vh (pt (Zk G s).sp 0) (Zk G s).bp (Xi (Zk G s) (Zf M s)) (Zf M s).done)[0+0]? = some (pt (Zk G s).sp 0):=Wc rfl
   refine Za (fun _ _=>Tryz.call113 _ _) Tryz.func113 rfl Tryz.ntmps113 (Nat.le_of_ble_eq_true rfl) ?_;simp only [Zd,Nat.reduceAdd]
   repeat' (first|refine uN ?_|refine uC (kn) ?_|(refine uP ?_ ?_<;>(intro h;((try simp only [zs,zq,reduceCtorEq] at h);try exact zx)))|fail)
   exact Zeb rfl ⟨rfl,rfl⟩
theorem Zs7 (T:Nat) (E:Nat→Addr) (G:WdG) (M:Wm) (s d:Int) (L:Zb) (hG:Er T E [2] L) (hW:WdOk G M) (hM:WI M) :
  HC Tryz.prog 111 [pt G.wp 0,iv s,iv d] (Xj G M++L) (fun v L'=>v = .tuple ⟨[bs (Up M s d).1,eV T E (Up M s d).2]⟩∧L'=Xj G M++L):=by
 have hl:=hW.ndl
 have hI:=Zas hW L
 have hG':Er T E [2] (Xj G M++L):=by
  unfold Xj Zgf
  exact ((((((hG.cons _).cons _).cons _).cons _).cons _).cons _).cons _
 have kn:=Vz T E G M s _ hG' hI hl
 have hAt : ∀ (h0:0≤s) (h1:s<M.n.length),Has (Xj G M++L) (Zk G s).np (Zbp (Zk G s) (Zf M s)):=fun h0 h1=>Zcd hl h0 h1 L
 have hB : ∀ (h0:0≤s) (h1:s<M.n.length) {b:Nat} {o:Obj},(b,o)∈Zj6 (Zk G s) s (Zf M s)→Has (Xj G M++L) b o:=fun h0 h1 {b o} hb=>by
  have:=Zg0 hl h0 h1 hb L
  unfold Has Xj at *
  rw [List.append_assoc,List.flatten_append]
  exact List.mem_append_right _ this
 generalize Xj G M++L=H at *
 unfold Up
 rcases Vq (M:=M) s with he|⟨he,h0,h1⟩
 ·have h2:s<0 ∨ ↑M.n.length≤s∨d<0∨6≤d:=by
   unfold Xs at he
   split at he
   ·omega
   ·cases he
  simp only [if_pos h2,he] at kn ⊢
  refine Za (fun _ _=>Tryz.call111 _ _) Tryz.func111 rfl Tryz.ntmps111 (Nat.le_of_ble_eq_true rfl) ?_;simp only [Zd,Nat.reduceAdd]
  repeat' (first|refine uN ?_|refine Z2 S ?_|refine uC (kn) ?_|(refine uP ?_ ?_<;>(intro h;((try simp only [zs,zq,reduceCtorEq] at h);try exact zx)))|fail)
  exact Zeb rfl ⟨rfl,rfl⟩
 ·simp only [he] at kn
  by_cases hd:d<0∨6≤d
  ·have h2:s<0 ∨ ↑M.n.length≤s∨d<0∨6≤d := .inr (.inr hd)
   simp only [if_pos h2]
   refine Za (fun _ _=>Tryz.call111 _ _) Tryz.func111 rfl Tryz.ntmps111 (Nat.le_of_ble_eq_true rfl) ?_;simp only [Zd,Nat.reduceAdd]
   repeat' (first|refine uN ?_|refine Z2 S ?_|refine uC (kn) ?_|(refine uP ?_ ?_<;>(intro h;((try simp only [zs,zq,reduceCtorEq] at h);try exact zx)))|fail)
   all_goals exact Zeb rfl ⟨rfl,rfl⟩
  ·have h2 : ¬ (s<0 ∨ ↑M.n.length≤s∨d<0∨6≤d):=by omega
   simp only [if_neg h2]
   have hN:=hAt h0 h1
   have hok:=Ud hW h0 h1
   have hni:=Wu hM h0 h1
   have hBB:=fun {b o}=>hB h0 h1 (b:=b) (o:=o)
   generalize Zf M s=m at *
   generalize hg:Zk G s=g at *
   obtain ⟨dn,rfl⟩:=Int.eq_ofNat_of_zero_le (show 0≤d by omega)
   have hd6:dn<6:=by omega
   simp only [Int.toNat_natCast]
   have hm1:m.leads[dn]? = some (m.leads.getD dn none):=getD_some (by rw [hni.leads];exact hd6)
   obtain ⟨q,hq⟩ : ∃ q,g.ld[dn]? = some q:=⟨_,List.getElem?_eq_getElem (by rw [hok.ld];exact hd6)⟩
   have hv:=Zdo hm1 hq
   unfold Zbp at hN
   have gL:=Zc5 (sv:=Zhx g m.site) (bp:=g.bp) (dn:=m.done) hv
   cases hx:m.leads.getD dn none with
   | none =>
    rw [hx] at gL
    simp only [Zed] at gL
    refine Za (fun _ _=>Tryz.call111 _ _) Tryz.func111 rfl Tryz.ntmps111 (Nat.le_of_ble_eq_true rfl) ?_;simp only [Zd,Nat.reduceAdd]
    repeat' (first|refine uN ?_|refine Z2 S ?_|refine uC (kn) ?_|(refine uP ?_ ?_<;>(intro h;((try simp only [zs,zq,reduceCtorEq] at h);try exact zx)))|fail)
    exact Zeb rfl ⟨rfl,rfl⟩
   | some x =>
    rw [hx] at gL hm1
    simp only [Zed] at gL
    have hLd:Has H q.1 (.cells ⟨X3 q.2.1 x⟩ 256):=hBB (by
     unfold Zj6
     exact List.mem_append_right _ (Zrc hm1 hq (by simp [Q1])))
    refine Za (fun _ _=>Tryz.call111 _ _) Tryz.func111 rfl Tryz.ntmps111 (Nat.le_of_ble_eq_true rfl) ?_;simp only [Zd,Nat.reduceAdd]
    repeat' (first|refine uN ?_|refine Z2 S ?_|refine uC (kn) ?_|refine uC (lstateH q.1 q.2.1 x _ hLd) ?_|(refine uP ?_ ?_<;>(intro h;((try simp only [zs,zq,reduceCtorEq] at h);try exact zx)))|fail)
    exact Zeb rfl ⟨rfl,rfl⟩
end Go.HL
end

/-! WoP -/
section
namespace Go.HL
open Go Go.Proofs
theorem Zn8 {T:Nat} {E:Nat→Addr} {ns:List Nat} {L:Zb} (h:Er T E ns L) (G:WdG) (s:Int) (g:NdG) (m:Nd) (X:List Zr):Er T E ns (We G s g m X L):=
 ((((((((((((h.cons _).cons _).cons _).cons _).cons _).cons _).cons _).cons _).cons _).cons _).cons _).cons _).cons _
theorem Ww {T:Nat} {E:Nat→Addr} {ns:List Nat} {L:Zb} (h:Er T E ns L) (G:WdG) (M:Wm):Er T E ns (Xj G M++L):=
 ((((((h.cons _).cons _).cons _).cons _).cons _).cons _).cons _
theorem Za2 {M:Wm} {s:Int}:(∃ e,Zco M s=some e)∨(Zco M s=none∧Xs M s=none∧0≤s∧s<M.n.length ∧ ∃ j ref,(Zf M s).site=some (j,ref)):=by
 cases h:Zco M s with
 | some e=>exact .inl ⟨e,rfl⟩
 | none=>exact .inr ⟨rfl,Zxc h⟩
set_option maxHeartbeats 2000000 attribute [local irreducible] HW HO HQ HD HC QOp Has Upd Zt Gets Z8 Z0 Zo Xm Zz Zj Xp Zy
attribute [local irreducible] Vh Yr Xl Zs X3
theorem Zjt {T:Nat} {E:Nat→Addr} {G:WdG} {M:Wm} (s:Int) {L:Zb} (hG:Er T E [2,6] L) (hW:WdOk G M):HC Tryz.prog 143 [pt G.wp 0,iv s] (Xj G M++L) (fun v L'=>v = .tuple ⟨[upV G M s,eV T E (Zco M s)]⟩∧L'=Xj G M++L):=
 Zld T E G M s _ (Ww hG G M) (Zas hW L) hW.ndl (fun hn=>by
  obtain ⟨h0,h1⟩:=Y8 hn
  exact Zcd hW.ndl h0 h1 L)
theorem Zuh {T:Nat} {E:Nat→Addr} {G:WdG} {M:Wm} {s:Int} {L:Zb} (hG:Er T E [2,6] L) (hW:WdOk G M) (hu:Zco M s=none) (X:List Zr):HC Tryz.prog 143 [pt G.wp 0,iv s] (We G s (Zk G s) (Zf M s) X L) (fun v L'=>v = .tuple ⟨[pt (Zk G s).np 0,.nilIface]⟩∧L'=We G s (Zk G s) (Zf M s) X L):=by
 have:=Zld T E G M s _ (Zn8 hG G s (Zk G s) (Zf M s) X) (Zps hW s _ _ X L) hW.ndl (fun hn=>wdOp_has)
 rw [hu,Zvn (Zxc hu).1] at this
 exact this
theorem Zl3 (T:Nat) (E:Nat→Addr) (G:WdG) (M:Wm) (s d:Int) (L:Zb) (hG:Er T E [2,6] L) (hW:WdOk G M) (hM:WI M) :
  HC Tryz.prog 85 [pt G.wp 0,iv s,iv d] (Xj G M++L) (fun v L'=>v=eV T E (Wo M s d).2∧Zg5 G (Wo M s d).1 L L'):=by
 unfold Wo
 have hself:=Vy hW L
 by_cases hd:d<0∨6≤d
 ·simp only [if_pos hd]
  have hG':=Ww hG G M
  generalize Xj G M++L=H at *
  refine Za (fun _ _=>Tryz.call85 _ _) Tryz.func85 rfl Tryz.ntmps85 (Nat.le_of_ble_eq_true rfl) ?_;simp only [Zd,Nat.reduceAdd]
  repeat' (first|refine uN ?_|(refine uP ?_ ?_<;>(intro h;((try simp only [zs,zq,reduceCtorEq] at h);try exact zx)))|fail)
  all_goals exact Um rfl ⟨rfl,hself⟩
 simp only [if_neg hd]
 rcases Za2 (M:=M) (s:=s) with ⟨e,he⟩|⟨he,hn,h0,h1,j,ref,hs⟩
 ·have ku:=Zjt s hG hW
  have hG':=Ww hG G M
  generalize Xj G M++L=H at *
  simp only [he] at ku ⊢
  refine Za (fun _ _=>Tryz.call85 _ _) Tryz.func85 rfl Tryz.ntmps85 (Nat.le_of_ble_eq_true rfl) ?_;simp only [Zd,Nat.reduceAdd]
  repeat' (first|refine uN ?_|refine uC (ku) ?_|(refine uP ?_ ?_<;>(intro h;((try simp only [zs,zq,reduceCtorEq] at h);try exact zx)))|fail)
  exact Um rfl ⟨rfl,hself⟩
 ·simp only [he]
  refine HC.node hW h0 h1 ?_
  have ku:=Zuh (X:=Vk G.nd M.n 0 s.toNat) hG hW he
  have hok:=Ud hW h0 h1
  have hni:=Wu hM h0 h1
  generalize Vk G.nd M.n 0 s.toNat=X at *
  generalize Zf M s=m at *
  generalize Zk G s=g at *
  obtain ⟨pl,site,leads,done⟩:=m
  simp only at hs
  subst hs
  have hF:=hok.map j ref rfl
  have hj:=(hni.jn rfl).ji.jn
  have g0:(Vh (pt g.sp 0) g.bp (Xi g ⟨pl,some (j,ref),leads,done⟩) done)[0+0]? = some (pt g.sp 0):=Wc rfl
  have kr:=fun L hG=>Zo5 T E g.sp g.bj g.mb g.bp s g.es g.ck ref j d L hG hj.len hF
  simp only [if_neg hd] at kr
  simp only [We,Zcl,Zbp,Zhx,Zm8,Zm7,Zm6] at ku ⊢
  refine Za (fun _ _=>Tryz.call85 _ _) Tryz.func85 rfl Tryz.ntmps85 (Nat.le_of_ble_eq_true rfl) ?_;simp only [Zd,Nat.reduceAdd]
  repeat' (first|refine uN ?_|refine uC (ku) ?_|(refine uP ?_ ?_<;>(intro h;((try simp only [zs,zq,reduceCtorEq] at h);try exact zx)))|fail)
  refine fo 6 ?_
  refine fo 5 ?_
  refine fo 5 ?_
  refine gc (kr _ ?_) ?_
  ·exact (((((((((hG.sub.cons _).cons _).cons _).cons _).cons _).cons _).cons _).cons _).cons _).cons _
  rintro v L' ⟨es',ck',hF',rfl,rfl⟩
  repeat' (first|refine uN ?_|refine uC (ku) ?_|(refine uP ?_ ?_<;>(intro h;((try simp only [zs,zq,reduceCtorEq] at h);try exact zx)))|fail)
  refine Z9 (L':=We G s { g with es:=es',ck:=ck' } (U2 ⟨pl,some (j,ref),leads,done⟩ d) X L) ?_ ⟨rfl,G,M,{ g with es:=es',ck:=ck' },U2 ⟨pl,some (j,ref),leads,done⟩ d,hW,rfl,rfl,rfl,⟨hok.ld,hok.lok,fun j2 r2 e=>by cases e;exact hF'⟩,rfl,rfl,rfl⟩
  simp only [We,Zcl,Zbp,Zhx,Zm8,Zm7,Zm6,U2]
  exact uL
theorem Zvr (T:Nat) (E:Nat→Addr) (G:WdG) (M:Wm) (s n:Int) (L:Zb) (hG:Er T E [2,6] L) (hW:WdOk G M) (hM:WI M) :
  HC Tryz.prog 98 [pt G.wp 0,iv s,iv n] (Xj G M++L) (fun v L'=>v=eV T E (Zct M s n).2∧Zg5 G (Zct M s n).1 L L'):=by
 unfold Zct
 have hself:=Vy hW L
 by_cases hd:n<0
 ·simp only [if_pos hd]
  have hG':=Ww hG G M
  generalize Xj G M++L=H at *
  refine Za (fun _ _=>Tryz.call98 _ _) Tryz.func98 rfl Tryz.ntmps98 (Nat.le_of_ble_eq_true rfl) ?_;simp only [Zd,Nat.reduceAdd]
  repeat' (first|refine uN ?_|(refine uP ?_ ?_<;>(intro h;((try simp only [zs,zq,reduceCtorEq] at h);try exact zx)))|fail)
  all_goals exact Um rfl ⟨rfl,hself⟩
 simp only [if_neg hd]
 rcases Za2 (M:=M) (s:=s) with ⟨e,he⟩|⟨he,hn,h0,h1,j,ref,hs⟩
 ·have ku:=Zjt s hG hW
  have hG':=Ww hG G M
  generalize Xj G M++L=H at *
  simp only [he] at ku ⊢
  refine Za (fun _ _=>Tryz.call98 _ _) Tryz.func98 rfl Tryz.ntmps98 (Nat.le_of_ble_eq_true rfl) ?_;simp only [Zd,Nat.reduceAdd]
  repeat' (first|refine uN ?_|refine uC (ku) ?_|(refine uP ?_ ?_<;>(intro h;((try simp only [zs,zq,reduceCtorEq] at h);try exact zx)))|fail)
  exact Um rfl ⟨rfl,hself⟩
 ·simp only [he]
  refine HC.node hW h0 h1 ?_
  have ku:=Zuh (X:=Vk G.nd M.n 0 s.toNat) hG hW he
  have hok:=Ud hW h0 h1
  have hni:=Wu hM h0 h1
  generalize Vk G.nd M.n 0 s.toNat=X at *
  generalize hmm:Zf M s=m at *
  generalize Zk G s=g at *
  obtain ⟨pl,site,leads,done⟩:=m
  simp only at hs
  subst hs
  have hoff:pl.off=false:=(hni.up j ref rfl).2
  have g1:(Vh (pt g.sp 0) g.bp (Xi g ⟨pl,some (j,ref),leads,done⟩) done)[0+1]? = some (pt g.bp 0):=Wc rfl
  have kr:=fun L hG=>Zxw T E g.bp g.ba pl n L hG
  simp only [if_neg hd,hoff,Bool.false_eq_true,if_false] at kr
  simp only [We,Zcl,Zbp,Zhx,Zm8,Zm7,Zm6] at ku ⊢
  refine Za (fun _ _=>Tryz.call98 _ _) Tryz.func98 rfl Tryz.ntmps98 (Nat.le_of_ble_eq_true rfl) ?_;simp only [Zd,Nat.reduceAdd]
  repeat' (first|refine uN ?_|refine uC (ku) ?_|(refine uP ?_ ?_<;>(intro h;((try simp only [zs,zq,reduceCtorEq] at h);try exact zx)))|fail)
  refine fo 5 ?_
  refine gc (kr _ ?_) ?_
  ·exact ((((((((((((hG.sub.cons _).cons _).cons _).cons _).cons _).cons _).cons _).cons _).cons _).cons _).cons _).cons _)
  rintro v L' ⟨rfl,rfl⟩
  repeat' (first|refine uN ?_|refine uC (ku) ?_|(refine uP ?_ ?_<;>(intro h;((try simp only [zs,zq,reduceCtorEq] at h);try exact zx)))|fail)
  refine Z9 (L':=We G s g ⟨{ pl with cut:=n },some (j,ref),leads,done⟩ X L) ?_ ⟨rfl,G,M,g,⟨{ pl with cut:=n },some (j,ref),leads,done⟩,hW,rfl,rfl,rfl,hok.same rfl _ _ _,rfl,rfl,rfl⟩
  have e1:Zbz g ⟨{ pl with cut:=n },some (j,ref),leads,done⟩=Zbz g ⟨pl,some (j,ref),leads,done⟩:=rfl
  have e2:Xi g ⟨{ pl with cut:=n },some (j,ref),leads,done⟩=Xi g ⟨pl,some (j,ref),leads,done⟩:=rfl
  simp only [We,Zcl,Zbp,Zhx,Zm8,Zm7,Zm6]
  rw [e1,e2]
  simp only [hoff]
  exact uL
theorem Zs4 (T:Nat) (E:Nat→Addr) (G:WdG) (M:Wm) (s:Int) (L:Zb) (hG:Er T E [2,6] L) (hW:WdOk G M) (hM:WI M) :
  HC Tryz.prog 100 [pt G.wp 0,iv s] (Xj G M++L) (fun v L'=>v=eV T E (Qo M s).2∧Zg5 G (Qo M s).1 L L'):=by
 unfold Qo
 have hself:=Vy hW L
 rcases Za2 (M:=M) (s:=s) with ⟨e,he⟩|⟨he,hn,h0,h1,j,ref,hs⟩
 ·have ku:=Zjt s hG hW
  have hG':=Ww hG G M
  generalize Xj G M++L=H at *
  simp only [he] at ku ⊢
  refine Za (fun _ _=>Tryz.call100 _ _) Tryz.func100 rfl Tryz.ntmps100 (Nat.le_of_ble_eq_true rfl) ?_;simp only [Zd,Nat.reduceAdd]
  repeat' (first|refine uN ?_|refine uC (ku) ?_|(refine uP ?_ ?_<;>(intro h;((try simp only [zs,zq,reduceCtorEq] at h);try exact zx)))|fail)
  exact Um rfl ⟨rfl,hself⟩
 ·simp only [he]
  refine HC.node hW h0 h1 ?_
  have ku:=Zuh (X:=Vk G.nd M.n 0 s.toNat) hG hW he
  have hok:=Ud hW h0 h1
  have hni:=Wu hM h0 h1
  generalize Vk G.nd M.n 0 s.toNat=X at *
  generalize hmm:Zf M s=m at *
  generalize Zk G s=g at *
  obtain ⟨pl,site,leads,done⟩:=m
  simp only at hs
  subst hs
  have g1:(Vh (pt g.sp 0) g.bp (Xi g ⟨pl,some (j,ref),leads,done⟩) done)[0+1]? = some (pt g.bp 0):=Wc rfl
  have kr:=fun L=>Zyz g.bp g.ba pl L
  have hlv:(Xi g ⟨pl,some (j,ref),leads,done⟩).length=6:=by simp [Xi,hni.leads,hok.ld]
  have kf:=fun L=>Zhz g ⟨pl,some (j,ref),leads,done⟩ L hlv hok.ld
  simp only [We,Zcl,Zbp,Zhx,Zm8,Zm7,Zm6] at ku kf ⊢
  refine Za (fun _ _=>Tryz.call100 _ _) Tryz.func100 rfl Tryz.ntmps100 (Nat.le_of_ble_eq_true rfl) ?_;simp only [Zd,Nat.reduceAdd]
  repeat' (first|refine uN ?_|refine uC (ku) ?_|(refine uP ?_ ?_<;>(intro h;((try simp only [zs,zq,reduceCtorEq] at h);try exact zx)))|fail)
  refine fo 5 ?_
  refine gc (kr _) ?_
  rintro v L' ⟨rfl,rfl⟩
  repeat' (first|refine uN ?_|refine uC (ku) ?_|(refine uP ?_ ?_<;>(intro h;((try simp only [zs,zq,reduceCtorEq] at h);try exact zx)))|fail)
  refine fo 3 ?_
  refine gc (kf _) ?_
  rintro v L' ⟨rfl,rfl⟩
  repeat' (first|refine uN ?_|refine uC (ku) ?_|(refine uP ?_ ?_<;>(intro h;((try simp only [zs,zq,reduceCtorEq] at h);try exact zx)))|fail)
  refine Z9 (L':=We G s g (Zjd ⟨pl,some (j,ref),leads,done⟩) X L) ?_ ⟨rfl,G,M,g,Zjd ⟨pl,some (j,ref),leads,done⟩,hW,rfl,rfl,rfl,hok.fall _ _,rfl,rfl,rfl⟩
  simp only [We,Zcl,Zbp,Zhx,Zm8,Zm7,Zm6,Zjd]
  have:Zbz g ⟨{ pl with off:=true },none,noLeads,done⟩=[]:=by
   unfold Zbz noLeads
   have:=hok.ld
   obtain ⟨a,b,c,d,e,f,hh⟩ : ∃ a b c d e f,g.ld=[a,b,c,d,e,f]:=by
    match g.ld,this with
    | [a,b,c,d,e,f],_=>exact ⟨_,_,_,_,_,_,rfl⟩
   rw [hh];rfl
  rw [this]
  exact uL
end Go.HL
end

/-! WoQ -/
section
namespace Go.HL
open Go Go.Proofs
set_option maxHeartbeats 2000000 attribute [local irreducible] HW HO HQ HD HC QOp Has Upd Zt Gets Z8 Z0 Zo Xm Zz Zj Xp Zy
attribute [local irreducible] Vh Yr Xl Zs X3 Zn
theorem Zvy (T:Nat) (E:Nat→Addr) (G:WdG) (M:Wm) (s:Int) (L:Zb) (hG:Er T E [2,3,6,8] L) (hW:WdOk G M) (hM:WI M) :
  HC Tryz.prog 102 [pt G.wp 0,iv s] (Xj G M++L) (fun v L'=>v=eV T E (Zpo M s).2∧Zg5 G (Zpo M s).1 L L'):=by
 unfold Zpo
 have hself:=Vy hW L
 have hnl:=hM.wn
 have hwl:=hM.wl
 rcases Vq (M:=M) s with he|⟨he,h0,h1⟩
 ·have kn:=Vz T E G M s _ (Ww hG.sub G M) (Zas hW L) hW.ndl
  generalize Xj G M++L=H at *
  simp only [he] at kn ⊢
  refine Za (fun _ _=>Tryz.call102 _ _) Tryz.func102 rfl Tryz.ntmps102 (Nat.le_of_ble_eq_true rfl) ?_;simp only [Zd,Nat.reduceAdd]
  repeat' (first|refine uN ?_|refine uC (kn) ?_|(refine uP ?_ ?_<;>(intro h;((try simp only [zs,zq,reduceCtorEq] at h);try exact zx)))|fail)
  exact Um rfl ⟨rfl,hself⟩
 ·simp only [he]
  cases hs:(Zf M s).site with
  | some q =>
   have kn:=Vz T E G M s _ (Ww hG.sub G M) (Zas hW L) hW.ndl
   have hN:=Zcd hW.ndl h0 h1 L
   have hG':=Ww hG G M
   generalize Xj G M++L=H at *
   simp only [he,Option.isSome_some,if_true] at kn ⊢
   unfold Zbp at hN
   rw [hs] at hN
   obtain ⟨q1,q2⟩:=q
   have g0:(Vh (pt (Zk G s).sp 0) (Zk G s).bp (Xi (Zk G s) (Zf M s)) (Zf M s).done)[0+0]? = some (pt (Zk G s).sp 0):=Wc rfl
   refine Za (fun _ _=>Tryz.call102 _ _) Tryz.func102 rfl Tryz.ntmps102 (Nat.le_of_ble_eq_true rfl) ?_;simp only [Zd,Nat.reduceAdd]
   repeat' (first|refine uN ?_|refine uC (kn) ?_|(refine uP ?_ ?_<;>(intro h;((try simp only [zs,zq,reduceCtorEq] at h);try exact zx)))|fail)
   exact Um rfl ⟨rfl,hself⟩
  | none =>
   simp only [Option.isSome_none,Bool.false_eq_true,if_false]
   refine HC.node hW h0 h1 ?_
   have kn:=Vz T E G M s _ (Zn8 hG.sub G s (Zk G s) (Zf M s) (Vk G.nd M.n 0 s.toNat)) (Zps hW s _ _ _ L) hW.ndl
   have hok:=Ud hW h0 h1
   have hni:=Wu hM h0 h1
   have hnp:=fun H hH=>Zfw hW h0 h1 (H:=H) hH
   simp only [he] at kn
   generalize Vk G.nd M.n 0 s.toNat=X at *
   generalize hmm:Zf M s=m at *
   generalize Zk G s=g at *
   obtain ⟨pl,site,leads,done⟩:=m
   simp only at hs
   subst hs
   have hpl:pl.b.length=512:=hni.b512
   have g0 : ∀ v,(Vh v g.bp (Xi g ⟨pl,none,leads,done⟩) done)[0+0]? = some v:=fun v=>Wc rfl
   have g1 : ∀ v,(Vh v g.bp (Xi g ⟨pl,none,leads,done⟩) done)[0+1]? = some (pt g.bp 0):=fun v=>Wc rfl
   have g0n:=g0 (.pointer none)
   have g1n:=g1 (.pointer none)
   have p0:=fun v=>Zrs (sv := .pointer none) (sv':=v) (bp:=g.bp) (lv:=Xi g ⟨pl,none,leads,done⟩) (dn:=done)
   have kon:=fun L=>on_calls g.bp g.ba pl L
   have kne:=fun L hG=>Zk1 T E s g.bp g.ba { pl with off:=false,cut := -1 } L hG (by simp only;omega)
   have hse:Zm9 s { pl with off:=false,cut := -1 }=none:=by
    unfold Zm9
    rw [if_neg (by omega)]
    simp only
    rw [if_neg (by omega)]
    simp
   simp only [hse] at kne
   have hlv:(Xi g ⟨pl,none,leads,done⟩).length=6:=by simp [Xi,hni.leads,hok.ld]
   simp only [We,Zcl,Zbp,Zhx,Zm8,Zm7,Zm6] at kn ⊢
   refine Za (fun _ _=>Tryz.call102 _ _) Tryz.func102 rfl Tryz.ntmps102 (Nat.le_of_ble_eq_true rfl) ?_;simp only [Zd,Nat.reduceAdd]
   repeat' (first|refine uN ?_|refine uC (kn) ?_|(refine uP ?_ ?_<;>(intro h;((try simp only [zs,zq,reduceCtorEq] at h);try exact zx)))|fail)
   refine fo 5 ?_
   refine gc (kon _) ?_
   rintro v L' ⟨rfl,rfl⟩
   repeat' (first|refine uN ?_|refine uC (kn) ?_|(refine uP ?_ ?_<;>(intro h;((try simp only [zs,zq,reduceCtorEq] at h);try exact zx)))|fail)
   refine gc (kne _ ?_) ?_
   ·exact ((((((((((((hG.sub.cons _).cons _).cons _).cons _).cons _).cons _).cons _).cons _).cons _).cons _).cons _).cons _)
   rintro v L' ⟨sp,bj,mb,rfl,rfl⟩
   have p0n:=p0 (pt sp 0)
   repeat' (first|refine uN ?_|refine uC (kn) ?_|(refine uP ?_ ?_<;>(intro h;((try simp only [zs,zq,reduceCtorEq] at h);try exact zx)))|fail)
   have kw:=fun L hp hs=>Zh1 G s { g with sp:=sp,bj:=bj,mb:=mb,es:=[],ck:=0 } (Uz ⟨pl,none,leads,done⟩) M.ev M.n.length L hW.ev hM.evl hp hni.done hlv hs
   have g0s:=g0 (pt sp 0)
   refine fo 6 ?_
   refine fo 6 ?_
   refine fo 6 ?_
   refine gc (kw _ ?_ ?_) ?_
   ·exact hnp _ (fun b o hb=>Zc (Zc (Zc (Zc (Zc (Zc (Zc (Zc (Zc (Zc (Yo hb)))))))))))
   ·intro j r hjr
    cases hjr
    refine ⟨⟨Zh,?_⟩,Zgs _⟩
    exact Zc (Zc (Zc Zh))
   rintro v L' ⟨evv,c,hev,rfl,rfl⟩
   repeat' (first|refine uN ?_|refine uC (kn) ?_|(refine uP ?_ ?_<;>(intro h;((try simp only [zs,zq,reduceCtorEq] at h);try exact zx)))|fail)
   refine Z9 (L':=We { G with ev:=evv,ec:=c } s { g with sp:=sp,bj:=bj,mb:=mb,es:=[],ck:=0 } { Uz ⟨pl,none,leads,done⟩ with done:=(Xd s (Uz ⟨pl,none,leads,done⟩) M.ev).1 } X L) ?_ ⟨rfl,{ G with ev:=evv,ec:=c },{ M with ev:=(Xd s (Uz ⟨pl,none,leads,done⟩) M.ev).2 },{ g with sp:=sp,bj:=bj,mb:=mb,es:=[],ck:=0 },{ Uz ⟨pl,none,leads,done⟩ with done:=(Xd s (Uz ⟨pl,none,leads,done⟩) M.ev).1 },hW.setE hev,rfl,rfl,rfl,⟨hok.ld,hok.lok,fun j2 r2 e=>by cases e;exact Zj3⟩,rfl,rfl,rfl⟩
   simp only [We,Uz,Zm8,Zm7,Zm6]
   exact uL
end Go.HL
end

/-! WoR -/
section
namespace Go.HL
open Go Go.Proofs
section nd
variable {P:Program} {n:Nat} {ops:List Oper} {Q:Exit→Z5→Zb→Prop} {ρ:Z5} {L:Zb} {l:List Oper}
theorem ho_nodup (h:(L.flatten.map (·.1)).Nodup→HO P n ops Q l ρ L):HO P n ops Q l ρ L:=fun k w a hs ha=>h hs.nodup k w a hs ha
end nd
theorem Ziu {G G':WdG} {M':Wm} {L:Zb} (h:WdOk G' M') (e1:G'.wp=G.wp) (e2:G'.nd=G.nd):Zg5 G M' L (Xj G' M'++L):=⟨G',e1,by rw [e2],h,rfl⟩
set_option maxHeartbeats 2000000 attribute [local irreducible] HW HO HQ HD HC QOp Has Upd Zt Gets Z8 Z0 Zo Xm Zz Zj Xp Zy
attribute [local irreducible] Vh Yr Xl Zs X3 Zn
theorem Zh0 (T:Nat) (E:Nat→Addr) (G:WdG) (M:Wm) (a b:Int) (whole:Bool) (L:Zb) (hG:Er T E [2] L) (hW:WdOk G M) :
  HC Tryz.prog 95 [pt G.wp 0,iv a,iv b,.bool whole] (Xj G M++L) (fun v L'=>v=eV T E (V8 M a b whole).2∧Zg5 G (V8 M a b whole).1 L L'):=by
 unfold V8
 have hself:=Vy hW L
 have hI:=Zas hW L
 obtain ⟨an,capn,hnv,hnr⟩:=hI.ns
 by_cases h:a<0∨M.n.length≤a∨b<0∨M.n.length≤b
 ·simp only [if_pos h]
  have hG':=Ww hG G M
  have hw:=hI.wp
  unfold Zay at hw
  rw [hnv] at hw
  generalize Xj G M++L=H at *
  refine Za (fun _ _=>Tryz.call95 _ _) Tryz.func95 rfl Tryz.ntmps95 (Nat.le_of_ble_eq_true rfl) ?_;simp only [Zd,Nat.reduceAdd]
  repeat' (first|refine uN ?_|(refine uP ?_ ?_<;>(intro h;((try simp only [zs,zq,reduceCtorEq] at h);try exact zx)))|fail)
  all_goals exact Um rfl ⟨rfl,hself⟩
 ·simp only [if_neg h]
  have hF:=hW.br
  have key : ∀ es' ck' x,Zy pk es' (fun y=>if y=(min a b,max a b) then x else M.br y)→Zg5 G { M with br:=fun y=>if y=(min a b,max a b) then x else M.br y } L (Xj { G with es:=es',ck:=ck' } { M with br:=fun y=>if y=(min a b,max a b) then x else M.br y }++L):=fun es' ck' x hF'=>Ziu (hW.setB hF') rfl rfl
  simp only [Xj,Zgf,Zay,List.cons_append,List.nil_append,hnv] at key ⊢
  cases whole with
  | true =>
   simp only [Bool.not_true,Bool.false_and]
   refine Za (fun _ _=>Tryz.call95 _ _) Tryz.func95 rfl Tryz.ntmps95 (Nat.le_of_ble_eq_true rfl) ?_;simp only [Zd,Nat.reduceAdd]
   repeat' (first|refine uN ?_|(refine uP ?_ ?_<;>(intro h;((try simp only [zs,zq,reduceCtorEq] at h);try exact zx)))|fail)
   all_goals refine fo 3 ?_
   all_goals refine wmP (v:=false) hF (fun es' ck' hF'=>?_)
   all_goals repeat' (first|refine uN ?_|(refine uP ?_ ?_<;>(intro h;((try simp only [zs,zq,reduceCtorEq] at h);try exact zx)))|fail)
   all_goals exact Z9 uL ⟨rfl,key es' ck' _ hF'⟩
  | false =>
   simp only [Bool.not_false,Bool.true_and]
   refine Za (fun _ _=>Tryz.call95 _ _) Tryz.func95 rfl Tryz.ntmps95 (Nat.le_of_ble_eq_true rfl) ?_;simp only [Zd,Nat.reduceAdd]
   repeat' (first|refine uN ?_|(refine uP ?_ ?_<;>(intro h;((try simp only [zs,zq,reduceCtorEq] at h);try exact zx)))|fail)
   all_goals refine fo 3 ?_
   all_goals refine wmP (v:=decide (a≠b)) hF (fun es' ck' hF'=>?_)
   all_goals repeat' (first|refine uN ?_|(refine uP ?_ ?_<;>(intro h;((try simp only [zs,zq,reduceCtorEq] at h);try exact zx)))|fail)
   all_goals exact Z9 uL ⟨rfl,key es' ck' _ hF'⟩
theorem Zs5 (T:Nat) (E:Nat→Addr) (G:WdG) (M:Wm) (k:Int) (L:Zb) (hG:Er T E [4] L) (hW:WdOk G M) (hl:M.l.length≤100000000) :
  HC Tryz.prog 91 [pt G.wp 0,iv k] (Xj G M++L) (fun v L'=>v=eV T E (Qp M k).2∧Zg5 G (Qp M k).1 L L'):=by
 unfold Qp
 have hself:=Vy hW L
 have hI:=Zas hW L
 have ka:=Zdv T E G M k _ (Ww hG G M) hI
 unfold Zs1 at *
 by_cases h:k<0∨M.l.length≤k
 ·simp only [if_pos h] at ka ⊢
  generalize Xj G M++L=H at *
  refine Za (fun _ _=>Tryz.call91 _ _) Tryz.func91 rfl Tryz.ntmps91 (Nat.le_of_ble_eq_true rfl) ?_;simp only [Zd,Nat.reduceAdd]
  repeat' (first|refine uN ?_|refine uC (ka) ?_|(refine uP ?_ ?_<;>(intro h;((try simp only [zs,zq,reduceCtorEq] at h);try exact zx)))|fail)
  all_goals exact Um rfl ⟨rfl,hself⟩
 ·simp only [if_neg h] at ka ⊢
  have key : ∀ lv lc,Z7 lv (M.l.eraseIdx k.toNat) lc→Zg5 G { M with l:=M.l.eraseIdx k.toNat } L (Xj { G with lv:=lv,lc:=lc } { M with l:=M.l.eraseIdx k.toNat }++L):=fun lv lc hv=>Ziu (hW.setL hv) rfl rfl
  have kd:=fun L=>Zfg G.lv M.l G.lc k (k+1) L hW.l hl (by omega) (by omega) rfl
  simp only [Xj,Zgf,Zay,List.cons_append,List.nil_append] at key ka ⊢
  obtain ⟨a5,cap5,he5,-,-⟩:=hW.l.rd Zl
  rw [he5] at ka kd ⊢
  refine Za (fun _ _=>Tryz.call91 _ _) Tryz.func91 rfl Tryz.ntmps91 (Nat.le_of_ble_eq_true rfl) ?_;simp only [Zd,Nat.reduceAdd]
  repeat' (first|refine uN ?_|refine uC (ka) ?_|(refine uP ?_ ?_<;>(intro h;((try simp only [zs,zq,reduceCtorEq] at h);try exact zx)))|fail)
  refine fo 4 ?_
  refine gc (kd _) ?_
  rintro v L' ⟨c',hv',rfl⟩
  obtain ⟨a6,cap6,rfl,-,-⟩:=hv'.rd Zl
  repeat' (first|refine uN ?_|refine uC (ka) ?_|(refine uP ?_ ?_<;>(intro h;((try simp only [zs,zq,reduceCtorEq] at h);try exact zx)))|fail)
  exact Z9 uL ⟨rfl,key _ c' hv'⟩
theorem Zvs (G:WdG) (M:Wm) (L:Zb) (hI:WdIn L G M):HC Tryz.prog 106 [pt G.wp 0] L (fun v L'=>v=iv M.l.length∧L'=L):=by
 have hw:=hI.wp
 unfold Zay at hw
 obtain ⟨a,cap,hlv,-⟩:=hI.ls
 rw [hlv] at hw
 refine Za (fun _ _=>Tryz.call106 _ _) Tryz.func106 rfl Tryz.ntmps106 (Nat.le_of_ble_eq_true rfl) ?_;simp only [Zd,Nat.reduceAdd]
 repeat' (first|refine uN ?_)
 exact Um rfl ⟨rfl,rfl⟩
theorem Zpu (G:WdG) (M:Wm) (L:Zb) (hI:WdIn L G M):HC Tryz.prog 119 [pt G.wp 0] L (fun v L'=>v=iv M.n.length∧L'=L):=by
 have hw:=hI.wp
 unfold Zay at hw
 obtain ⟨a,cap,hlv,-⟩:=hI.ns
 rw [hlv] at hw
 refine Za (fun _ _=>Tryz.call119 _ _) Tryz.func119 rfl Tryz.ntmps119 (Nat.le_of_ble_eq_true rfl) ?_;simp only [Zd,Nat.reduceAdd]
 repeat' (first|refine uN ?_)
 exact Um rfl ⟨rfl,rfl⟩
theorem Zel (G:WdG) (M:Wm) (L:Zb) (hW:WdOk G M) (hl:M.ev.length≤100000000) :
  HC Tryz.prog 115 [pt G.wp 0] (Xj G M++L) (fun v L' => ∃ c,Vec 174 3 ec v M.ev c∧L'=c::(Xj G M++L)):=by
 have kd:=fun L=>Znz G.ev M.ev G.ec L hW.ev hl
 obtain ⟨a5,cap5,he5,-,-⟩:=hW.ev.rd U0
 simp only [Xj,Zgf,Zay,List.cons_append,List.nil_append]
 rw [he5] at kd ⊢
 refine Za (fun _ _=>Tryz.call115 _ _) Tryz.func115 rfl Tryz.ntmps115 (Nat.le_of_ble_eq_true rfl) ?_;simp only [Zd,Nat.reduceAdd]
 repeat' (first|refine uN ?_)
 refine fo 5 ?_
 refine gc (kd _) ?_
 rintro v L' ⟨c',hv',rfl⟩
 repeat' (first|refine uN ?_)
 exact Z9 uL ⟨c',hv',rfl⟩
theorem Zpv (T:Nat) (E:Nat→Addr) (G:WdG) (M:Wm) (k:Int) (L:Zb) (hG:Er T E [4] L) (hW:WdOk G M) (hl:M.l.length≤99999999) :
  HC Tryz.prog 93 [pt G.wp 0,iv k] (Xj G M++L) (fun v L'=>v=eV T E (Vw M k).2∧Zg5 G (Vw M k).1 L L'):=by
 unfold Vw
 have hself:=Vy hW L
 have hI:=Zas hW L
 have ka:=Zdv T E G M k _ (Ww hG G M) hI
 unfold Zs1 at *
 by_cases h:k<0∨M.l.length≤k
 ·simp only [if_pos h] at ka ⊢
  generalize Xj G M++L=H at *
  refine Za (fun _ _=>Tryz.call93 _ _) Tryz.func93 rfl Tryz.ntmps93 (Nat.le_of_ble_eq_true rfl) ?_;simp only [Zd,Nat.reduceAdd]
  repeat' (first|refine uN ?_|refine Z2 S ?_|refine Yp S ?_|refine uC (ka) ?_|refine Yb (fun _=>ka) ?_|refine Yc (fun _=>ka) ?_|refine Yd (fun _=>ka) ?_|refine Ye (fun _=>ka) ?_|(refine uB ?_;intro b)|(refine uP ?_ ?_<;>(intro h;((try simp only [zs,zq,reduceCtorEq] at h);try exact zx)))|refine da 101 ?_|fail)
  all_goals exact Um rfl ⟨rfl,hself⟩
 ·simp only [if_neg h] at ka ⊢
  have key : ∀ lv lc,Z7 lv (M.l.take (k+1).toNat++M.l.getD k.toNat Yv::M.l.drop (k+1).toNat) lc→Zg5 G { M with l:=M.l.take (k+1).toNat++M.l.getD k.toNat Yv::M.l.drop (k+1).toNat } L (Xj { G with lv:=lv,lc:=lc } { M with l:=M.l.take (k+1).toNat++M.l.getD k.toNat Yv::M.l.drop (k+1).toNat }++L):=fun lv lc hv=>Ziu (hW.setL hv) rfl rfl
  have kd:=fun eb L hne=>Zog G.lv M.l G.lc (k+1) (M.l.getD k.toNat Yv) eb L hW.l (by omega) (by omega) (by omega) hne
  obtain ⟨a5,cap5,he5,-,hR5⟩:=hW.l.rd Zl
  have hR6:=(hR5 []).mono (L':=Xj G M++L) fun b o hb=>by
   simp only [Has,Xj,Zgf,List.flatten_cons,List.flatten_nil,List.append_nil,List.cons_append,List.nil_append] at hb ⊢
   simp [hb]
  obtain ⟨b,i,l,F,fr,e6,hb,hg⟩:=hR6.at (j:=k) (by omega) (by omega)
  have hgk:M.l[k.toNat]'(by omega)=M.l.getD k.toNat Yv:=by
   rw [List.getD,List.getElem?_eq_getElem (by omega)];rfl
  rw [hgk] at hg
  rw [e6] at he5
  simp only [Xj,Zgf,Zay,List.cons_append,List.nil_append] at key ka hb ⊢
  rw [he5] at ka kd hb ⊢
  refine Za (fun _ _=>Tryz.call93 _ _) Tryz.func93 rfl Tryz.ntmps93 (Nat.le_of_ble_eq_true rfl) ?_;simp only [Zd,Nat.reduceAdd]
  repeat' (first|refine uN ?_|refine Zu S ?_|refine uC (ka) ?_|refine Yb (fun _=>ka) ?_|refine Yc (fun _=>ka) ?_|refine Yd (fun _=>ka) ?_|refine Ye (fun _=>ka) ?_|(refine uB ?_;intro b)|(refine uP ?_ ?_<;>(intro h;((try simp only [zs,zq,reduceCtorEq] at h);try exact zx)))|refine da 101 ?_|fail)
  refine ho_nodup fun hnd=>?_
  refine fo 5 ?_
  refine gc (kd b _ ?_) ?_
  ·intro q o hq hqe
   subst hqe
   rw [List.flatten_cons,List.singleton_append,List.map_cons,List.nodup_cons] at hnd
   refine hnd.1 (List.mem_map.2 ⟨(b,o),?_,rfl⟩)
   simp [hq]
  rintro v L' ⟨c',hv',rfl⟩
  obtain ⟨a6,cap6,rfl,-,-⟩:=hv'.rd Zl
  repeat' (first|refine uN ?_|refine Zu S ?_|refine uC (ka) ?_|refine Yb (fun _=>ka) ?_|refine Yc (fun _=>ka) ?_|refine Yd (fun _=>ka) ?_|refine Ye (fun _=>ka) ?_|(refine uB ?_;intro b)|(refine uP ?_ ?_<;>(intro h;((try simp only [zs,zq,reduceCtorEq] at h);try exact zx)))|refine da 101 ?_|fail)
  exact Z9 uL ⟨rfl,key _ c' hv'⟩
end Go.HL
end

/-! WgD -/
section
namespace Go.HL
open Go Go.Proofs

theorem mx_mem {l:List Int} (h:l≠[]):mx l∈l:=by
 have key : ∀ (r:List Int) (x:Int),r.foldl max x∈x::r:=by
  intro r
  induction r with
  | nil=>intro x;simp
  | cons y r ih =>
   intro x
   have:=ih (max x y)
   simp only [List.foldl_cons,List.mem_cons] at this ⊢
   rcases this with h|h
   ·rw [h]
    by_cases hc:x≤y
    ·right;left;omega
    ·left;omega
   ·exact .inr (.inr h)
 cases l with
 | nil=>exact absurd rfl h
 | cons x r=>exact key r x
def Zu3 (ws:List Int) (s:Nat):Bool:=decide (Za4 ws (2 ^ ws.length-1)<2*Za4 ws s)
theorem en_ok {ws:List Int} (hc:Ym ws=none) {s:Nat} (h:s<2 ^ ws.length):Xv ws (s:Int)=(Zu3 ws s,none):=by
 have e:Zbj ws (s:Int)=(Za4 ws s,none):=by
  unfold Zbj
  rw [hc]
  simp only [Int.toNat_natCast]
  rw [if_neg]
  have:=blen_le.2 h
  omega
 unfold Xv
 rw [e,all_none hc]
 rfl
end Go.HL
end
