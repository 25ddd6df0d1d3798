/- Texts laid into one, without what the claim does not use. Conditions: none. -/
import Derived.Test.YtkookaogdkdegacGreatDoorSPH
set_option linter.unusedVariables false
set_option linter.unusedSimpArgs false
set_option linter.unusedSectionVars false
set_option maxHeartbeats 4000000
set_option maxRecDepth 100000
namespace Go.HL
open Go Go.Proofs Go.Proofs.Tryz
variable[Tasks]
theorem Zlu{m:Pl}{a n:Int}{x:Nat}(h:Wq m a n=some x):x=2∨x=6:=by
 unfold Wq at h
 split at h
 ·cases h;exact .inl rfl
 ·split at h
  ·cases h;exact .inr rfl
  ·cases h
theorem U5{m:Pl}{a:Int}{s:List UInt8}{x:Nat}(h:(Z5 m a s).2=some x):x=2∨x=6:=by
 unfold Z5 at h
 split at h
 ·rename_i e he
  cases h
  exact Zlu he
 ·unfold Zck at h
  simp only at h
  split at h
  ·cases h;exact .inr rfl
  ·cases h
theorem Zev(m:Pl)(a n:Int):(Qo m a n).2=Wq m a n:=by
 unfold Qo
 split<;>simp_all
theorem Zmn{m:Pl}{a:Int}(h:Wq m a 1=none):(Qo m a 1).1=[0]↔m.b.getD a.toNat 0=0:=by
 obtain⟨h0,-,h1,-⟩:=Zf5 h
 unfold Qo
 rw[h]
 simp only
 have hlt:a.toNat<m.b.length:=by omega
 rw[Z4u hlt]
 show ([m.b[a.toNat]]:List UInt8)=[0]↔_
 simp[List.getD,hlt]
theorem jw1_zero{m:Pl}{d:Int}{e:Ent}(h:Wq m (Qh d e+18-1) 1=none)(hz:m.b.getD (Qh d e+18-1).toNat 0=0):Zb6 m d e=(m,none):=by
 unfold Zb6
 rw[Zev,h]
 simp only
 rw[Z2d ((Zmn h).2 hz)]
theorem jw1_some{m:Pl}{d:Int}{e:Ent}(h:Wq m (Qh d e+18-1) 1=none)(hz:¬ m.b.getD (Qh d e+18-1).toNat 0=0):Zb6 m d e=Z5 m (Qh d e+18-1) [0]:=by
 unfold Zb6
 rw[Zev,h]
 simp only
 rw[Z16 (fun h0=>hz ((Zmn h).1 h0))]
theorem rN_get{r:RJ}{j:Jn}{d:Nat}{e:Ent}(h:j.l[d]?=some e):(((j.l.map Ent.n).map ic).flatten++r.spN)[0+(d:Int).toNat]?=some (iv e.n):=by
 have:=Uj (enc:=ic) (sz:=1) (fun _=>rfl) (j.l.map Ent.n) r.spN [] d e.n (by simp[h])
 have:=this 0 (iv e.n) rfl
 simpa using this
theorem Zqt{r:RJ}{j:Jn}{d:Nat}{e:Ent}(h:j.l[d]?=some e):Gets (((j.l.map Ent.s).map sc).flatten++r.spS) (0+(d:Int).toNat*3) (sc e.s):=by
 have:=Uj (enc:=sc) (sz:=3) (fun _=>rfl) (j.l.map Ent.s) r.spS [] d e.s (by simp[h])
 simpa using this
theorem rN_put{r:RJ}{j:Jn}{d:Nat}(e:Ent)(h:d<j.l.length):Yi (((j.l.map Ent.n).map ic).flatten++r.spN) (0+(d:Int).toNat) [iv e.n] ((((j.l.set d e).map Ent.n).map ic).flatten++r.spN):=by
 have:=Zcb (enc:=ic) (sz:=1) (fun _=>rfl) (j.l.map Ent.n) r.spN [] d (0+(d:Int).toNat) e.n (by simpa using h) (by simp)
 rw[Z4h]
 exact this
theorem rS_put{r:RJ}{j:Jn}{d:Nat}(e:Ent)(h:d<j.l.length):Yi (((j.l.map Ent.s).map sc).flatten++r.spS) (0+(d:Int).toNat*3) (sc e.s) ((((j.l.set d e).map Ent.s).map sc).flatten++r.spS):=by
 have:=Zcb (enc:=sc) (sz:=3) (fun _=>rfl) (j.l.map Ent.s) r.spS [] d (0+(d:Int).toNat*3) e.s (by simpa using h) (by simp)
 rw[Z4h]
 simpa using this
attribute [local irreducible] HW HO HQ HD HC QOp Has Upd Yi Gets Vv W6 Xn Zaf Wa Yz Zcl Xy
theorem Zw3(r:RJ)(m:Pl)(j:Jn)(left:Int)(deal:Int)(s:St)(L:Za)(hm:PlOk m)(hj:JnOk j)(hleft:m.cut≠-1→left=m.cut):
  HC prog 259 [pt r.rj 0,iv deal,.agg ⟨sc s⟩] (Zaj r j::W5 r.rp m left::L) (fun v L'=>v=iv (cdN (X2 m j deal s).2.2)∧∃left',((X2 m j deal s).1.cut≠-1→left'=(X2 m j deal s).1.cut)∧L'=Zaj r (X2 m j deal s).2.1::W5 r.rp (X2 m j deal s).1 left'::L):=by
 by_cases h1:j.dead=true
 ·rw[show X2 m j deal s=(m,j,some 6) from Z2d h1]
  obtain⟨jl,dead⟩:=j
  simp only at h1
  subst h1
  refine uE func259 ntmps259 ?_
  repeat' (first|refine uN ?_|(refine uB ?_;intro b)|(refine uP ?_ ?_<;>intro h<;>try exact zx)|refine uM ?_|fail)
  exact Z3 (L':=Zaj r ⟨jl,true⟩::W5 r.rp m left::L) uL ⟨rfl,left,hleft,rfl⟩
 obtain⟨jl,dead⟩:=j
 obtain rfl:dead=false:=by simpa using h1
 by_cases h2:Uq deal s
 ·rw[show X2 m ⟨jl,false⟩ deal s=(m,⟨jl,false⟩,some 2) by unfold X2;rw[Z16 h1,Z2d h2]]
  unfold Uq at h2
  refine uE func259 ntmps259 ?_
  repeat' (first|refine uN ?_|(refine uB ?_;intro b)|(refine uP ?_ ?_<;>intro h<;>try exact zx)|refine uM ?_|fail)
  all_goals exact Z3 (L':=Zaj r ⟨jl,false⟩::W5 r.rp m left::L) uL ⟨rfl,left,hleft,rfl⟩
 have hb:=h2
 unfold Uq at hb
 obtain⟨d,rfl⟩:=Z2t (show 0≤deal by omega)
 have hd:d<6:=by omega
 have hlen:jl.length=6:=hj.len
 have n0:0≤(jl.getD d Zl).n:=hj.n0 d
 have n1:(jl.getD d Zl).n≤4294967296:=hj.n1 d
 have hp:X2 m ⟨jl,false⟩ d s=if (jl.getD d Zl).s=s then (m,⟨jl,false⟩,none) else if 4294967296≤(jl.getD d Zl).n+1 then (m,⟨jl,false⟩,some 5) else
   match (Zaw m d ⟨(jl.getD d Zl).n+1,s⟩).2 with
   | some x=>((Zaw m d ⟨(jl.getD d Zl).n+1,s⟩).1,⟨jl,true⟩,some x)
   | none=>((Zaw m d ⟨(jl.getD d Zl).n+1,s⟩).1,⟨jl.set d ⟨(jl.getD d Zl).n+1,s⟩,false⟩,none):=by
  unfold X2;rw[Z16 h1,Z16 h2];rfl
 have he:jl[d]?=some (jl.getD d Zl):=by
  rw[List.getD,Z2c (by omega)];rfl
 have g1:=rN_get (r:=r) (j:=⟨jl,false⟩) he
 have g2:=Zqt (r:=r) (j:=⟨jl,false⟩) he
 have p1:=rN_put (r:=r) (j:=⟨jl,false⟩) (d:=d) ⟨(jl.getD d Zl).n+1,s⟩ (by simp only;omega)
 have p2:=rS_put (r:=r) (j:=⟨jl,false⟩) (d:=d) ⟨(jl.getD d Zl).n+1,s⟩ (by simp only;omega)
 simp only at g1 g2 p1 p2
 generalize hE:jl.getD d Zl=e at*
 clear hj h2 he hE h1
 by_cases h3:e.s=s
 ·rw[hp,Z2d h3]
  subst h3
  refine uE func259 ntmps259 ?_
  repeat' (first|refine uN ?_|(refine uB ?_;intro b)|(refine uP ?_ ?_<;>intro h<;>try exact zx)|refine uM ?_|fail)
  all_goals exact Z3 (L':=Zaj r ⟨jl,false⟩::W5 r.rp m left::L) uL ⟨rfl,left,hleft,rfl⟩
 have h3':¬ (e.s.ph=s.ph∧e.s.pr=s.pr∧e.s.att=s.att):=fun h=>h3 (St.ext3 h)
 by_cases h4:4294967296≤e.n+1
 ·rw[hp,Z16 h3,Z2d h4]
  refine uE func259 ntmps259 ?_
  repeat' (first|refine uN ?_|(refine uB ?_;intro b)|(refine uP ?_ ?_<;>intro h<;>try exact zx)|refine uM ?_|fail)
  all_goals exact Z3 (L':=Zaj r ⟨jl,false⟩::W5 r.rp m left::L) uL ⟨rfl,left,hleft,rfl⟩
 rw[hp,Z16 h3,Z16 h4]
 have kerr:∀L,HC prog 288 [pt r.rp 0,iv ((2*(d:Int)+(e.n+1) % 2)*18+18-1),iv 1] (W5 r.rp m left::L) (fun v L'=>v=iv (cdN (Wq m (Qh d ⟨e.n+1,s⟩+18-1) 1))∧L'=W5 r.rp m left::L):=fun L=>Zmp r.rp m left (Qh d ⟨e.n+1,s⟩+18-1) 1 L hm.len
 have lb:=Zat ⟨e.n+1,s⟩
 have o1:=Zqc hm d ⟨e.n+1,s⟩
 have o2:=Zqd hm d ⟨e.n+1,s⟩
 have kt1:=fun L=>W2 0 L
 rw[show bt 0 0=0 by decide +kernel]at kt1
 have kt2:=fun L=>W2 165 L
 rw[show bt 165 0=165 by decide +kernel]at kt2
 have kb:=fun L=>Zjf ⟨e.n+1,s⟩ L ⟨by simp only;omega,by simp only;omega⟩ ⟨by simp only;omega,by simp only;omega⟩ ⟨by simp only;omega,by simp only;omega⟩ ⟨by simp only;omega,by simp only;omega⟩
 have w1:∀L,HC prog 289 [pt r.rp 0,iv ((2*(d:Int)+(e.n+1) % 2)*18+18-1),bs [0]] (W5 r.rp m left::L) (fun v L'=>v=iv (cdN (Z5 m (Qh d ⟨e.n+1,s⟩+18-1) [0]).2)∧∃left',((Z5 m (Qh d ⟨e.n+1,s⟩+18-1) [0]).1.cut≠-1→left'=(Z5 m (Qh d ⟨e.n+1,s⟩+18-1) [0]).1.cut)∧L'=W5 r.rp (Z5 m (Qh d ⟨e.n+1,s⟩+18-1) [0]).1 left'::L):=fun L=>Zc8 r.rp m left (Qh d ⟨e.n+1,s⟩+18-1) [0] L hm.len (by simp) ⟨hm.lo,hm.hi⟩ hleft
 have w2:∀left1,((Zb6 m d ⟨e.n+1,s⟩).1.cut≠-1→left1=(Zb6 m d ⟨e.n+1,s⟩).1.cut)→∀L,HC prog 289 [pt r.rp 0,iv ((2*(d:Int)+(e.n+1) % 2)*18),bs (Yu ⟨e.n+1,s⟩)] (W5 r.rp (Zb6 m d ⟨e.n+1,s⟩).1 left1::L) (fun v L'=>v=iv (cdN (Z5 (Zb6 m d ⟨e.n+1,s⟩).1 (Qh d ⟨e.n+1,s⟩) (Yu ⟨e.n+1,s⟩)).2)∧∃left',((Z5 (Zb6 m d ⟨e.n+1,s⟩).1 (Qh d ⟨e.n+1,s⟩) (Yu ⟨e.n+1,s⟩)).1.cut≠-1→left'=(Z5 (Zb6 m d ⟨e.n+1,s⟩).1 (Qh d ⟨e.n+1,s⟩) (Yu ⟨e.n+1,s⟩)).1.cut)∧L'=W5 r.rp (Z5 (Zb6 m d ⟨e.n+1,s⟩).1 (Qh d ⟨e.n+1,s⟩) (Yu ⟨e.n+1,s⟩)).1 left'::L):=fun left1 h1 L=>Zc8 r.rp _ left1 (Qh d ⟨e.n+1,s⟩) (Yu ⟨e.n+1,s⟩) L o1.len (by omega) ⟨o1.lo,o1.hi⟩ h1
 have w3:∀left1,((Zbi m d ⟨e.n+1,s⟩).1.cut≠-1→left1=(Zbi m d ⟨e.n+1,s⟩).1.cut)→∀L,HC prog 289 [pt r.rp 0,iv ((2*(d:Int)+(e.n+1) % 2)*18+18-1),bs [165]] (W5 r.rp (Zbi m d ⟨e.n+1,s⟩).1 left1::L) (fun v L'=>v=iv (cdN (Z5 (Zbi m d ⟨e.n+1,s⟩).1 (Qh d ⟨e.n+1,s⟩+18-1) [165]).2)∧∃left',((Z5 (Zbi m d ⟨e.n+1,s⟩).1 (Qh d ⟨e.n+1,s⟩+18-1) [165]).1.cut≠-1→left'=(Z5 (Zbi m d ⟨e.n+1,s⟩).1 (Qh d ⟨e.n+1,s⟩+18-1) [165]).1.cut)∧L'=W5 r.rp (Z5 (Zbi m d ⟨e.n+1,s⟩).1 (Qh d ⟨e.n+1,s⟩+18-1) [165]).1 left'::L):=fun left1 h1 L=>Zc8 r.rp _ left1 (Qh d ⟨e.n+1,s⟩+18-1) [165] L o2.len (by simp) ⟨o2.lo,o2.hi⟩ h1
 refine uE func259 ntmps259 ?_
 cases h5:Wq m (Qh d ⟨e.n+1,s⟩+18-1) 1 with
 | some x=>
  rw[h5]at kerr
  have hx:=Zlu h5
  have e1:Zaw m d ⟨e.n+1,s⟩=(m,some x):=by simp[Zaw,Zbi,Zb6,Zev,h5]
  rw[e1]
  simp only[cdN]at kerr ⊢
  repeat' (first|refine uN ?_|refine X7 (qC (Uu kerr 2)) ?_|refine Qm (qC (Uu kerr 2)) ?_|(refine uB ?_;intro b)|(refine uP ?_ ?_<;>intro h<;>try exact zx)|refine uM ?_|fail)
  exact Z3 (L':=Zaj r ⟨jl,true⟩::W5 r.rp m left::L) uL ⟨rfl,left,hleft,rfl⟩
 | none=>
  rw[h5]at kerr
  simp only[cdN]at kerr
  have hb5:=Zf5 h5
  have hr1:=Zmn h5
  simp only[Qh]at hb5 hr1
  by_cases hz:m.b.getD ((2*(d:Int)+(e.n+1) % 2)*18+18-1).toNat 0=0
  ·have hz2:((m.b.getD ((2*(d:Int)+(e.n+1) % 2)*18+18-1).toNat 0).toNat:Int)=0:=by rw[hz];rfl
   have e1:Zb6 m d ⟨e.n+1,s⟩=(m,none):=jw1_zero h5 hz
   have e2:Zbi m d ⟨e.n+1,s⟩=Z5 (Zb6 m d ⟨e.n+1,s⟩).1 (Qh d ⟨e.n+1,s⟩) (Yu ⟨e.n+1,s⟩):=by simp[Zbi,e1]
   have hm1:(Zb6 m d ⟨e.n+1,s⟩).1=m:=by rw[e1]
   rw[hm1]at w2 e2
   repeat' (first|refine uN ?_|refine X7 (qC (Uu kerr 2)) ?_|refine uC (kb _) ?_|refine uD (fun _=>kb _) ?_|(refine uB ?_;intro b)|(refine uP ?_ ?_<;>intro h<;>try exact zx)|refine uG ?_|fail)
   refine fo 2 ?_
   refine gc (w2 left hleft _) ?_
   rintro v L' ⟨rfl,left2,hl2,rfl⟩
   rw[← e2]at hl2 ⊢
   cases h7:(Zbi m d ⟨e.n+1,s⟩).2 with
   | some x=>
    have hx:=U5 (e2▸h7)
    have e3:Zaw m d ⟨e.n+1,s⟩=((Zbi m d ⟨e.n+1,s⟩).1,some x):=by simp[Zaw,h7]
    rw[e3]
    simp only[cdN]
    repeat' (first|refine uN ?_|(refine uB ?_;intro b)|(refine uP ?_ ?_<;>intro h<;>try exact zx)|refine uM ?_|fail)
    exact Z3 (L':=Zaj r ⟨jl,true⟩::W5 r.rp (Zbi m d ⟨e.n+1,s⟩).1 left2::L) uL ⟨rfl,left2,hl2,rfl⟩
   | none=>
    have e3:Zaw m d ⟨e.n+1,s⟩=Z5 (Zbi m d ⟨e.n+1,s⟩).1 (Qh d ⟨e.n+1,s⟩+18-1) [165]:=by simp[Zaw,h7,Y5]
    rw[← e3]at w3
    simp only[cdN]
    repeat' (first|refine uN ?_|refine uC (kt2 _) ?_|refine uD (fun _=>kt2 _) ?_|(refine uB ?_;intro b)|(refine uP ?_ ?_<;>intro h<;>try exact zx)|refine uG ?_|fail)
    refine gc (w3 left2 hl2 _) ?_
    rintro v L' ⟨rfl,left3,hl3,rfl⟩
    cases h8:(Zaw m d ⟨e.n+1,s⟩).2 with
    | some x=>
     have hx:=U5 (e3▸h8)
     simp only[cdN]
     repeat' (first|refine uN ?_|(refine uB ?_;intro b)|(refine uP ?_ ?_<;>intro h<;>try exact zx)|refine uG ?_|fail)
     exact Z3 (L':=Zaj r ⟨jl,true⟩::W5 r.rp (Zaw m d ⟨e.n+1,s⟩).1 left3::L) uL ⟨rfl,left3,hl3,rfl⟩
    | none=>
     simp only[cdN]
     repeat' (first|refine uN ?_|(refine uB ?_;intro b)|(refine uP ?_ ?_<;>intro h<;>try exact zx)|refine uG ?_|fail)
     exact Z3 (L':=Zaj r ⟨jl.set d ⟨e.n+1,s⟩,false⟩::W5 r.rp (Zaw m d ⟨e.n+1,s⟩).1 left3::L) uL ⟨rfl,left3,hl3,rfl⟩
  ·have hz2:0<((m.b.getD ((2*(d:Int)+(e.n+1) % 2)*18+18-1).toNat 0).toNat:Int):=by
    have:(m.b.getD ((2*(d:Int)+(e.n+1) % 2)*18+18-1).toNat 0).toNat≠0:=fun h0=>hz (UInt8.toNat_inj.1 h0)
    omega
   have e1:Zb6 m d ⟨e.n+1,s⟩=Z5 m (Qh d ⟨e.n+1,s⟩+18-1) [0]:=jw1_some h5 hz
   rw[← e1]at w1
   repeat' (first|refine uN ?_|refine X7 (qC (Uu kerr 2)) ?_|refine uC (kt1 _) ?_|refine uD (fun _=>kt1 _) ?_|(refine uB ?_;intro b)|(refine uP ?_ ?_<;>intro h<;>try exact zx)|refine uG ?_|fail)
   refine fo 2 ?_
   refine gc (w1 _) ?_
   rintro v L' ⟨rfl,left1,hl1,rfl⟩
   cases h6:(Zb6 m d ⟨e.n+1,s⟩).2 with
   | some x=>
    have hx:=U5 (e1▸h6)
    have e3:Zaw m d ⟨e.n+1,s⟩=((Zb6 m d ⟨e.n+1,s⟩).1,some x):=by simp[Zaw,Zbi,h6]
    rw[e3]
    simp only[cdN]
    repeat' (first|refine uN ?_|(refine uB ?_;intro b)|(refine uP ?_ ?_<;>intro h<;>try exact zx)|refine uG ?_|fail)
    exact Z3 (L':=Zaj r ⟨jl,true⟩::W5 r.rp (Zb6 m d ⟨e.n+1,s⟩).1 left1::L) uL ⟨rfl,left1,hl1,rfl⟩
   | none=>
    have e2:Zbi m d ⟨e.n+1,s⟩=Z5 (Zb6 m d ⟨e.n+1,s⟩).1 (Qh d ⟨e.n+1,s⟩) (Yu ⟨e.n+1,s⟩):=by simp[Zbi,h6]
    simp only[cdN]
    repeat' (first|refine uN ?_|refine uC (kb _) ?_|refine uD (fun _=>kb _) ?_|(refine uB ?_;intro b)|(refine uP ?_ ?_<;>intro h<;>try exact zx)|refine uG ?_|fail)
    refine gc (w2 left1 hl1 _) ?_
    rintro v L' ⟨rfl,left2,hl2,rfl⟩
    rw[← e2]at hl2 ⊢
    cases h7:(Zbi m d ⟨e.n+1,s⟩).2 with
    | some x=>
     have hx:=U5 (e2▸h7)
     have e3:Zaw m d ⟨e.n+1,s⟩=((Zbi m d ⟨e.n+1,s⟩).1,some x):=by simp[Zaw,h7]
     rw[e3]
     simp only[cdN]
     repeat' (first|refine uN ?_|(refine uB ?_;intro b)|(refine uP ?_ ?_<;>intro h<;>try exact zx)|refine uM ?_|fail)
     exact Z3 (L':=Zaj r ⟨jl,true⟩::W5 r.rp (Zbi m d ⟨e.n+1,s⟩).1 left2::L) uL ⟨rfl,left2,hl2,rfl⟩
    | none=>
     have e3:Zaw m d ⟨e.n+1,s⟩=Z5 (Zbi m d ⟨e.n+1,s⟩).1 (Qh d ⟨e.n+1,s⟩+18-1) [165]:=by simp[Zaw,h7,Y5]
     rw[← e3]at w3
     simp only[cdN]
     repeat' (first|refine uN ?_|refine uC (kt2 _) ?_|refine uD (fun _=>kt2 _) ?_|(refine uB ?_;intro b)|(refine uP ?_ ?_<;>intro h<;>try exact zx)|refine uG ?_|fail)
     refine gc (w3 left2 hl2 _) ?_
     rintro v L' ⟨rfl,left3,hl3,rfl⟩
     cases h8:(Zaw m d ⟨e.n+1,s⟩).2 with
     | some x=>
      have hx:=U5 (e3▸h8)
      simp only[cdN]
      repeat' (first|refine uN ?_|(refine uB ?_;intro b)|(refine uP ?_ ?_<;>intro h<;>try exact zx)|refine uG ?_|fail)
      exact Z3 (L':=Zaj r ⟨jl,true⟩::W5 r.rp (Zaw m d ⟨e.n+1,s⟩).1 left3::L) uL ⟨rfl,left3,hl3,rfl⟩
     | none=>
      simp only[cdN]
      repeat' (first|refine uN ?_|(refine uB ?_;intro b)|(refine uP ?_ ?_<;>intro h<;>try exact zx)|refine uG ?_|fail)
      exact Z3 (L':=Zaj r ⟨jl.set d ⟨e.n+1,s⟩,false⟩::W5 r.rp (Zaw m d ⟨e.n+1,s⟩).1 left3::L) uL ⟨rfl,left3,hl3,rfl⟩
end Go.HL
namespace Go.HL
open Go Go.Proofs Go.Proofs.Tryz
variable[Tasks]
def Zgc(ref:Int→Bool):List Value:=(List.range 6).map fun(d:Nat)=>Value.bool (ref (d:Int))
theorem refL_get{ref:Int→Bool}{d:Nat}(h:d<6):(Zgc ref)[0+(d:Int).toNat]?=some (.bool (ref d)):=by
 simp[Zgc,h]
theorem refL_put{ref:Int→Bool}{d:Nat}(h:d<6):Yi (Zgc ref) (0+(d:Int).toNat) [.bool true] (Zgc fun x=>if x=(d:Int) then true else ref x):=by
 have e:Zgc (fun x=>if x=(d:Int) then true else ref x)=(Zgc ref).set (0+(d:Int).toNat) (.bool true):=by
  apply Z3i
  intro k
  rw[Z2z]
  by_cases hk:k<6
  ·by_cases hd:d=k
   ·subst hd;simp[Zgc,hk]
   ·simp[Zgc,hk,hd]
    intro h9
    exact absurd (by omega) hd
  ·simp[Zgc,hk]
   omega
 rw[e]
 exact Wz (by simp[Zgc];omega)
theorem Zmo:List.replicate (Int.toNat 6) (Value.bool false)=Zgc fun _=>false:=rfl
def Zgd(rs rj bR:Nat)(id:Int)(ref:Int→Bool):List Zp:=[(rs,.cells ⟨[iv id,pt rj 0,sl bR 0 6 6]⟩ 208),(bR,.cells ⟨Zgc ref⟩ 4)]
theorem Z08(m:Pl)(j:Jn)(deal:Int)(s:St):∀e,(X2 m j deal s).2.2=some e→1≤e:=by
 unfold X2
 intro e he
 split at he
 ·cases he;decide
 split at he
 ·cases he;decide
 split at he
 ·cases he
 split at he
 ·cases he;decide
 split at he
 ·rename_i x h
  have:x=2∨x=6:=by
   unfold Zaw at h
   split at h
   ·rename_i y hy
    cases h
    unfold Zbi at hy
    split at hy
    ·rename_i z hz
     cases hy
     unfold Zb6 at hz
     split at hz
     ·rename_i w hw
      cases hz
      rw[Zev]at hw
      exact Zlu hw
     ·split at hz
      ·cases hz
      ·exact U5 hz
    ·exact U5 hy
   ·exact U5 h
  cases he
  omega
 ·cases he
attribute [local irreducible] HW HO HQ HD HC QOp Has Upd Yi Gets Vv W6 Xn Zaf Wa Yz Zcl Xy
section
attribute [local irreducible] Zq X2 Xg Zgc
theorem Zcu(p:Int)(L:Za):HC prog 39 [iv p] L (fun v L'=>v=.bool (decide (p=2∨p=3))∧L'=L):=by
 refine uE func39 ntmps39 ?_
 repeat' (first|refine uN ?_|(refine uP ?_ ?_<;>intro h<;>try exact zx)|fail)
 all_goals refine Z3 uZ ⟨?_,rfl⟩
 all_goals simp[*]
theorem Zd4(id:Int)(rp:Nat)(m:Pl)(left:Int)(L:Za)(hl:216≤m.b.length)(hh:m.b.length≤1000000):HC prog 80 [iv id,pt rp 0] (W5 rp m left::L) (fun v L'=>∃rs bR,∃r:RJ,v=pt rs 0∧r.rp=rp∧L'=Zgd rs r.rj bR id (fun _=>false)::Zaj r ⟨Zq m.b,false⟩::W5 rp m left::L):=by
 have ko:=fun L=>Zua rp m left L hl hh
 refine uE func80 ntmps80 ?_
 repeat' (first|refine uN ?_|(refine uB ?_;intro b)|refine uG ?_|fail)
 refine Zdw ?_ ?_
 ·refine gc (ko _) ?_
  rintro v L' ⟨r,hr,rfl,rfl⟩
  repeat' (first|refine uN ?_|(refine uB ?_;intro b)|refine uG ?_|fail)
  rename_i bR
  rw[Zmo]
  exact Z3 (L':=Zgd b r.rj bR id (fun _=>false)::Zaj r ⟨Zq m.b,false⟩::W5 rp m left::L) (LS.trans (b:=([(b,.cells ⟨[iv id,pt r.rj 0,sl bR 0 6 6]⟩ 208)]::[(bR,.cells ⟨Zgc fun _=>false⟩ 4)]::Zaj r ⟨Zq m.b,false⟩::W5 rp m left::L:Za).flatten) (LS.of_eq rfl) uL) ⟨b,bR,r,rfl,hr,rfl⟩
 ·repeat' (first|refine uN ?_|(refine uB ?_;intro b)|refine uG ?_|fail)
  refine fo 1 ?_
  refine gc (ko _) ?_
  rintro v L' ⟨r,hr,rfl,rfl⟩
  repeat' (first|refine uN ?_|(refine uB ?_;intro b)|refine uG ?_|fail)
  rename_i bR
  rw[Zmo]
  exact Z3 (L':=Zgd b r.rj bR id (fun _=>false)::Zaj r ⟨Zq m.b,false⟩::W5 rp m left::L) (LS.trans (b:=([(b,.cells ⟨[iv id,pt r.rj 0,sl bR 0 6 6]⟩ 208)]::[(bR,.cells ⟨Zgc fun _=>false⟩ 4)]::Zaj r ⟨Zq m.b,false⟩::W5 rp m left::L:Za).flatten) (LS.of_eq rfl) uL) ⟨b,bR,r,rfl,hr,rfl⟩
theorem Zq4(rs bR:Nat)(id:Int)(ref:Int→Bool)(r:RJ)(m:Pl)(j:Jn)(left:Int)(f:Fr)(L:Za)(hm:PlOk m)(hj:JnOk j)(hleft:m.cut≠-1→left=m.cut):
  HC prog 193 [pt rs 0,.agg ⟨fc f⟩] (Zgd rs r.rj bR id ref::Zaj r j::W5 r.rp m left::L) (fun v L'=>∃fv c left',v=.tuple ⟨[fv,iv (cdN (Zu id ref m j f).2.2.2)]⟩∧Z0 fv (Zu id ref m j f).2.2.1 c∧((Zu id ref m j f).1.cut≠-1→left'=(Zu id ref m j f).1.cut)∧
   L'=Zgd rs r.rj bR id ref::Zaj r (Zu id ref m j f).2.1::W5 r.rp (Zu id ref m j f).1 left'::c::L):=by
 have kfe:=fun L=>Zt3 f L
 unfold Zu Zfz at*
 by_cases hb:Wc f
 ·simp only[Z2d hb,cdF]at kfe ⊢
  refine uE func193 ntmps193 ?_
  repeat' (first|refine uN ?_|refine uC (kfe _) ?_|refine uD (fun _=>kfe _) ?_|(refine uB ?_;intro b)|(refine uP ?_ ?_<;>intro h<;>try exact zx)|refine uM ?_|fail)
  exact U3 (L':=Zgd rs r.rj bR id ref::Zaj r j::W5 r.rp m left::[]::L) uL ⟨_,[],left,rfl,Zt,hleft,rfl⟩
 simp only[Z16 hb,cdF]at kfe ⊢
 by_cases hto:f.to=id
 ·simp only[ne_eq,hto,Z36,Z3h]
  unfold Wc at hb
  obtain⟨fr0,to0,dl0,kd0,at0,ys0,fs0⟩:=f
  simp only at hb hto ⊢
  subst hto
  obtain⟨d,rfl⟩:=Z2t (show 0≤dl0 by omega)
  have hd6:d<6:=by omega
  simp only[Z2w]
  have gS:=Zqt (r:=r) (j:=j) (d:=d) (e:=j.l.getD d Zl) (by have:=hj.len;simp[List.getD,this,hd6])
  have gR:=refL_get (ref:=ref) hd6
  generalize hst:(j.l.getD d Zl).s=st at*
  have hjl:=hj.len
  have kfin:=fun p L=>Zcu p L
  generalize htr:Xg ref ⟨fr0,to0,d,kd0,at0,ys0,fs0⟩ st=tr at*
  refine uE func193 ntmps193 ?_
  repeat apply Za3
  apply Vs
  refine wb (fun b3=>?_)
  repeat' (first|refine uN ?_|refine uC (kfe _) ?_|refine uD (fun _=>kfe _) ?_|(refine uB ?_;intro b)|(refine uP ?_ ?_<;>intro h<;>try exact zx)|refine uM ?_|fail)
  generalize b=b8
  rename_i b7
  apply Zf8 (ι:=St × Int × Bool) (fun q=>tr=q) (fun _=>[(0,pt rs 0),(3,pt b3 0),(7,pt b7 0),(8,pt b8 0)]) (fun q=>[(b8,.cells ⟨fc ⟨to0,fr0,d,q.2.1,at0,q.2.2,⟨0,0,0⟩⟩⟩ 131)]::[(b7,.cells ⟨sc q.1⟩ 43)]::[(b3,.cells ⟨fc ⟨fr0,to0,d,kd0,at0,ys0,fs0⟩⟩ 131)]::Zgd rs r.rj bR to0 ref::Zaj r j::W5 r.rp m left::L)
  ·intro key
   have key3:=fun(a b c k:Int) (y:Bool) (ρ':Z9) (L':Za) (h1:LS ([(b8,.cells ⟨[iv to0,iv fr0,iv d,iv k,iv at0,.bool y,iv 0,iv 0,iv 0]⟩ 131)]::[(b7,.cells ⟨[iv a,iv b,iv c]⟩ 43)]::[(b3,.cells ⟨fc ⟨fr0,to0,d,kd0,at0,ys0,fs0⟩⟩ 131)]::Zgd rs r.rj bR to0 ref::Zaj r j::W5 r.rp m left::L:Za).flatten L'.flatten) (h2:Sub [(0,pt rs 0),(3,pt b3 0),(7,pt b7 0),(8,pt b8 0)] ρ') (h3:tr=(⟨a,b,c⟩,k,y))=>Wf (Zbp (key (⟨a,b,c⟩,k,y) h3) h2) h1
   repeat' (first|refine uN ?_|refine uC (kfin _ _) ?_|refine uD (fun _=>kfin _ _) ?_|(refine uB ?_;intro b)|(refine uP ?_ ?_<;>intro h<;>try exact zx)|refine uK ?_|fail)
   all_goals apply key3
   all_goals first|(show LS _ _;exact uL)|(show Sub _ _;exact uS)|skip
   all_goals (rw[← htr];unfold Xg askM Zi6 V4;simp[*])
   all_goals omega
  ·rintro⟨st2,kind2,yes2⟩ rfl
   simp only
   clear htr
   have kp:=fun L=>Zw3 r m j left d st2 L hm hj hleft
   generalize hpr:X2 m j d st2=pr at*
   have hcode:=Z08 m j d st2
   rw[hpr]at hcode
   repeat' (first|refine uN ?_|(refine uB ?_;intro b)|(refine uP ?_ ?_<;>intro h<;>try exact zx)|refine uG ?_|fail)
   refine fo 5 ?_
   refine fo 5 ?_
   refine gc (kp _) ?_
   rintro v L' ⟨rfl,left2,hl2,rfl⟩
   cases he:pr.2.2 with
   | some e=>
    have h1:=hcode e he
    simp only[cdN]
    repeat' (first|refine uN ?_|(refine uB ?_;intro b)|(refine uP ?_ ?_<;>intro h<;>try exact zx)|refine uG ?_|fail)
    exact U3 (L':=Zgd rs r.rj bR to0 ref::Zaj r pr.2.1::W5 r.rp pr.1 left2::[]::L) uL ⟨_,[],left2,rfl,Zt,by simpa using hl2,rfl⟩
   | none=>
    simp only[cdN]
    by_cases hk:kind2=0
    ·simp only[Z2d hk]
     repeat' (first|refine uN ?_|(refine uB ?_;intro b)|(refine uP ?_ ?_<;>intro h<;>try exact zx)|refine uG ?_|fail)
     exact U3 (L':=Zgd rs r.rj bR to0 ref::Zaj r pr.2.1::W5 r.rp pr.1 left2::[]::L) uL ⟨_,[],left2,rfl,Zt,by simpa using hl2,rfl⟩
    ·simp only[Z16 hk]
     have hp6:=put_st (iv to0) (iv fr0) (iv d) (iv kind2) (iv at0) (.bool yes2) (iv 0) (iv 0) (iv 0) (iv st2.ph) (iv st2.pr) (iv st2.att)
     repeat' (first|refine uN ?_|(refine uB ?_;intro b)|(refine uP ?_ ?_<;>intro h<;>try exact zx)|refine uG ?_|fail)
     exact U3 (L':=Zgd rs r.rj bR to0 ref::Zaj r pr.2.1::W5 r.rp pr.1 left2::[(b,.cells ⟨fc ⟨to0,fr0,d,kind2,at0,yes2,st2⟩⟩ 131)]::L) uL ⟨_,_,left2,rfl,Zzg _ rfl,by simpa using hl2,rfl⟩
 ·simp only[ne_eq,hto,Z6p,Z4d]
  refine uE func193 ntmps193 ?_
  repeat' (first|refine uN ?_|refine uC (kfe _) ?_|refine uD (fun _=>kfe _) ?_|(refine uB ?_;intro b)|(refine uP ?_ ?_<;>intro h<;>try exact zx)|refine uM ?_|fail)
  exact U3 (L':=Zgd rs r.rj bR id ref::Zaj r j::W5 r.rp m left::[]::L) uL ⟨_,[],left,rfl,Zt,by simpa using hleft,rfl⟩
end
end Go.HL
namespace Go.HL
open Go Go.Proofs Go.Proofs.Tryz
variable[Tasks]
theorem spn{P:Program}{fn:Func}{Qv:Value→Za→Prop}{ρ:Z9}{L L':Za}(hL:LS L'.flatten L.flatten)(h:Qv (.tuple #[]) L')(hr:fn.results=#[]:=by rfl):Zaf P fn Qv .normal ρ L:=fun k w a hs ha=>⟨_,L',by simp[results,hr],.ls hL,h⟩
def bc2(p:Int × Int):List Value:=[iv p.1,iv p.2]
theorem Zeh(p:Int × Int):(bc2 p).length=2:=rfl
theorem Zxy(p:Int × Int):(bc2 p).all Value.oneCell'=true:=rfl
def BrOk(l:List (Int × Int))(f:Int × Int→Bool):Prop:=∀a b:Int,f (min a b,max a b)=decide ((a,b)∈l∨(b,a)∈l)
def prs:List (Int × Int):=(List.range 49).map fun i=>(((i / 7:Nat):Int),((i % 7:Nat):Int))
theorem prs_in{a b:Int}(h0:0≤a)(h1:a<7)(h2:0≤b)(h3:b<7):(a,b)∈prs:=by
 refine Z2v.2 ⟨a.toNat*7+b.toNat,Z4w.2 (by omega),?_⟩
 refine Prod.ext ?_ ?_
 ·show (((a.toNat*7+b.toNat) / 7:Nat):Int)=a
  omega
 ·show (((a.toNat*7+b.toNat) % 7:Nat):Int)=b
  omega
theorem Zop{α:Type}[DecidableEq α]:∀(l S:List α),l.Nodup→(∀x∈l,x∈S)→l.length≤S.length
 | [],_,_,_=>Z6v _
 | a::l,S,hn,hs=>by
  have hn':=Z3w.1 hn
  have ha:=hs a Z6c
  have:=Zop l (S.erase a) hn'.2 fun x hx=>(List.mem_erase_of_ne (by intro e;subst e;exact hn'.1 hx)).2 (hs x (Z5d _ hx))
  rw[Z6o ha]at this
  have hp:0<S.length:=List.length_pos_of_mem ha
  simp only[Z2y]
  omega
structure NrG where
 np:Nat
 rp:Nat
 left:Int
 rs:Nat
 bR:Nat
 r:RJ
 bl:Nat
 bd:Nat
 ld:List (Nat × Value × List Zp)
def rlB(aw:Option Addr)(cw:Nat):Option Ld→Nat × Value × List Zp→List Zp
 | none,_=>[]
 | some m,g=>Qg g.1 aw cw g.2.1 g.2.2 m
def Zfo(g:NrG):Option (Jn × (Int→Bool))→Value
 | none=>.pointer none
 | some _=>pt g.rs 0
def Zc6(g:NrG)(m:Nd):Obj:=.cells ⟨[Zfo g m.site,pt g.rp 0,sl g.bl 0 6 6,sl g.bd 0 6 6]⟩ 150
def Zfa(g:NrG)(m:Nd):List Zp:=[(g.np,Zc6 g m)]
def Qy(g:NrG)(m:Nd):List Value:=List.zipWith Zh4 m.leads g.ld
def Zjx(g:NrG)(m:Nd):List Zp:=[(g.bl,.cells ⟨Qy g m⟩ 209)]
def Zmr(g:NrG)(m:Nd):List Zp:=[(g.bd,.cells ⟨m.done.map Value.bool⟩ 4)]
def Zny(g:NrG)(i:Int):Option (Jn × (Int→Bool))→List Zp
 | none=>[]
 | some (_,ref)=>Zgd g.rs g.r.rj g.bR i ref
def Znx(g:NrG):Option (Jn × (Int→Bool))→List Zp
 | none=>[]
 | some (j,_)=>Zaj g.r j
def Ze9(aw:Option Addr)(cw:Nat)(g:NrG)(m:Nd):List Zp:=(List.zipWith (rlB aw cw) m.leads g.ld).flatten
def Zkn(aw:Option Addr)(cw:Nat)(g:NrG)(i:Int)(m:Nd):List Zp:=Zfa g m++(Zjx g m++(Zmr g m++(Zny g i m.site++(Znx g m.site++(W5 g.rp m.pl g.left++Ze9 aw cw g m)))))
def Zba(aw:Option Addr)(cw:Nat):List NrG→List Nd→Nat→List Zp
 | g::gs,m::ms,i=>Zkn aw cw g i m++Zba aw cw gs ms (i+1)
 | _,_,_=>[]
def V2(aw:Option Addr)(cw:Nat):List NrG→List Nd→Nat→Nat→List Zp
 | g::gs,m::ms,i,0=>Zba aw cw gs ms (i+1)
 | g::gs,m::ms,i,s+1=>Zkn aw cw g i m++V2 aw cw gs ms (i+1) s
 | _,_,_,_=>[]
section n
variable{aw:Option Addr}{cw:Nat}
theorem Zhf:∀{gs:List NrG} {ms:List Nd} {i s:Nat} {g:NrG} {m:Nd},gs[s]?=some g→ms[s]?=some m→List.Perm (Zba aw cw gs ms i) (Zkn aw cw g ((i+s:Nat):Int) m++V2 aw cw gs ms i s)
 | [],_,_,_,_,_,h,_=>by simp at h
 | _::_,[],_,_,_,_,_,h=>by simp at h
 | g0::gs,m0::ms,i,0,g,m,h,h2=>by
  simp at h h2;subst h;subst h2
  exact .refl _
 | g0::gs,m0::ms,i,s+1,g,m,h,h2=>by
  have ih:=Zhf (gs:=gs) (ms:=ms) (i:=i+1) (s:=s) (g:=g) (m:=m) (by simpa using h) (by simpa using h2)
  simp only[Zba,V2]
  rw[show i+(s+1)=i+1+s by omega]
  refine(ih.append_left _).trans ?_
  rw[← Z18,← Z18]
  exact List.perm_append_comm.append_right _
theorem Zy4:∀{gs:List NrG} {ms:List Nd} {i s:Nat} {g:NrG} {m:Nd},V2 aw cw (gs.set s g) (ms.set s m) i s=V2 aw cw gs ms i s
 | [],_,_,_,_,_=>by simp[V2]
 | _::_,[],_,s,_,_=>by cases s<;>simp[V2]
 | g0::gs,m0::ms,i,0,g,m=>rfl
 | g0::gs,m0::ms,i,s+1,g,m=>by
  simp only[Z6e,V2]
  rw[Zy4]
end n
structure RwG where
 wp:Nat
 aw:Option Addr
 cw:Nat
 wl:Nat
 nv:Value
 nc:List Zp
 bv:Value
 bc:List Zp
 bl:List (Int × Int)
 lv:Value
 lc:List Zp
 ev:Value
 ec:List Zp
 nd:List NrG
def Ui(G:RwG):Obj:=.cells ⟨[.slice G.aw G.wl G.cw,G.nv,G.bv,G.lv,G.ev]⟩ 94
def Zfq(G:RwG):Za:=[[(G.wp,Ui G)],G.ec,G.lc,G.nc,G.bc]
def X3(G:RwG)(M:Wm):Za:=Zfq G++[Zba G.aw G.cw G.nd M.n 0]
structure NrOk(g:NrG)(m:Nd):Prop where
 ld:g.ld.length=6
 rp:g.r.rp=g.rp
 left:m.pl.cut≠-1→g.left=m.pl.cut
 lok:∀(d:Nat) x,m.leads[d]?=some (some x)→∀q,g.ld[d]?=some q→∃hs,Z0 q.2.1 hs q.2.2∧RelH x hs
structure RwOk(G:RwG)(M:Wm):Prop where
 wl:G.wl=M.w.length
 nodes:Vec 145 1 pc G.nv (G.nd.map (·.np)) G.nc
 ndl:G.nd.length=M.n.length
 br:Vec 133 2 bc2 G.bv G.bl G.bc
 bro:BrOk G.bl M.br
 bln:G.bl.Nodup
 blr:∀p∈G.bl,p∈prs
 l:Z0 G.lv M.l G.lc
 ev:Vec 162 3 ec G.ev M.ev G.ec
 nd:∀(s:Nat) g m,G.nd[s]?=some g→M.n[s]?=some m→NrOk g m
theorem RwOk.bll{G:RwG}{M:Wm}(h:RwOk G M):G.bl.length≤49:=Zop _ _ h.bln h.blr
def Yh(G:RwG)(s:Int):NrG:=G.nd.getD s.toNat ⟨0,0,0,0,0,⟨0,0,0,0,[],0,0,[]⟩,0,0,[]⟩
def Vj(G:RwG)(s:Int)(g:NrG)(m:Nd)(X:List Zp)(L:Za):Za:=
 [(G.wp,Ui G)]::G.ec::Zfa g m::Zjx g m::Zmr g m::Zny g s m.site::Znx g m.site::W5 g.rp m.pl g.left::Ze9 G.aw G.cw g m::G.lc::G.nc::G.bc::X::L
theorem Zud(G:RwG)(s:Int)(g:NrG)(m:Nd)(X:List Zp)(L:Za):(Zfq G++[Zkn G.aw G.cw g s m++X]++L).flatten=([(G.wp,Ui G)]::G.ec::G.lc::G.nc::G.bc::Zfa g m::Zjx g m::Zmr g m::Zny g s m.site::Znx g m.site::W5 g.rp m.pl g.left::Ze9 G.aw G.cw g m::X::L).flatten:=by
 simp only[Zfq,Zkn,Z17,Z2l,Z19,Z2b,Z18,Z22,Z2p]
theorem rwOp_ls(G:RwG)(s:Int)(g:NrG)(m:Nd)(X:List Zp)(L:Za):LS (Vj G s g m X L).flatten (Zfq G++[Zkn G.aw G.cw g s m++X]++L).flatten:=by
 rw[Zud,Vj]
 exact uL
theorem Zy8(G:RwG)(s:Int)(g:NrG)(m:Nd)(X:List Zp)(L:Za):LS (Zfq G++[Zkn G.aw G.cw g s m++X]++L).flatten (Vj G s g m X L).flatten:=by
 rw[Zud,Vj]
 exact uL
theorem Zt7{aw:Option Addr}{cw:Nat}{gs:List NrG}{ms:List Nd}{s:Int}{g:NrG}{m:Nd}(h0:0≤s)(hg:gs[s.toNat]?=some g)(hm:ms[s.toNat]?=some m)(T:Za)(L:Za):List.Perm (T++[Zba aw cw gs ms 0]++L).flatten (T++[Zkn aw cw g s m++V2 aw cw gs ms 0 s.toNat]++L).flatten:=by
 have:=Zhf (aw:=aw) (cw:=cw) (i:=0) hg hm
 rw[Ua h0]at this
 simp only[Z2l,Z17,Z22,Z2p]
 exact(this.append_left _).append_right _
theorem Zkq{G:RwG}{M:Wm}{s:Int}(hl:G.nd.length=M.n.length)(h0:0≤s)(h1:s<M.n.length)(L:Za):LS (Vj G s (Yh G s) (Zd M s) (V2 G.aw G.cw G.nd M.n 0 s.toNat) L).flatten (X3 G M++L).flatten:=by
 have hg:G.nd[s.toNat]?=some (Yh G s):=getD_some (by omega)
 have hm:M.n[s.toNat]?=some (Zd M s):=getD_some (by omega)
 refine LS.trans (rwOp_ls _ _ _ _ _ _) (LS.of_perm ?_)
 exact(Zt7 h0 hg hm (Zfq G) L).symm
theorem Zmu{G:RwG}{gs:List NrG}{ms:List Nd}{s:Int}{g:NrG}{m:Nd}(h0:0≤s)(h1:s.toNat<gs.length)(h2:s.toNat<ms.length)(L:Za):LS (Zfq G++[Zba G.aw G.cw (gs.set s.toNat g) (ms.set s.toNat m) 0]++L).flatten (Vj G s g m (V2 G.aw G.cw gs ms 0 s.toNat) L).flatten:=by
 have hg:(gs.set s.toNat g)[s.toNat]?=some g:=by simp[h1]
 have hm:(ms.set s.toNat m)[s.toNat]?=some m:=by simp[h2]
 refine LS.trans (LS.of_perm (Zt7 h0 hg hm (Zfq G) L)) ?_
 rw[Zy4]
 exact Zy8 _ _ _ _ _ _
theorem Q3{G:RwG}{M:Wm}(h:RwOk G M){s:Int}(h0:0≤s)(h1:s<M.n.length):NrOk (Yh G s) (Zd M s):=by
 have hl:=h.ndl
 exact h.nd s.toNat _ _ (getD_some (by omega)) (getD_some (by omega))
theorem RwOk.setL{G:RwG}{M:Wm}(h:RwOk G M){lv:Value}{lc:List Zp}{l:List Fr}(hv:Z0 lv l lc):RwOk { G with lv:=lv,lc:=lc } { M with l:=l }:=⟨h.wl,h.nodes,h.ndl,h.br,h.bro,h.bln,h.blr,hv,h.ev,h.nd⟩
theorem RwOk.setE{G:RwG}{M:Wm}(h:RwOk G M){ev:Value}{c:List Zp}{l:List Evt}(hv:Vec 162 3 ec ev l c):RwOk { G with ev:=ev,ec:=c } { M with ev:=l }:=⟨h.wl,h.nodes,h.ndl,h.br,h.bro,h.bln,h.blr,h.l,hv,h.nd⟩
theorem RwOk.setB{G:RwG}{M:Wm}(h:RwOk G M){bv:Value}{c:List Zp}{l:List (Int × Int)}{f:Int × Int→Bool}(hv:Vec 133 2 bc2 bv l c)(hb:BrOk l f)(h2:l.Nodup)(h3:∀p∈l,p∈prs):RwOk { G with bv:=bv,bc:=c,bl:=l } { M with br:=f }:=⟨h.wl,h.nodes,h.ndl,hv,hb,h2,h3,h.l,h.ev,h.nd⟩
theorem Zko{G:RwG}{s:Int}{g:NrG}(h0:0≤s)(h1:s<G.nd.length)(hp:g.np=(Yh G s).np):(G.nd.set s.toNat g).map (·.np)=G.nd.map (·.np):=by
 rw[Z4h,hp]
 have hg:G.nd[s.toNat]?=some (Yh G s):=getD_some (by omega)
 refine Z3i fun i=>?_
 rw[Z2z]
 split
 ·rename_i hi
  subst hi
  rw[Z2d (by simp;omega),Z30,hg]
  rfl
 ·rfl
theorem RwOk.put{G:RwG}{M:Wm}(h:RwOk G M){s:Int}{g:NrG}{m:Nd}(h0:0≤s)(h1:s<M.n.length)(hn:NrOk g m)(hp:g.np=(Yh G s).np):RwOk { G with nd:=G.nd.set s.toNat g } (Xm M s m):=by
 have hl:=h.ndl
 have e:=Zko (G:=G) h0 (by omega) hp
 refine⟨h.wl,by simp only[e];exact h.nodes,by simp[Xm,hl],h.br,h.bro,h.bln,h.blr,h.l,h.ev,fun q g1 m1 Uu Zjv=>?_⟩
 simp only[Xm,Z2z]at Uu Zjv
 by_cases hq:s.toNat=q
 ·rw[Z2d hq]at Uu Zjv
  split at Uu
  ·split at Zjv
   ·cases Uu;cases Zjv;exact hn
   ·cases Zjv
  ·cases Uu
 ·rw[Z16 hq]at Uu Zjv
  exact h.nd q g1 m1 Uu Zjv
structure RwS(G G':RwG):Prop where
 wp:G'.wp=G.wp
 aw:G'.aw=G.aw
 cw:G'.cw=G.cw
 wl:G'.wl=G.wl
 np:G'.nd.map (·.np)=G.nd.map (·.np)
theorem RwS.refl(G:RwG):RwS G G:=⟨rfl,rfl,rfl,rfl,rfl⟩
theorem RwS.trans{G G' G'':RwG}(h:RwS G G')(h2:RwS G' G''):RwS G G'':=⟨h2.wp.trans h.wp,h2.aw.trans h.aw,h2.cw.trans h.cw,h2.wl.trans h.wl,h2.np.trans h.np⟩
def Znf(G:RwG)(M':Wm)(L L':Za):Prop:=∃G',RwS G G'∧RwOk G' M'∧L'=X3 G' M'++L
theorem V9{G:RwG}{M:Wm}(h:RwOk G M)(L:Za):Znf G M L (X3 G M++L):=⟨G,.refl G,h,rfl⟩
theorem Zyr{G G':RwG}(h:RwS G G'){s:Int}(h0:0≤s)(h1:s<G.nd.length):(Yh G' s).np=(Yh G s).np:=by
 have h:=h.np
 have hl:G'.nd.length=G.nd.length:=by simpa using congrArg List.length h
 have e1:G'.nd[s.toNat]?=some (Yh G' s):=getD_some (by omega)
 have e2:G.nd[s.toNat]?=some (Yh G s):=getD_some (by omega)
 have:=congrArg (fun l=>l[s.toNat]?) h
 simp only[Z30,e1,e2,Z42,Z5u]at this
 exact this
theorem HC.nodeR{F:Nat}{args:List Value}{G:RwG}{M M':Wm}{s:Int}{L:Za}{V:Value→List Zp→Prop}(h:RwOk G M)(h0:0≤s)(h1:s<M.n.length)
  (k:HC prog F args (Vj G s (Yh G s) (Zd M s) (V2 G.aw G.cw G.nd M.n 0 s.toNat) L) (fun v L'=>∃c,V v c∧∃G' M1 g' m',RwOk G' M1∧G'.nd=G.nd∧M1.n=M.n∧RwS G G'∧NrOk g' m'∧g'.np=(Yh G s).np∧M'=Xm M1 s m'∧L'=Vj G' s g' m' (V2 G.aw G.cw G.nd M.n 0 s.toNat) (c::L))):
  HC prog F args (X3 G M++L) (fun v L'=>∃c,V v c∧Znf G M' (c::L) L'):=by
 have hl:=h.ndl
 refine HC.post (HC.sp k (Zkq hl h0 h1 L)) ?_
 rintro v L' ⟨c,hv,G',M1,g',m',hW,e1,e2,e3,hN,e4,rfl,rfl⟩
 have hnp:g'.np=(Yh G' s).np:=by rw[e4];unfold Yh;rw[e1]
 have eaw:=e3.aw
 have ecw:=e3.cw
 have hps:=Zko (G:=G') (g:=g') h0 (by rw[e1];omega) hnp
 refine⟨X3 { G' with nd:=G'.nd.set s.toNat g' } (Xm M1 s m')++(c::L),?_,c,hv,{ G' with nd:=G'.nd.set s.toNat g' },⟨e3.wp,e3.aw,e3.cw,e3.wl,hps.trans e3.np⟩,hW.put h0 (by rw[e2];exact h1) hN hnp,rfl⟩
 simp only[X3,Xm,e1,e2]
 rw[← eaw,← ecw]
 exact Zmu (G:=G') (gs:=G.nd) (ms:=M.n) (s:=s) (g:=g') (m:=m') h0 (by omega) (by omega) (c::L)
theorem HC.nodeR0{F:Nat}{args:List Value}{G:RwG}{M M':Wm}{s:Int}{L:Za}{V:Value→Prop}(h:RwOk G M)(h0:0≤s)(h1:s<M.n.length)
  (k:HC prog F args (Vj G s (Yh G s) (Zd M s) (V2 G.aw G.cw G.nd M.n 0 s.toNat) L) (fun v L'=>V v∧∃G' M1 g' m',RwOk G' M1∧G'.nd=G.nd∧M1.n=M.n∧RwS G G'∧NrOk g' m'∧g'.np=(Yh G s).np∧M'=Xm M1 s m'∧L'=Vj G' s g' m' (V2 G.aw G.cw G.nd M.n 0 s.toNat) L)):
  HC prog F args (X3 G M++L) (fun v L'=>V v∧Znf G M' L L'):=by
 have hl:=h.ndl
 refine HC.post (HC.sp k (Zkq hl h0 h1 L)) ?_
 rintro v L' ⟨hv,G',M1,g',m',hW,e1,e2,e3,hN,e4,rfl,rfl⟩
 have hnp:g'.np=(Yh G' s).np:=by rw[e4];unfold Yh;rw[e1]
 have eaw:=e3.aw
 have ecw:=e3.cw
 have hps:=Zko (G:=G') (g:=g') h0 (by rw[e1];omega) hnp
 refine⟨X3 { G' with nd:=G'.nd.set s.toNat g' } (Xm M1 s m')++L,?_,hv,{ G' with nd:=G'.nd.set s.toNat g' },⟨e3.wp,e3.aw,e3.cw,e3.wl,hps.trans e3.np⟩,hW.put h0 (by rw[e2];exact h1) hN hnp,rfl⟩
 simp only[X3,Xm,e1,e2]
 rw[← eaw,← ecw]
 exact Zmu (G:=G') (gs:=G.nd) (ms:=M.n) (s:=s) (g:=g') (m:=m') h0 (by omega) (by omega) L
structure RwIn(L:Za)(G:RwG)(M:Wm):Prop where
 wp:Has L G.wp (Ui G)
 ns:∃a cap,G.nv=.slice a M.n.length cap∧Rd pc 1 L a (G.nd.map (·.np))
 bs:∃a cap,G.bv=.slice a G.bl.length cap∧Rd bc2 2 L a G.bl
 ls:∃a cap,G.lv=.slice a M.l.length cap∧Rd fc 9 L a M.l
 es:∃a cap,G.ev=.slice a M.ev.length cap
theorem RwIn.mono{L L':Za}{G:RwG}{M:Wm}(h:RwIn L G M)(hl:∀b o,Has L b o→Has L' b o):RwIn L' G M:=by
 obtain⟨h1,⟨a2,c2,e2,r2⟩,⟨a3,c3,e3,r3⟩,⟨a4,c4,e4,r4⟩,h5⟩:=h
 exact⟨hl _ _ h1,⟨a2,c2,e2,r2.mono hl⟩,⟨a3,c3,e3,r3.mono hl⟩,⟨a4,c4,e4,r4.mono hl⟩,h5⟩
theorem rwInT{G:RwG}{M:Wm}(h:RwOk G M):RwIn (Zfq G) G M:=by
 refine⟨Zk,?_,?_,?_,?_⟩
 ·obtain⟨a,cap,e,-,hR⟩:=h.nodes.rd Vh
  refine⟨a,cap,by rw[e,Z26,h.ndl],(hR []).mono fun b o hb=>?_⟩
  simp only[Has,Z17,Z22,Z2p,Zfq]at hb ⊢
  simp[hb]
 ·obtain⟨a,cap,e,-,hR⟩:=h.br.rd Zeh
  refine⟨a,cap,e,(hR []).mono fun b o hb=>?_⟩
  simp only[Has,Z17,Z22,Z2p,Zfq]at hb ⊢
  simp[hb]
 ·obtain⟨a,cap,e,-,hR⟩:=h.l.rd Zi
  refine⟨a,cap,e,(hR []).mono fun b o hb=>?_⟩
  simp only[Has,Z17,Z22,Z2p,Zfq]at hb ⊢
  simp[hb]
 ·obtain⟨a,cap,e,-,hR⟩:=h.ev.rd Vt
  exact⟨a,cap,e⟩
theorem rwIn{L:Za}{G:RwG}{M:Wm}(h:RwOk G M)(hl:∀b o,Has (Zfq G) b o→Has L b o):RwIn L G M:=(rwInT h).mono hl
theorem Zhi{G:RwG}{M:Wm}(h:RwOk G M)(L:Za):RwIn (X3 G M++L) G M:=rwIn h fun b o hb=>by
 unfold Has X3 at*
 rw[Z18,Z2l]
 exact Z2x _ hb
theorem rwOp_in{G:RwG}{M:Wm}(h:RwOk G M)(s:Int)(g:NrG)(m:Nd)(X:List Zp)(L:Za):RwIn (Vj G s g m X L) G M:=rwIn h fun b o hb=>by
 unfold Has at*
 obtain⟨l,h1,h2⟩:=Zy8 G s g m X L
 refine h2.subset (h1.mem_iff.2 ?_)
 rw[Z18,Z2l]
 exact Z2x _ hb
theorem Zuf{L:Za}{G:RwG}{M:Wm}{s:Int}(hI:RwIn L G M)(hl:G.nd.length=M.n.length)(h0:0≤s)(h1:s<M.n.length):∃b i l F fr cap,G.nv=sl b i M.n.length cap∧Has L b (.cells ⟨l⟩ F fr)∧l[i+s.toNat]?=some (pt (Yh G s).np 0):=by
 obtain⟨a,cap,hnv,hR⟩:=hI.ns
 obtain⟨b,i,l,F,fr,rfl,hb,hg⟩:=hR.at1 (j:=s) h0 (by simp;omega)
 refine⟨b,i,l,F,fr,cap,hnv,hb,?_⟩
 have e:(G.nd.map (·.np))[s.toNat]'(by simp;omega)=(Yh G s).np:=by
  rw[Z6w]
  unfold Yh
  rw[List.getD,Z2c (by omega)]
  rfl
 rw[e]at hg
 exact hg 0 _ rfl
theorem Zq0{G:RwG}{M:Wm}{s:Int}(hl:G.nd.length=M.n.length)(h0:0≤s)(h1:s<M.n.length){b:Nat}{o:Obj}(hb:(b,o)∈Zkn G.aw G.cw (Yh G s) s (Zd M s))(L:Za):Has (Zba G.aw G.cw G.nd M.n 0::L) b o:=by
 have hg:G.nd[s.toNat]?=some (Yh G s):=getD_some (by omega)
 have hm:M.n[s.toNat]?=some (Zd M s):=getD_some (by omega)
 have:=Zhf (aw:=G.aw) (cw:=G.cw) (i:=0) hg hm
 rw[Ua h0]at this
 unfold Has
 rw[Z17]
 exact Z2x _ (this.mem_iff.2 (Z2x _ hb))
theorem Zq7{G:RwG}{M:Wm}{s:Int}(hl:G.nd.length=M.n.length)(h0:0≤s)(h1:s<M.n.length){b:Nat}{o:Obj}(hb:(b,o)∈Zkn G.aw G.cw (Yh G s) s (Zd M s))(L:Za):Has (X3 G M++L) b o:=by
 have hg:G.nd[s.toNat]?=some (Yh G s):=getD_some (by omega)
 have hm:M.n[s.toNat]?=some (Zd M s):=getD_some (by omega)
 have:=Zhf (aw:=G.aw) (cw:=G.cw) (i:=0) hg hm
 rw[Ua h0]at this
 unfold Has X3
 rw[Z18,Z2l,Z2l]
 refine Z2q _ (Z2x _ ?_)
 rw[Z17,Z22,Z2p]
 exact this.mem_iff.2 (Z2x _ hb)
theorem Zq8{G:RwG}{M:Wm}{s:Int}(hl:G.nd.length=M.n.length)(h0:0≤s)(h1:s<M.n.length)(L:Za):Has (X3 G M++L) (Yh G s).np (Zc6 (Yh G s) (Zd M s)):=Zq7 hl h0 h1 (by simp[Zkn,Zfa]) L
attribute [local irreducible] HW HO HQ HD HC QOp Has Upd Yi Gets Vv W6 Xn Zaf Wa Yz Zcl Xy
section
attribute [local irreducible] Zq Zaj W5
theorem Zo2(G:RwG)(M:Wm)(s:Int)(L:Za)(hI:RwIn L G M)(hl:G.nd.length=M.n.length)(hN:Vc M s=none→Has L (Yh G s).np (Zc6 (Yh G s) (Zd M s))):HC prog 139 [pt G.wp 0,iv s] L (fun v L'=>v=iv (cdN (Zd9 M s))∧L'=L):=by
 have hw:=hI.wp
 unfold Ui at hw
 by_cases h:s<0∨M.n.length≤s
 ·have e:Zd9 M s=some 2:=by
   have:Vc M s=some 2:=Z2d h
   unfold Zd9;rw[this]
  obtain⟨a,cap,hnv,hR⟩:=hI.ns
  rw[hnv]at hw
  rw[e]
  by_cases h0:s<0
  ·refine uE func139 ntmps139 ?_
   repeat' (first|refine uN ?_|(refine uP ?_ ?_<;>intro h<;>try exact zx)|fail)
   exact Us rfl ⟨rfl,rfl⟩
  ·refine uE func139 ntmps139 ?_
   repeat' (first|refine uN ?_|(refine uP ?_ ?_<;>intro h<;>try exact zx)|fail)
   exact Us rfl ⟨rfl,rfl⟩
 ·have e:Vc M s=none:=Z16 h
  have hN':=hN e
  have hu:Zd9 M s=if (Zd M s).site.isNone then some 6 else none:=by unfold Zd9;rw[e]
  obtain⟨b,i,l,F,fr,cap,hnv,hb,hg⟩:=Zuf hI hl (s:=s) (by omega) (by omega)
  rw[hnv]at hw
  unfold Zc6 at hN'
  rw[hu]
  cases hs:(Zd M s).site with
  | none=>
   rw[hs]at hN'
   simp only[Zfo]at hN'
   refine uE func139 ntmps139 ?_
   repeat' (first|refine uN ?_|(refine uP ?_ ?_<;>intro h<;>try exact zx)|fail)
   exact Us rfl ⟨rfl,rfl⟩
  | some q=>
   rw[hs]at hN'
   simp only[Zfo]at hN'
   refine uE func139 ntmps139 ?_
   repeat' (first|refine uN ?_|(refine uP ?_ ?_<;>intro h<;>try exact zx)|fail)
   exact Us rfl ⟨rfl,rfl⟩
theorem Zq5(G:RwG)(M:Wm)(s:Int)(d:Nat)(L:Za)(hI:RwIn L G M)(hl:G.nd.length=M.n.length)(h0:0≤s)(h1:s<M.n.length)(hd:d<6)(hb5:(Zd M s).pl.b.length=512)(hN:Has L (Yh G s).np (Zc6 (Yh G s) (Zd M s)))(hP:∀p∈W5 (Yh G s).rp (Zd M s).pl (Yh G s).left,Has L p.1 p.2):
  HC prog 95 [pt G.wp 0,iv s,iv d] L (fun v L'=>v=.agg ⟨sc (Znq (Zd M s).pl d)⟩∧L'=L):=by
 have hw:=hI.wp
 unfold Ui at hw
 obtain⟨b,i,l,F,fr,cap,hnv,hb,hg⟩:=Zuf hI hl h0 h1
 rw[hnv]at hw
 unfold Zc6 at hN
 have hp:=hP _ (by unfold W5;exact Z3j.2 rfl)
 simp only at hp
 have kd:=fun L=>Zfn (Zd M s).pl.b d L hd (by omega) (by omega)
 have e:Znq (Zd M s).pl d=(Y7 (Zd M s).pl.b d).s:=by
  unfold Znq Zq
  simp[List.getD,hd]
 rw[e]
 generalize Y7 (Zd M s).pl.b d=D at*
 refine uE func95 ntmps95 ?_
 repeat' (first|refine uN ?_|refine uC (kd _) ?_|(refine uB ?_;intro b)|fail)
 exact Z3 uL ⟨rfl,rfl⟩ (hv:=Xj S (hg:=Zc rfl (Zc rfl (Zc rfl Z6))))
theorem Zjg(g:NrG)(m:Nd)(L:Za)(hd:g.ld.length=6):HC prog 148 [pt g.np 0] (Zfa g m::L) (fun v L'=>∃bl,v=.tuple ⟨[]⟩∧L'=Zfa { g with bl:=bl } { m with site:=none,leads:=Z8 }::Zjx { g with bl:=bl } { m with site:=none,leads:=Z8 }::L):=by
 have e:List.zipWith Zh4 Z8 g.ld=Z0t:=Zl3 _ hd
 simp only[Zfa,Zc6,Zjx,Qy,e,Zfo]
 refine uE func148 ntmps148 ?_
 repeat' (first|refine uN ?_|(refine uB ?_;intro b)|fail)
 exact spn (L':=[(g.np,.cells ⟨[.pointer none,pt g.rp 0,sl b 0 6 6,sl g.bd 0 6 6]⟩ 150)]::[(b,.cells ⟨Z0t⟩ 209)]::L) uL ⟨b,rfl,rfl⟩
end
end Go.HL
namespace Go.HL
open Go Go.Proofs Go.Proofs.Tryz
variable[Tasks]
structure RsIn(L:Za)(g:NrG)(id:Int)(j:Jn):Prop where
 si:∃bR,Has L g.rs (.cells ⟨[iv id,pt g.r.rj 0,bR]⟩ 208)
 rj:Has L g.r.rj (.cells ⟨Zhe g.r j.dead⟩ 214)
 st:Has L g.r.bS (.cells ⟨((j.l.map Ent.s).map sc).flatten++g.r.spS⟩ 43)
theorem dn_get{dn:List Bool}{d:Nat}{b:Bool}(h:dn[d]?=some b):(dn.map Value.bool)[0+(d:Int).toNat]?=some (.bool b):=by
 rw[Z3o,Z2w,Z30,h];rfl
theorem dn_put{dn:List Bool}{d:Nat}(b:Bool)(h:d<dn.length):Yi (dn.map Value.bool) (0+(d:Int).toNat) [.bool b] ((dn.set d b).map Value.bool):=by
 have e:(dn.set d b).map Value.bool=(dn.map Value.bool).set (0+(d:Int).toNat) (.bool b):=by
  rw[Z3o,Z2w,Z4h]
 rw[e]
 exact Wz (by simp;omega)
theorem Zz2{l:List Value}{i:Nat}{v:Value}{vs:List Value}(h:Gets l i (v::vs)):l[i+0]?=some v:=h 0 v rfl
attribute [local irreducible] HW HO HQ HD HC QOp Has Upd Yi Gets Vv W6 Xn Zaf Wa Yz Zcl Xy
section
attribute [local irreducible] Zq Ug
theorem Zw1(G:RwG)(M:Wm)(a b:Int)(L:Za)(hI:RwIn L G M)(hb:BrOk G.bl M.br)(hbl:G.bl.length≤49):HC prog 155 [pt G.wp 0,iv a,iv b] L (fun v L'=>v=.bool (M.br (min a b,max a b))∧L'=L):=by
 have hw:=hI.wp
 unfold Ui at hw
 obtain⟨ab,cap,hbv,hR⟩:=hI.bs
 rw[hbv]at hw
 rw[hb a b]
 generalize G.bl=bl at*
 refine uE func155 ntmps155 ?_
 repeat' (first|refine uN ?_|(refine uP ?_ ?_<;>intro h<;>try exact zx)|fail)
 refine Zm (σ:=Nat) (fun k=>[(0,pt G.wp 0),(1,iv a),(2,iv b),(7,iv k)]) (fun _=>L) (fun k=>k≤bl.length∧¬ ((a,b)∈bl.take k∨(b,a)∈bl.take k)) (fun k=>bl.length-k) 0 uS (Z15 _) ⟨by omega,by simp⟩ ?_
 rintro k ⟨hk,hn⟩
 by_cases hlt:k<bl.length
 ·obtain⟨bh,ih,lh,Eh,frh,hah,hbh,hgh⟩:=hR.at (j:=(k:Int)) (by omega) (by omega)
  subst hah
  have hg0:Gets lh (ih+(k:Int).toNat*2) (bc2 bl[k]):=hgh
  have hx:bl[k]∈bl:=Z3c _
  have hs:bl.take (k+1)=bl.take k++[bl[k]]:=Z2n hlt
  generalize bl[k]=x at*
  obtain⟨x1,x2⟩:=x
  by_cases h1:(x1,x2)=(a,b)
  ·cases h1
   rw[Z29 (.inl hx)]
   repeat' (first|refine uN ?_|(refine uP ?_ ?_<;>intro h<;>try exact zx)|fail)
   exact Z3 uL ⟨rfl,rfl⟩
  ·by_cases h2:(x1,x2)=(b,a)
   ·cases h2
    rw[Z29 (.inr hx)]
    repeat' (first|refine uN ?_|(refine uP ?_ ?_<;>intro h<;>try exact zx)|fail)
    all_goals exact Z3 uL ⟨rfl,rfl⟩
   ·repeat' (first|refine uN ?_|(refine uP ?_ ?_<;>intro h<;>try exact zx)|fail)
    ·exact absurd (Prod.ext (by assumption:x1=a∧x2=b).1 (by assumption:x1=a∧x2=b).2) h1
    ·exact absurd (Prod.ext (by assumption:x1=b∧x2=a).1 (by assumption:x1=b∧x2=a).2) h2
    all_goals refine Ze (k+1) uS uL ⟨by omega,?_⟩ (by omega)
    all_goals rw[hs]
    all_goals simp only[Z2f,Z3j]
    all_goals rintro((h|h)|(h|h))
    all_goals first|exact hn (.inl h)|exact hn (.inr h)|exact h1 h.symm|exact h2 h.symm
 ·rw[Z3d (by omega)]at hn
  rw[Z3t hn]
  repeat' (first|refine uN ?_|(refine uP ?_ ?_<;>intro h<;>try exact zx)|fail)
  exact Z3 uL ⟨rfl,rfl⟩
theorem Zjk(G:RwG)(s:Int)(g:NrG)(m:Nd)(ev:List Evt)(n:Nat)(L:Za)(hv:Vec 162 3 ec G.ev ev G.ec)(hl:ev.length≤500)(hp:NpIn L G.nv n s g.np)(hN:Has L g.np (Zc6 g m))(hd:m.done.length=6)
  (hs:∀j ref,m.site=some (j,ref)→RsIn L g s j∧j.l.length=6):HC prog 150 [pt G.wp 0,iv s] ([(G.wp,Ui G)]::G.ec::Zmr g m::L)
  (fun v L'=>∃evv c,Vec 162 3 ec evv (Wh s m ev).2 c∧v=.tuple ⟨[]⟩∧L'=[(G.wp,Ui { G with ev:=evv,ec:=c })]::c::Zmr g { m with done:=(Wh s m ev).1 }::L):=by
 obtain⟨wp,aw,cw,wl,nv,nc,bv,bc,bl,lv,lc,evv,evc,nd⟩:=G
 simp only at hv hp
 obtain⟨⟨b,i,l,F,fr,cap,rfl,hb,hg⟩,h0,h1⟩:=hp
 obtain⟨pl,site,leads,done⟩:=m
 simp only at hd hs
 unfold Zc6 at hN
 simp only[Ui,Zmr]
 cases site with
 | none=>
  simp only[Wh,Zfo]at hN ⊢
  refine uE func150 ntmps150 ?_
  repeat' (first|refine uN ?_|(refine uB ?_;intro b)|(refine uP ?_ ?_<;>intro h<;>try exact zx)|fail)
  refine Zm (σ:=Unit) (fun q=>[(0,pt wp 0),(1,iv s),(4,pt g.np 0),(5,iv 0)])
   (fun q=>[(wp,.cells ⟨[.slice aw wl cw,sl b i n cap,bv,lv,evv]⟩ 94)]::evc::[(g.bd,.cells ⟨done.map Value.bool⟩ 4)]::L) (fun _=>True) (fun _=>0) () uS (Z15 _) trivial ?_
  rintro - -
  repeat' (first|refine uN ?_|(refine uB ?_;intro b)|(refine uP ?_ ?_<;>intro h<;>try exact zx)|fail)
  exact spn (LS.refl _) ⟨_,_,hv,rfl,rfl⟩
 | some q=>
  obtain⟨j,ref⟩:=q
  obtain⟨⟨⟨bR,hsi⟩,hrj,hst⟩,hjl⟩:=hs j ref rfl
  simp only[Wh,Zfo]at hN ⊢
  unfold Zhe at hrj
  have kf:=fun p L=>Zcu p L
  refine uE func150 ntmps150 ?_
  repeat' (first|refine uN ?_|(refine uB ?_;intro b)|(refine uP ?_ ?_<;>intro h<;>try exact zx)|fail)
  refine Zm (σ:=Nat × (Value × List Zp)) (fun q=>[(0,pt wp 0),(1,iv s),(4,pt g.np 0),(5,iv q.1)])
   (fun q=>[(wp,.cells ⟨[.slice aw wl cw,sl b i n cap,bv,lv,q.2.1]⟩ 94)]::q.2.2::[(g.bd,.cells ⟨(Zao s (Ue j) (done,ev) q.1).1.map Value.bool⟩ 4)]::L)
   (fun q=>q.1≤6∧Vec 162 3 ec q.2.1 (Zao s (Ue j) (done,ev) q.1).2 q.2.2) (fun q=>6-q.1) (0,evv,evc) uS (Z15 _) ⟨by simp,hv⟩ ?_
  rintro⟨d,ev1,c1⟩ ⟨hd6,hv1⟩
  simp only at hd6 hv1 ⊢
  have hdl:=Zer (s:=s) (ph:=Ue j) (q:=(done,ev)) d
  have hel:=Zg7 (s:=s) (ph:=Ue j) (q:=(done,ev)) hl d
  have hsucc:=Zc1 s (Ue j) (done,ev) d
  generalize hRR:Zao s (Ue j) (done,ev) d=R at*
  obtain⟨dn,es1⟩:=R
  simp only at hdl hel hv1 ⊢
  by_cases hlt:d<6
  ·have hdn:dn[d]?=some (dn.getD d true):=getD_some (by omega)
   have gD:=dn_get hdn
   have gP:=dn_put (dn:=dn) (d:=d) true (by omega)
   have gS:=Zqt (r:=g.r) (j:=j) (d:=d) (e:=j.l.getD d Zl) (by simp[List.getD,hjl,hlt])
   have gS0:(((j.l.map Ent.s).map sc).flatten++g.r.spS)[0+(d:Int).toNat*3+0]?=some (iv (Ue j d)):=Zz2 gS
   obtain⟨a5,cap5,he5,-,-⟩:=hv1.rd Vt
   subst he5
   have hnx:Zao s (Ue j) (done,ev) (d+1)=Ug s (Ue j) (dn,es1) d:=hsucc
   generalize hph0:Ue j d=p at*
   by_cases hdone:dn.getD d true=true
   ·rw[hdone]at gD
    have e2:Ug s (Ue j) (dn,es1) d=(dn,es1):=by unfold Ug;rw[Z2d (.inl hdone)]
    rw[e2]at hnx
    repeat' (first|refine uN ?_|refine uC (kf _ _) ?_|(refine uB ?_;intro b)|(refine uP ?_ ?_<;>intro h<;>try exact zx)|fail)
    all_goals refine Ze (d+1,.slice a5 es1.length cap5,c1) uS ?_ ⟨by simp only;omega,?_⟩ (by simp only;omega)
    all_goals rw[hnx]
    all_goals first|exact hv1|exact LS.refl _
   ·have hdf:dn.getD d true=false:=by simpa using hdone
    rw[hdf]at gD
    by_cases hph:p≠2∧p≠3
    ·have e2:Ug s (Ue j) (dn,es1) d=(dn,es1):=by unfold Ug;rw[Z2d (.inr (by simp only[hph0];exact hph))]
     rw[e2]at hnx
     have kf2:=kf p
     rw[Z3t (by omega:¬ (p=2∨p=3))]at kf2
     repeat' (first|refine uN ?_|refine uC (kf2 _) ?_|(refine uB ?_;intro b)|(refine uP ?_ ?_<;>intro h<;>try exact zx)|fail)
     all_goals refine Ze (d+1,.slice a5 es1.length cap5,c1) uS ?_ ⟨by simp only;omega,?_⟩ (by simp only;omega)
     all_goals rw[hnx]
     all_goals first|exact hv1|exact LS.refl _
    ·have e2:Ug s (Ue j) (dn,es1) d=(dn.set d true,if es1.length<500 then es1++[⟨s,d,p⟩] else es1):=by unfold Ug;rw[Z16 (by simp only[hdf,hph0];intro h;rcases h with h|h;cases h;exact hph h),hph0]
     rw[e2]at hnx
     have kf2:=kf p
     rw[Z29 (by omega:(p=2∨p=3))]at kf2
     by_cases h500:es1.length<500
     ·rw[Z2d h500]at hnx
      repeat' (first|refine uN ?_|refine uC (kf2 _) ?_|(refine uB ?_;intro b)|(refine uP ?_ ?_<;>intro h<;>try exact zx)|fail)
      all_goals refine fo 2 ?_
      all_goals refine Zfc S ⟨s,d,p⟩ hv1 Vt Zpz ?_
      all_goals intro v' c' hv'
      all_goals obtain⟨a6,cap6,he6,-,-⟩:=hv'.rd Vt
      all_goals subst he6
      all_goals repeat' (first|refine uN ?_|refine uC (kf2 _) ?_|(refine uB ?_;intro b)|(refine uP ?_ ?_<;>intro h<;>try exact zx)|fail)
      all_goals refine Ze (d+1,.slice a6 (es1++[⟨s,d,p⟩]:List Evt).length cap6,c') uS ?_ ⟨by simp only;omega,?_⟩ (by simp only;omega)
      all_goals rw[hnx]
      all_goals first|exact hv'|exact uL
     ·rw[Z16 h500]at hnx
      repeat' (first|refine uN ?_|refine uC (kf2 _) ?_|(refine uB ?_;intro b)|(refine uP ?_ ?_<;>intro h<;>try exact zx)|fail)
      all_goals refine Ze (d+1,.slice a5 es1.length cap5,c1) uS ?_ ⟨by simp only;omega,?_⟩ (by simp only;omega)
      all_goals rw[hnx]
      all_goals first|exact hv1|exact uL
  ·obtain rfl:d=6:=by omega
   have hR6:Zao s (Ue j) (done,ev) 6=(dn,es1):=hRR
   rw[hR6]
   repeat' (first|refine uN ?_|(refine uB ?_;intro b)|(refine uP ?_ ?_<;>intro h<;>try exact zx)|fail)
   exact ee0 rfl ⟨_,_,hv1,rfl,rfl⟩
end
end Go.HL
