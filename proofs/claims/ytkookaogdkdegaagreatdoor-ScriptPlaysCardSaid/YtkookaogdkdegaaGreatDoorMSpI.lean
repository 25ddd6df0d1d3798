/- Texts laid into one, without what the claim does not use. Conditions: none. -/
import Derived.Test.YtkookaogdkdegaaGreatDoorMSpH
set_option linter.unusedVariables false
set_option linter.unusedSimpArgs false
/-! RlE -/
section
namespace Go.HL
open Go Go.Proofs
set_option maxHeartbeats 2000000 attribute [local irreducible] HW HO HQ HD HC QOp Has Upd Zt Gets Z8 Z0 Zo Xm Zz Zj Xp Zy
set_option maxHeartbeats 2000000 in
theorem Zu9 (lp:Nat) (aw:Option Addr) (capw:Nat) (hv:Value) (hc:List Zr) (m:Ld) (hs:List Fr) (f:Fr) (L:Zb) (hR:Rd ic 1 L aw m.w) (hck:Ym m.w=none) (hH:Z7 hv hs hc) (rel:RelH m hs) (hw:m.wait≠0) (hfit:X2 m f) (hy:f.yes=true) (hkd : ¬ f.kd=2) (hsn:m.seen<f.s.pr) :
  HC Tryz.prog 41 [pt lp 0,.agg ⟨fc f⟩] (U3 lp aw capw hv hc m::L) (fun v L' => ∃ c hv' hc',Z7 v (Zw m f).2 c∧Z7 hv' (Qd m hs f) hc'∧L'=c::U3 lp aw capw hv' hc' (Zw m f).1::L):=by
 have rel2:=rel.m2 hfit
 have hl2:=rel2.le7
 have hw72:=rel2.w7
 have e0:Q8 m f={ m with seen:=f.s.pr }:=by unfold Q8;rw [if_neg hkd,show max m.seen f.s.pr=f.s.pr by omega]
 have hm2:Qm m f={ m with seen:=f.s.pr,heard:=m.heard ||| 2 ^ f.fr.toNat,told:=m.told.set f.fr.toNat f.s }:=by unfold Qm;rw [e0]
 have eh:Zw m f=Yf (Qm m f):=by unfold Zw;rw [if_neg (fun h=>h.elim hw (fun h=>h hfit)),if_neg (by rw [hy];decide)]
 have eh2:Qd m hs f=Xq (Qm m f) (hs++[f]):=by unfold Qd;rw [if_neg (fun h=>h.elim hw (fun h=>h hfit)),if_neg (by rw [hy];decide)]
 rw [eh,eh2]
 have kf:=fun L=>Vs lp aw capw hv hc m hs f.fr L hH (by have:=rel.le7;have:=rel.w7;omega)
 rw [Zfn rel hfit.2.2.2.2.1 hfit.2.2.2.2.2.1,decide_eq_false (by have:=hfit.2.2.2.2.2.2;omega)] at kf
 have hf0:=hfit
 unfold X2 at hf0
 have hw7:=rel.w7
 have hl7:=rel.le7
 generalize hM:Qm m f=m2 at *
 have em : ∀ v' c',U3 lp aw capw v' c' m2=(lp,.cells ⟨Zz4 aw capw v' { m with seen:=f.s.pr }⟩ 93)::c':=fun v' c'=>by rw [hm2];rfl
 have ew:m2.w=m.w:=by rw [hm2]
 have ek:m2.wait=f.kd:=by rw [hm2];show m.wait=f.kd;omega
 have ep:m2.phase=m.phase:=by rw [hm2]
 refine Za (fun _ _=>Tryz.call41 _ _) Tryz.func41 rfl Tryz.ntmps41 (Nat.le_of_ble_eq_true rfl) ?_;simp only [Zd,Nat.reduceAdd]
 repeat apply Zjo
 apply Zbb
 refine wb (fun b3=>?_)
 repeat' (first|refine uN ?_|refine Z2 S ?_|refine Yp S ?_|refine Wq (qC (Yw kf 1)) ?_|refine Qr (qC (Yw kf 1)) ?_|refine Yb (fun _=>Yw kf 1) ?_|refine Yc (fun _=>Yw kf 1) ?_|refine Yd (fun _=>Yw kf 1) ?_|refine Ye (fun _=>Yw kf 1) ?_|(refine uB ?_;intro b)|(refine uP ?_ ?_<;>(intro h;((try simp only [zs,zq,reduceCtorEq] at h);try exact zx)))|refine da 101 ?_|fail)
 all_goals (try exact absurd ((by assumption:f.yes=false).symm.trans hy) (by decide))
 refine fo 3 ?_
 refine ho_rl ?_
 refine Zce S f hH Zl Wr ?_
 intro v1 c1 hv1
 obtain ⟨a1,p1,rfl,-,-⟩:=Vec.rd hv1 Zl
 repeat' (first|refine uN ?_|refine Z2 S ?_|refine Yp S ?_|(refine uB ?_;intro b)|(refine uP ?_ ?_<;>(intro h;((try simp only [zs,zq,reduceCtorEq] at h);try exact zx)))|refine da 101 ?_|fail)
 refine W6 (L':=c1::[(lp,.cells ⟨Zz4 aw capw (.slice a1 (hs++[f]).length p1) { m with seen:=f.s.pr }⟩ 93)]::[]::[(b3,.cells ⟨fc f⟩ 97)]::L) ?_ uL
 refine hw_lr ?_
 rw [← em]
 generalize hvv:Value.slice a1 (hs++[f]).length p1=v1 at *
 have kf2:=fun i L=>Vs lp aw capw v1 c1 m2 (hs++[f]) i L hv1 (by omega)
 refine W6 (L':=[]::U3 lp aw capw v1 c1 m2::[(b3,.cells ⟨fc f⟩ 97)]::L) ?_ uL
 refine Zp (σ:=Nat × Value × List Zr) (fun q=>[(0,pt lp 0),(3,pt b3 0),(8,iv ((m2.heard % 2 ^ q.1:Nat):Int)),(9,q.2.1),(10,iv q.1)]) (fun q=>q.2.2::U3 lp aw capw v1 c1 m2::[(b3,.cells ⟨fc f⟩ 97)]::L) (fun q=>q.1≤m2.w.length∧Vec 69 3 sc q.2.1 ((List.range q.1).flatMap (Wt m2)) q.2.2) (fun q=>m2.w.length-q.1) (0,Ys,[]) ?_ (List.Sublist.refl _) ⟨by simp,Zv⟩ ?_
 ·simp only [Nat.pow_zero,Nat.mod_one]
  exact uS
 rintro ⟨i,vS,cS⟩ ⟨hi,hS⟩
 simp only at hi hS ⊢
 have hle:=Wk (Wt m2) (Zb9 m2) i
 have hms:=Zj5 m2.heard i
 have hmlt:m2.heard % 2 ^ i<2 ^ i:=Nat.mod_lt _ (Nat.two_pow_pos i)
 by_cases hlt:i<m2.w.length
 ·have kt:=fun L=>Zbm i (by omega) L
  have et:(2:Int) ^ i=((2 ^ i:Nat):Int):=by simp
  rw [et] at kt
  have hp7:2 ^ i≤128:=by
   have:=Nat.pow_le_pow_right (n:=2) (by decide) (show i≤7 by omega)
   simpa using this
  have hbi:=rel2.bit i hlt
  by_cases hb:m2.heard / 2 ^ i % 2=1
  ·obtain ⟨g,hg⟩:=Option.isSome_iff_exists.1 (hbi.1 hb)
   have hgs:=rel2.told i hlt g hg
   have kfi:=fun L=>kf2 i L
   rw [hg] at kfi
   have e1:Wt m2 i=[g.s]:=by unfold Wt;rw [if_pos hb,hgs]
   have e2:(List.range (i+1)).flatMap (Wt m2)=(List.range i).flatMap (Wt m2)++[g.s]:=by rw [Wn,e1]
   rw [hb,Nat.mul_one] at hms
   generalize 2 ^ i=z at *
   simp only [Option.getD_some,Option.isSome_some] at kfi
   repeat' (first|refine uN ?_|refine Z2 S ?_|refine Yp S ?_|refine Wq (qC (Yw kfi 1)) ?_|refine Qr (qC (Yw kfi 1)) ?_|refine uC (kt _) ?_|refine Yb (fun _=>Yw kfi 1) ?_|refine Yc (fun _=>Yw kfi 1) ?_|refine Yd (fun _=>Yw kfi 1) ?_|refine Ye (fun _=>Yw kfi 1) ?_|refine Yb (fun _=>kt _) ?_|refine Yc (fun _=>kt _) ?_|refine Yd (fun _=>kt _) ?_|refine Ye (fun _=>kt _) ?_|(refine uB ?_;intro b)|(refine uP ?_ ?_<;>(intro h;((try simp only [zs,zq,reduceCtorEq] at h);try exact zx)))|refine da 101 ?_|fail)
   refine fo 2 ?_
   refine Zce S g.s hS Zao Zpg ?_
   intro v' c' hv'
   rw [← e2] at hv'
   repeat' (first|refine uN ?_|refine Z2 S ?_|refine Yp S ?_|(refine uB ?_;intro b)|(refine uP ?_ ?_<;>(intro h;((try simp only [zs,zq,reduceCtorEq] at h);try exact zx)))|refine da 101 ?_|fail)
   refine Zg (i+1,v',c') ?_ uL ⟨by simp only;omega,hv'⟩ (by simp only;omega)
   simp only
   rw [hms,Int.natCast_add]
   exact uS
  ·have hno:W5 (hs++[f]) i=none:=by
    cases hq:W5 (hs++[f]) i with
    | none=>rfl
    | some g=>exact absurd (hbi.2 (by rw [hq];rfl)) hb
   have kfi:=fun L=>kf2 i L
   rw [hno] at kfi
   have e1:Wt m2 i=[]:=by unfold Wt;rw [if_neg hb]
   have e2:(List.range (i+1)).flatMap (Wt m2)=(List.range i).flatMap (Wt m2):=by rw [Wn,e1,List.append_nil]
   rw [show m2.heard / 2 ^ i % 2=0 by omega,Nat.mul_zero,Nat.add_zero] at hms
   simp only [Option.getD_none,Option.isSome_none] at kfi
   repeat' (first|refine uN ?_|refine Z2 S ?_|refine Yp S ?_|refine Wq (qC (Yw kfi 1)) ?_|refine Qr (qC (Yw kfi 1)) ?_|refine uC (kt _) ?_|refine Yb (fun _=>Yw kfi 1) ?_|refine Yc (fun _=>Yw kfi 1) ?_|refine Yd (fun _=>Yw kfi 1) ?_|refine Ye (fun _=>Yw kfi 1) ?_|refine Yb (fun _=>kt _) ?_|refine Yc (fun _=>kt _) ?_|refine Yd (fun _=>kt _) ?_|refine Ye (fun _=>kt _) ?_|(refine uB ?_;intro b)|(refine uP ?_ ?_<;>(intro h;((try simp only [zs,zq,reduceCtorEq] at h);try exact zx)))|refine da 101 ?_|fail)
   refine Zg (i+1,vS,cS) ?_ uL ⟨by simp only;omega,by simp only;rw [e2];exact hS⟩ (by simp only;omega)
   simp only
   rw [hms]
   exact uS
 ·obtain rfl:i=m2.w.length:=by omega
  subst hvv
  have hmod:m2.heard % 2 ^ m2.w.length=m2.heard:=Nat.mod_eq_of_lt rel2.lt
  obtain ⟨c1w,c2w,c3w,c4w⟩:=Vn hck
  rw [← ew] at hck c3w
  rw [← ew] at hR
  have kq:=fun L hR=>Zef aw capw m2.w m2.heard L hR hw72 c3w (by have:=Nat.lt_of_lt_of_le rel2.lt (Nat.pow_le_pow_right (n:=2) (by decide) hw72);omega)
  have hen:=en_ok hck rel2.lt
  rw [hmod]
  obtain ⟨aS,pS,rfl,hpS,hRS⟩:=Vec.rd hS Zao
  have hsl:=Wk (Wt m2) (Zb9 m2) m2.w.length
  have est:(List.range m2.w.length).flatMap (Wt m2)=Xg m2:=rfl
  rw [est] at hRS hsl hS ⊢
  cases hq:Zu3 m2.w m2.heard with
  | false =>
   have ec:Yf m2=(m2,[]):=by unfold Yf;rw [if_neg (fun h=>hkd (ek▸h.1)),if_pos (.inr (by rw [hen,hq]))]
   have ec2:Xq m2 (hs++[f])=hs++[f]:=by unfold Xq;rw [if_neg (fun h=>hkd (ek▸h.1)),if_pos (.inr (by rw [hen,hq]))]
   rw [ec,ec2]
   rw [hq] at kq
   repeat' (first|refine uN ?_|refine Z2 S ?_|refine Yp S ?_|refine Wq (qC (kq _ (((hR.cons _).cons _).cons _))) ?_|refine Qr (qC (kq _ (((hR.cons _).cons _).cons _))) ?_|refine Yb (fun _=>kq _ (((hR.cons _).cons _).cons _)) ?_|refine Yc (fun _=>kq _ (((hR.cons _).cons _).cons _)) ?_|refine Yd (fun _=>kq _ (((hR.cons _).cons _).cons _)) ?_|refine Ye (fun _=>kq _ (((hR.cons _).cons _).cons _)) ?_|(refine uB ?_;intro b)|(refine uP ?_ ?_<;>(intro h;((try simp only [zs,zq,reduceCtorEq] at h);try exact zx)))|refine da 101 ?_|fail)
   exact Z9 (L':=[]::U3 lp aw capw _ c1 m2::L) uL ⟨[],_,c1,Zv,hv1,rfl⟩
  | true =>
   rw [hq] at kq
   have n1 : ¬ (m2.wait=2∧m2.heard=2 ^ m2.w.length-1):=fun h=>hkd (ek▸h.1)
   have n2 : ¬ (m2.wait=2∨(Xv m2.w m2.heard).1=false):=fun h=>h.elim (fun h=>hkd (ek▸h)) (fun h=>by rw [hen,hq] at h;cases h)
   have kd:=fun p L=>Za1 lp aw capw (.slice a1 (hs++[f]).length p1) c1 m2 p L (by omega)
   have kp:=fun p L=>Zam lp aw capw (.slice a1 (hs++[f]).length p1) c1 m2 (hs++[f]) p L (by omega) hv1
   by_cases h6:f.kd=6
   ·have ec:Yf m2=Zcu m2 (Vm m2.phase):=by unfold Yf;rw [if_neg n1,if_neg n2,if_pos (by omega)]
    have ec2:Xq m2 (hs++[f])=hs++[f]:=by unfold Xq;rw [if_neg n1,if_neg n2,if_pos (by omega)]
    rw [ec,ec2]
    repeat' (first|refine uN ?_|refine Z2 S ?_|refine Yp S ?_|refine Wq (qC (kq _ (((hR.cons _).cons _).cons _))) ?_|refine Qr (qC (kq _ (((hR.cons _).cons _).cons _))) ?_|refine uC (Xh _ _) ?_|refine Yb (fun _=>kq _ (((hR.cons _).cons _).cons _)) ?_|refine Yc (fun _=>kq _ (((hR.cons _).cons _).cons _)) ?_|refine Yd (fun _=>kq _ (((hR.cons _).cons _).cons _)) ?_|refine Ye (fun _=>kq _ (((hR.cons _).cons _).cons _)) ?_|refine Yb (fun _=>Xh _ _) ?_|refine Yc (fun _=>Xh _ _) ?_|refine Yd (fun _=>Xh _ _) ?_|refine Ye (fun _=>Xh _ _) ?_|(refine uB ?_;intro b)|(refine uP ?_ ?_<;>(intro h;((try simp only [zs,zq,reduceCtorEq] at h);try exact zx)))|refine da 101 ?_|fail)
    refine fo 1 ?_
    refine gc (kd _ _) ?_
    rintro v L' ⟨c,hv2,rfl⟩
    repeat' (first|refine uN ?_|refine Z2 S ?_|refine Yp S ?_|(refine uB ?_;intro b)|(refine uP ?_ ?_<;>(intro h;((try simp only [zs,zq,reduceCtorEq] at h);try exact zx)))|refine da 101 ?_|fail)
    exact Z9 (L':=c::U3 lp aw capw _ c1 (Vo m2)::L) uL ⟨c,_,c1,hv2,hv1,rfl⟩
   ·have kch:=fun L hR=>Zcs aS pS (Xg m2) L hR (by omega)
    cases hch:(Yl (Xg m2)).2 with
    | true =>
     have ec:Yf m2=Zcu m2 (Yl (Xg m2)).1:=by unfold Yf;rw [if_neg n1,if_neg n2,if_neg (by omega),if_pos hch]
     have ec2:Xq m2 (hs++[f])=hs++[f]:=by unfold Xq;rw [if_neg n1,if_neg n2,if_neg (by omega),if_pos hch]
     rw [ec,ec2]
     rw [hch] at kch
     repeat' (first|refine uN ?_|refine Z2 S ?_|refine Yp S ?_|refine Wq (qC (kq _ (((hR.cons _).cons _).cons _))) ?_|refine Qr (qC (kq _ (((hR.cons _).cons _).cons _))) ?_|refine Wq (qC (kch _ (hRS _))) ?_|refine Qr (qC (kch _ (hRS _))) ?_|refine Yb (fun _=>kq _ (((hR.cons _).cons _).cons _)) ?_|refine Yc (fun _=>kq _ (((hR.cons _).cons _).cons _)) ?_|refine Yd (fun _=>kq _ (((hR.cons _).cons _).cons _)) ?_|refine Ye (fun _=>kq _ (((hR.cons _).cons _).cons _)) ?_|refine Yb (fun _=>kch _ (hRS _)) ?_|refine Yc (fun _=>kch _ (hRS _)) ?_|refine Yd (fun _=>kch _ (hRS _)) ?_|refine Ye (fun _=>kch _ (hRS _)) ?_|(refine uB ?_;intro b)|(refine uP ?_ ?_<;>(intro h;((try simp only [zs,zq,reduceCtorEq] at h);try exact zx)))|refine da 101 ?_|fail)
     refine fo 1 ?_
     refine gc (kd _ _) ?_
     rintro v L' ⟨c,hv2,rfl⟩
     repeat' (first|refine uN ?_|refine Z2 S ?_|refine Yp S ?_|(refine uB ?_;intro b)|(refine uP ?_ ?_<;>(intro h;((try simp only [zs,zq,reduceCtorEq] at h);try exact zx)))|refine da 101 ?_|fail)
     exact Z9 (L':=c::U3 lp aw capw _ c1 (Vo m2)::L) uL ⟨c,_,c1,hv2,hv1,rfl⟩
    | false =>
     have ec:Yf m2=Zlr m2 (Yl (Xg m2)).1:=by unfold Yf;rw [if_neg n1,if_neg n2,if_neg (by omega),if_neg (by rw [hch];decide)]
     have ec2:Xq m2 (hs++[f])=[]:=by unfold Xq;rw [if_neg n1,if_neg n2,if_neg (by omega),if_neg (by rw [hch];decide)]
     rw [ec,ec2]
     rw [hch] at kch
     repeat' (first|refine uN ?_|refine Z2 S ?_|refine Yp S ?_|refine Wq (qC (kq _ (((hR.cons _).cons _).cons _))) ?_|refine Qr (qC (kq _ (((hR.cons _).cons _).cons _))) ?_|refine Wq (qC (kch _ (hRS _))) ?_|refine Qr (qC (kch _ (hRS _))) ?_|refine Yb (fun _=>kq _ (((hR.cons _).cons _).cons _)) ?_|refine Yc (fun _=>kq _ (((hR.cons _).cons _).cons _)) ?_|refine Yd (fun _=>kq _ (((hR.cons _).cons _).cons _)) ?_|refine Ye (fun _=>kq _ (((hR.cons _).cons _).cons _)) ?_|refine Yb (fun _=>kch _ (hRS _)) ?_|refine Yc (fun _=>kch _ (hRS _)) ?_|refine Yd (fun _=>kch _ (hRS _)) ?_|refine Ye (fun _=>kch _ (hRS _)) ?_|(refine uB ?_;intro b)|(refine uP ?_ ?_<;>(intro h;((try simp only [zs,zq,reduceCtorEq] at h);try exact zx)))|refine da 101 ?_|fail)
     refine fo 1 ?_
     refine gc (kp _ _) ?_
     rintro v L' ⟨c,hv2,rfl⟩
     repeat' (first|refine uN ?_|refine Z2 S ?_|refine Yp S ?_|(refine uB ?_;intro b)|(refine uP ?_ ?_<;>(intro h;((try simp only [zs,zq,reduceCtorEq] at h);try exact zx)))|refine da 101 ?_|fail)
     exact Z9 (L':=c::U3 lp aw capw Ys [] (Qe m2 (Yl (Xg m2)).1)::L) uL ⟨c,Ys,[],hv2,Zv,rfl⟩
set_option maxHeartbeats 2000000 in
theorem Zva (lp:Nat) (aw:Option Addr) (capw:Nat) (hv:Value) (hc:List Zr) (m:Ld) (hs:List Fr) (f:Fr) (L:Zb) (hR:Rd ic 1 L aw m.w) (hck:Ym m.w=none) (hH:Z7 hv hs hc) (rel:RelH m hs) (hw:m.wait≠0) (hfit:X2 m f) (hy:f.yes=true) (hkd : ¬ f.kd=2) (hsn : ¬ m.seen<f.s.pr) :
  HC Tryz.prog 41 [pt lp 0,.agg ⟨fc f⟩] (U3 lp aw capw hv hc m::L) (fun v L' => ∃ c hv' hc',Z7 v (Zw m f).2 c∧Z7 hv' (Qd m hs f) hc'∧L'=c::U3 lp aw capw hv' hc' (Zw m f).1::L):=by
 have rel2:=rel.m2 hfit
 have hl2:=rel2.le7
 have hw72:=rel2.w7
 have e0:Q8 m f={ m with seen:=m.seen }:=by unfold Q8;rw [if_neg hkd,show max m.seen f.s.pr=m.seen by omega]
 have hm2:Qm m f={ m with seen:=m.seen,heard:=m.heard ||| 2 ^ f.fr.toNat,told:=m.told.set f.fr.toNat f.s }:=by unfold Qm;rw [e0]
 have eh:Zw m f=Yf (Qm m f):=by unfold Zw;rw [if_neg (fun h=>h.elim hw (fun h=>h hfit)),if_neg (by rw [hy];decide)]
 have eh2:Qd m hs f=Xq (Qm m f) (hs++[f]):=by unfold Qd;rw [if_neg (fun h=>h.elim hw (fun h=>h hfit)),if_neg (by rw [hy];decide)]
 rw [eh,eh2]
 have kf:=fun L=>Vs lp aw capw hv hc m hs f.fr L hH (by have:=rel.le7;have:=rel.w7;omega)
 rw [Zfn rel hfit.2.2.2.2.1 hfit.2.2.2.2.2.1,decide_eq_false (by have:=hfit.2.2.2.2.2.2;omega)] at kf
 have hf0:=hfit
 unfold X2 at hf0
 have hw7:=rel.w7
 have hl7:=rel.le7
 generalize hM:Qm m f=m2 at *
 have em : ∀ v' c',U3 lp aw capw v' c' m2=(lp,.cells ⟨Zz4 aw capw v' { m with seen:=m.seen }⟩ 93)::c':=fun v' c'=>by rw [hm2];rfl
 have ew:m2.w=m.w:=by rw [hm2]
 have ek:m2.wait=f.kd:=by rw [hm2];show m.wait=f.kd;omega
 have ep:m2.phase=m.phase:=by rw [hm2]
 refine Za (fun _ _=>Tryz.call41 _ _) Tryz.func41 rfl Tryz.ntmps41 (Nat.le_of_ble_eq_true rfl) ?_;simp only [Zd,Nat.reduceAdd]
 repeat apply Zjo
 apply Zbb
 refine wb (fun b3=>?_)
 repeat' (first|refine uN ?_|refine Z2 S ?_|refine Yp S ?_|refine Wq (qC (Yw kf 1)) ?_|refine Qr (qC (Yw kf 1)) ?_|refine Yb (fun _=>Yw kf 1) ?_|refine Yc (fun _=>Yw kf 1) ?_|refine Yd (fun _=>Yw kf 1) ?_|refine Ye (fun _=>Yw kf 1) ?_|(refine uB ?_;intro b)|(refine uP ?_ ?_<;>(intro h;((try simp only [zs,zq,reduceCtorEq] at h);try exact zx)))|refine da 101 ?_|fail)
 all_goals (try exact absurd ((by assumption:f.yes=false).symm.trans hy) (by decide))
 refine fo 3 ?_
 refine ho_rl ?_
 refine Zce S f hH Zl Wr ?_
 intro v1 c1 hv1
 obtain ⟨a1,p1,rfl,-,-⟩:=Vec.rd hv1 Zl
 repeat' (first|refine uN ?_|refine Z2 S ?_|refine Yp S ?_|(refine uB ?_;intro b)|(refine uP ?_ ?_<;>(intro h;((try simp only [zs,zq,reduceCtorEq] at h);try exact zx)))|refine da 101 ?_|fail)
 refine W6 (L':=c1::[(lp,.cells ⟨Zz4 aw capw (.slice a1 (hs++[f]).length p1) { m with seen:=m.seen }⟩ 93)]::[]::[(b3,.cells ⟨fc f⟩ 97)]::L) ?_ uL
 refine hw_lr ?_
 rw [← em]
 generalize hvv:Value.slice a1 (hs++[f]).length p1=v1 at *
 have kf2:=fun i L=>Vs lp aw capw v1 c1 m2 (hs++[f]) i L hv1 (by omega)
 refine W6 (L':=[]::U3 lp aw capw v1 c1 m2::[(b3,.cells ⟨fc f⟩ 97)]::L) ?_ uL
 refine Zp (σ:=Nat × Value × List Zr) (fun q=>[(0,pt lp 0),(3,pt b3 0),(8,iv ((m2.heard % 2 ^ q.1:Nat):Int)),(9,q.2.1),(10,iv q.1)]) (fun q=>q.2.2::U3 lp aw capw v1 c1 m2::[(b3,.cells ⟨fc f⟩ 97)]::L) (fun q=>q.1≤m2.w.length∧Vec 69 3 sc q.2.1 ((List.range q.1).flatMap (Wt m2)) q.2.2) (fun q=>m2.w.length-q.1) (0,Ys,[]) ?_ (List.Sublist.refl _) ⟨by simp,Zv⟩ ?_
 ·simp only [Nat.pow_zero,Nat.mod_one]
  exact uS
 rintro ⟨i,vS,cS⟩ ⟨hi,hS⟩
 simp only at hi hS ⊢
 have hle:=Wk (Wt m2) (Zb9 m2) i
 have hms:=Zj5 m2.heard i
 have hmlt:m2.heard % 2 ^ i<2 ^ i:=Nat.mod_lt _ (Nat.two_pow_pos i)
 by_cases hlt:i<m2.w.length
 ·have kt:=fun L=>Zbm i (by omega) L
  have et:(2:Int) ^ i=((2 ^ i:Nat):Int):=by simp
  rw [et] at kt
  have hp7:2 ^ i≤128:=by
   have:=Nat.pow_le_pow_right (n:=2) (by decide) (show i≤7 by omega)
   simpa using this
  have hbi:=rel2.bit i hlt
  by_cases hb:m2.heard / 2 ^ i % 2=1
  ·obtain ⟨g,hg⟩:=Option.isSome_iff_exists.1 (hbi.1 hb)
   have hgs:=rel2.told i hlt g hg
   have kfi:=fun L=>kf2 i L
   rw [hg] at kfi
   have e1:Wt m2 i=[g.s]:=by unfold Wt;rw [if_pos hb,hgs]
   have e2:(List.range (i+1)).flatMap (Wt m2)=(List.range i).flatMap (Wt m2)++[g.s]:=by rw [Wn,e1]
   rw [hb,Nat.mul_one] at hms
   generalize 2 ^ i=z at *
   simp only [Option.getD_some,Option.isSome_some] at kfi
   repeat' (first|refine uN ?_|refine Z2 S ?_|refine Yp S ?_|refine Wq (qC (Yw kfi 1)) ?_|refine Qr (qC (Yw kfi 1)) ?_|refine uC (kt _) ?_|refine Yb (fun _=>Yw kfi 1) ?_|refine Yc (fun _=>Yw kfi 1) ?_|refine Yd (fun _=>Yw kfi 1) ?_|refine Ye (fun _=>Yw kfi 1) ?_|refine Yb (fun _=>kt _) ?_|refine Yc (fun _=>kt _) ?_|refine Yd (fun _=>kt _) ?_|refine Ye (fun _=>kt _) ?_|(refine uB ?_;intro b)|(refine uP ?_ ?_<;>(intro h;((try simp only [zs,zq,reduceCtorEq] at h);try exact zx)))|refine da 101 ?_|fail)
   refine fo 2 ?_
   refine Zce S g.s hS Zao Zpg ?_
   intro v' c' hv'
   rw [← e2] at hv'
   repeat' (first|refine uN ?_|refine Z2 S ?_|refine Yp S ?_|(refine uB ?_;intro b)|(refine uP ?_ ?_<;>(intro h;((try simp only [zs,zq,reduceCtorEq] at h);try exact zx)))|refine da 101 ?_|fail)
   refine Zg (i+1,v',c') ?_ uL ⟨by simp only;omega,hv'⟩ (by simp only;omega)
   simp only
   rw [hms,Int.natCast_add]
   exact uS
  ·have hno:W5 (hs++[f]) i=none:=by
    cases hq:W5 (hs++[f]) i with
    | none=>rfl
    | some g=>exact absurd (hbi.2 (by rw [hq];rfl)) hb
   have kfi:=fun L=>kf2 i L
   rw [hno] at kfi
   have e1:Wt m2 i=[]:=by unfold Wt;rw [if_neg hb]
   have e2:(List.range (i+1)).flatMap (Wt m2)=(List.range i).flatMap (Wt m2):=by rw [Wn,e1,List.append_nil]
   rw [show m2.heard / 2 ^ i % 2=0 by omega,Nat.mul_zero,Nat.add_zero] at hms
   simp only [Option.getD_none,Option.isSome_none] at kfi
   repeat' (first|refine uN ?_|refine Z2 S ?_|refine Yp S ?_|refine Wq (qC (Yw kfi 1)) ?_|refine Qr (qC (Yw kfi 1)) ?_|refine uC (kt _) ?_|refine Yb (fun _=>Yw kfi 1) ?_|refine Yc (fun _=>Yw kfi 1) ?_|refine Yd (fun _=>Yw kfi 1) ?_|refine Ye (fun _=>Yw kfi 1) ?_|refine Yb (fun _=>kt _) ?_|refine Yc (fun _=>kt _) ?_|refine Yd (fun _=>kt _) ?_|refine Ye (fun _=>kt _) ?_|(refine uB ?_;intro b)|(refine uP ?_ ?_<;>(intro h;((try simp only [zs,zq,reduceCtorEq] at h);try exact zx)))|refine da 101 ?_|fail)
   refine Zg (i+1,vS,cS) ?_ uL ⟨by simp only;omega,by simp only;rw [e2];exact hS⟩ (by simp only;omega)
   simp only
   rw [hms]
   exact uS
 ·obtain rfl:i=m2.w.length:=by omega
  subst hvv
  have hmod:m2.heard % 2 ^ m2.w.length=m2.heard:=Nat.mod_eq_of_lt rel2.lt
  obtain ⟨c1w,c2w,c3w,c4w⟩:=Vn hck
  rw [← ew] at hck c3w
  rw [← ew] at hR
  have kq:=fun L hR=>Zef aw capw m2.w m2.heard L hR hw72 c3w (by have:=Nat.lt_of_lt_of_le rel2.lt (Nat.pow_le_pow_right (n:=2) (by decide) hw72);omega)
  have hen:=en_ok hck rel2.lt
  rw [hmod]
  obtain ⟨aS,pS,rfl,hpS,hRS⟩:=Vec.rd hS Zao
  have hsl:=Wk (Wt m2) (Zb9 m2) m2.w.length
  have est:(List.range m2.w.length).flatMap (Wt m2)=Xg m2:=rfl
  rw [est] at hRS hsl hS ⊢
  cases hq:Zu3 m2.w m2.heard with
  | false =>
   have ec:Yf m2=(m2,[]):=by unfold Yf;rw [if_neg (fun h=>hkd (ek▸h.1)),if_pos (.inr (by rw [hen,hq]))]
   have ec2:Xq m2 (hs++[f])=hs++[f]:=by unfold Xq;rw [if_neg (fun h=>hkd (ek▸h.1)),if_pos (.inr (by rw [hen,hq]))]
   rw [ec,ec2]
   rw [hq] at kq
   repeat' (first|refine uN ?_|refine Z2 S ?_|refine Yp S ?_|refine Wq (qC (kq _ (((hR.cons _).cons _).cons _))) ?_|refine Qr (qC (kq _ (((hR.cons _).cons _).cons _))) ?_|refine Yb (fun _=>kq _ (((hR.cons _).cons _).cons _)) ?_|refine Yc (fun _=>kq _ (((hR.cons _).cons _).cons _)) ?_|refine Yd (fun _=>kq _ (((hR.cons _).cons _).cons _)) ?_|refine Ye (fun _=>kq _ (((hR.cons _).cons _).cons _)) ?_|(refine uB ?_;intro b)|(refine uP ?_ ?_<;>(intro h;((try simp only [zs,zq,reduceCtorEq] at h);try exact zx)))|refine da 101 ?_|fail)
   exact Z9 (L':=[]::U3 lp aw capw _ c1 m2::L) uL ⟨[],_,c1,Zv,hv1,rfl⟩
  | true =>
   rw [hq] at kq
   have n1 : ¬ (m2.wait=2∧m2.heard=2 ^ m2.w.length-1):=fun h=>hkd (ek▸h.1)
   have n2 : ¬ (m2.wait=2∨(Xv m2.w m2.heard).1=false):=fun h=>h.elim (fun h=>hkd (ek▸h)) (fun h=>by rw [hen,hq] at h;cases h)
   have kd:=fun p L=>Za1 lp aw capw (.slice a1 (hs++[f]).length p1) c1 m2 p L (by omega)
   have kp:=fun p L=>Zam lp aw capw (.slice a1 (hs++[f]).length p1) c1 m2 (hs++[f]) p L (by omega) hv1
   by_cases h6:f.kd=6
   ·have ec:Yf m2=Zcu m2 (Vm m2.phase):=by unfold Yf;rw [if_neg n1,if_neg n2,if_pos (by omega)]
    have ec2:Xq m2 (hs++[f])=hs++[f]:=by unfold Xq;rw [if_neg n1,if_neg n2,if_pos (by omega)]
    rw [ec,ec2]
    repeat' (first|refine uN ?_|refine Z2 S ?_|refine Yp S ?_|refine Wq (qC (kq _ (((hR.cons _).cons _).cons _))) ?_|refine Qr (qC (kq _ (((hR.cons _).cons _).cons _))) ?_|refine uC (Xh _ _) ?_|refine Yb (fun _=>kq _ (((hR.cons _).cons _).cons _)) ?_|refine Yc (fun _=>kq _ (((hR.cons _).cons _).cons _)) ?_|refine Yd (fun _=>kq _ (((hR.cons _).cons _).cons _)) ?_|refine Ye (fun _=>kq _ (((hR.cons _).cons _).cons _)) ?_|refine Yb (fun _=>Xh _ _) ?_|refine Yc (fun _=>Xh _ _) ?_|refine Yd (fun _=>Xh _ _) ?_|refine Ye (fun _=>Xh _ _) ?_|(refine uB ?_;intro b)|(refine uP ?_ ?_<;>(intro h;((try simp only [zs,zq,reduceCtorEq] at h);try exact zx)))|refine da 101 ?_|fail)
    refine fo 1 ?_
    refine gc (kd _ _) ?_
    rintro v L' ⟨c,hv2,rfl⟩
    repeat' (first|refine uN ?_|refine Z2 S ?_|refine Yp S ?_|(refine uB ?_;intro b)|(refine uP ?_ ?_<;>(intro h;((try simp only [zs,zq,reduceCtorEq] at h);try exact zx)))|refine da 101 ?_|fail)
    exact Z9 (L':=c::U3 lp aw capw _ c1 (Vo m2)::L) uL ⟨c,_,c1,hv2,hv1,rfl⟩
   ·have kch:=fun L hR=>Zcs aS pS (Xg m2) L hR (by omega)
    cases hch:(Yl (Xg m2)).2 with
    | true =>
     have ec:Yf m2=Zcu m2 (Yl (Xg m2)).1:=by unfold Yf;rw [if_neg n1,if_neg n2,if_neg (by omega),if_pos hch]
     have ec2:Xq m2 (hs++[f])=hs++[f]:=by unfold Xq;rw [if_neg n1,if_neg n2,if_neg (by omega),if_pos hch]
     rw [ec,ec2]
     rw [hch] at kch
     repeat' (first|refine uN ?_|refine Z2 S ?_|refine Yp S ?_|refine Wq (qC (kq _ (((hR.cons _).cons _).cons _))) ?_|refine Qr (qC (kq _ (((hR.cons _).cons _).cons _))) ?_|refine Wq (qC (kch _ (hRS _))) ?_|refine Qr (qC (kch _ (hRS _))) ?_|refine Yb (fun _=>kq _ (((hR.cons _).cons _).cons _)) ?_|refine Yc (fun _=>kq _ (((hR.cons _).cons _).cons _)) ?_|refine Yd (fun _=>kq _ (((hR.cons _).cons _).cons _)) ?_|refine Ye (fun _=>kq _ (((hR.cons _).cons _).cons _)) ?_|refine Yb (fun _=>kch _ (hRS _)) ?_|refine Yc (fun _=>kch _ (hRS _)) ?_|refine Yd (fun _=>kch _ (hRS _)) ?_|refine Ye (fun _=>kch _ (hRS _)) ?_|(refine uB ?_;intro b)|(refine uP ?_ ?_<;>(intro h;((try simp only [zs,zq,reduceCtorEq] at h);try exact zx)))|refine da 101 ?_|fail)
     refine fo 1 ?_
     refine gc (kd _ _) ?_
     rintro v L' ⟨c,hv2,rfl⟩
     repeat' (first|refine uN ?_|refine Z2 S ?_|refine Yp S ?_|(refine uB ?_;intro b)|(refine uP ?_ ?_<;>(intro h;((try simp only [zs,zq,reduceCtorEq] at h);try exact zx)))|refine da 101 ?_|fail)
     exact Z9 (L':=c::U3 lp aw capw _ c1 (Vo m2)::L) uL ⟨c,_,c1,hv2,hv1,rfl⟩
    | false =>
     have ec:Yf m2=Zlr m2 (Yl (Xg m2)).1:=by unfold Yf;rw [if_neg n1,if_neg n2,if_neg (by omega),if_neg (by rw [hch];decide)]
     have ec2:Xq m2 (hs++[f])=[]:=by unfold Xq;rw [if_neg n1,if_neg n2,if_neg (by omega),if_neg (by rw [hch];decide)]
     rw [ec,ec2]
     rw [hch] at kch
     repeat' (first|refine uN ?_|refine Z2 S ?_|refine Yp S ?_|refine Wq (qC (kq _ (((hR.cons _).cons _).cons _))) ?_|refine Qr (qC (kq _ (((hR.cons _).cons _).cons _))) ?_|refine Wq (qC (kch _ (hRS _))) ?_|refine Qr (qC (kch _ (hRS _))) ?_|refine Yb (fun _=>kq _ (((hR.cons _).cons _).cons _)) ?_|refine Yc (fun _=>kq _ (((hR.cons _).cons _).cons _)) ?_|refine Yd (fun _=>kq _ (((hR.cons _).cons _).cons _)) ?_|refine Ye (fun _=>kq _ (((hR.cons _).cons _).cons _)) ?_|refine Yb (fun _=>kch _ (hRS _)) ?_|refine Yc (fun _=>kch _ (hRS _)) ?_|refine Yd (fun _=>kch _ (hRS _)) ?_|refine Ye (fun _=>kch _ (hRS _)) ?_|(refine uB ?_;intro b)|(refine uP ?_ ?_<;>(intro h;((try simp only [zs,zq,reduceCtorEq] at h);try exact zx)))|refine da 101 ?_|fail)
     refine fo 1 ?_
     refine gc (kp _ _) ?_
     rintro v L' ⟨c,hv2,rfl⟩
     repeat' (first|refine uN ?_|refine Z2 S ?_|refine Yp S ?_|(refine uB ?_;intro b)|(refine uP ?_ ?_<;>(intro h;((try simp only [zs,zq,reduceCtorEq] at h);try exact zx)))|refine da 101 ?_|fail)
     exact Z9 (L':=c::U3 lp aw capw Ys [] (Qe m2 (Yl (Xg m2)).1)::L) uL ⟨c,Ys,[],hv2,Zv,rfl⟩
end Go.HL
end

/-! ErD2 -/
section
namespace Go.HL
open Go Go.Proofs
set_option maxHeartbeats 2000000 attribute [local irreducible] HW HO HQ HD HC QOp Has Upd Zt Gets Z8 Z0 Zo Xm Zz Zj Xp Zy
end Go.HL
end

/-! RlF -/
section
namespace Go.HL
open Go Go.Proofs
theorem Zho (lp:Nat) (aw:Option Addr) (capw:Nat) (hv:Value) (hc:List Zr) (m:Ld) (hs:List Fr) (f:Fr) (L:Zb) (hR:Rd ic 1 L aw m.w) (hck:Ym m.w=none) (hH:Z7 hv hs hc) (rel:RelH m hs) :
  HC Tryz.prog 41 [pt lp 0,.agg ⟨fc f⟩] (U3 lp aw capw hv hc m::L) (fun v L' => ∃ c hv' hc',Z7 v (Zw m f).2 c∧Z7 hv' (Qd m hs f) hc'∧L'=c::U3 lp aw capw hv' hc' (Zw m f).1::L):=by
 by_cases hq:m.wait=0 ∨ ¬ X2 m f∨f.yes=false
 ·exact Zse lp aw capw hv hc m hs f L hR hck hH rel hq
 ·have hw:m.wait≠0:=fun h=>hq (.inl h)
  have hfit:X2 m f:=Decidable.not_not.1 fun h=>hq (.inr (.inl h))
  have hy:f.yes=true:=by
   cases h:f.yes with
   | true=>rfl
   | false=>exact absurd (.inr (.inr h)) hq
  by_cases hk:f.kd=2
  ·exact Zvb lp aw capw hv hc m hs f L hR hck hH rel hw hfit hy hk
  ·by_cases hs':m.seen<f.s.pr
   ·exact Zu9 lp aw capw hv hc m hs f L hR hck hH rel hw hfit hy hk hs'
   ·exact Zva lp aw capw hv hc m hs f L hR hck hH rel hw hfit hy hk hs'
theorem Zeo (ws:List Int):Zz3 (Ym ws):=by
 unfold Ym
 split
 ·exact rfl
 ·split
  ·exact rfl
  ·split
   ·exact rfl
   ·trivial
theorem okE_pos {e:Nat} (h:Zz3 (some e)):1≤e:=by
 cases e with
 | zero=>exact absurd (show List.elem 0 all9=true from h) (by decide)
 | succ n=>omega
set_option maxHeartbeats 2000000 attribute [local irreducible] HW HO HQ HD HC QOp Has Upd Zt Gets Z8 Z0 Zo Xm Zz Zj Xp Zy
def Zk9 (att:Int):Int:=if att=0 then 2 else 4
theorem Zak (id deal:Int) (a:Option Addr) (cap:Nat) (w:List Int) (att:Int) (L:Zb):HC Tryz.prog 35 [iv id,iv deal,.slice a w.length cap,iv att] L (fun v L' => ∃ lp,v=pt lp 0∧L'=U3 lp a cap Ys [] (Zi id deal w att (Zk9 att))::L):=by
 unfold Zk9
 refine Za (fun _ _=>Tryz.call35 _ _) Tryz.func35 rfl Tryz.ntmps35 (Nat.le_of_ble_eq_true rfl) ?_;simp only [Zd,Nat.reduceAdd]
 repeat' (first|refine uN ?_|(refine uB ?_;intro b)|(refine uP ?_ ?_<;>(intro h;((try simp only [zs,zq,reduceCtorEq] at h);try exact zx)))|fail)
 ·rw [if_pos h]
  exact Z9 (LS.refl _) ⟨b,rfl,rfl⟩
 ·rw [if_neg h]
  exact Z9 (LS.refl _) ⟨b,rfl,rfl⟩
end Go.HL
end

/-! WrB -/
section
namespace Go.HL
open Go Go.Proofs
def yesN (b:Bool):Int:=if b then 1 else 0
def encA (f:Fr):List UInt8:=Xn f.fr 1++Xn f.to 1++Xn f.dl 1++Xn f.kd 1++Xn f.att 4
def encB (f:Fr):List UInt8:=Xn (yesN f.yes) 1++Xn f.s.ph 1++Xn f.s.pr 4++Xn f.s.att 4
def cdF:Option Nat→Int
 | none=>0
 | some c=>c
def Zcx (s:List UInt8) (a b:Nat):Int:=(Zat ((s.take b).drop a):Nat)
set_option maxHeartbeats 2000000 attribute [local irreducible] HW HO HQ HD HC QOp Has Upd Zt Gets Z8 Z0 Zo Xm Zz Zj Xp Zy
attribute [local irreducible] Xn Zpw encA encB
theorem Zsd (f:Fr) (L:Zb):HC Tryz.prog 124 [.agg ⟨fc f⟩] L (fun v L'=>v=iv (cdF (Zgm f))∧L'=L):=by
 unfold Zgm
 refine Za (fun _ _=>Tryz.call124 _ _) Tryz.func124 rfl Tryz.ntmps124 (Nat.le_of_ble_eq_true rfl) ?_;simp only [Zd,Nat.reduceAdd]
 by_cases hb:X5 f
 ·rw [if_pos hb]
  repeat' (first|refine uN ?_|(refine uB ?_;intro b)|(refine uP ?_ ?_<;>(intro h;((try simp only [zs,zq,reduceCtorEq] at h);try exact zx)))|fail)
  all_goals first|exact Z9 uZ ⟨rfl,rfl⟩|(exfalso;unfold X5 at hb;omega)
 ·rw [if_neg hb]
  repeat' (first|refine uN ?_|(refine uB ?_;intro b)|(refine uP ?_ ?_<;>(intro h;((try simp only [zs,zq,reduceCtorEq] at h);try exact zx)))|fail)
  all_goals first|exact Z9 uZ ⟨rfl,rfl⟩|(exfalso;unfold X5 at hb;omega)
end Go.HL
end

/-! WrC -/
section
namespace Go.HL
open Go Go.Proofs
theorem put_st (x0 x1 x2 x3 x4 x5 a b c u v w:Value):Zt [x0,x1,x2,x3,x4,x5,a,b,c] (0+6) [u,v,w] [x0,x1,x2,x3,x4,x5,u,v,w]:=⟨rfl,by simp⟩
set_option maxHeartbeats 2000000 attribute [local irreducible] HW HO HQ HD HC QOp Has Upd Zt Gets Z8 Z0 Zo Xm Zz Zj Xp Zy
attribute [local irreducible] Xn Zpw encA encB lowB Zat
end Go.HL
end

/-! WrD -/
section
namespace Go.HL
open Go Go.Proofs
theorem map_getW {α:Type} {enc:α→Value} {xs:List α} {k:Nat} {x:α} (h:xs[k]? = some x):(xs.map enc)[0+(k:Int).toNat]? = some (enc x):=by simp [h]
theorem fld_same (s:List UInt8) (a:Nat):Zcx s a a=0:=by
 unfold Zcx
 rw [List.drop_eq_nil_of_le (by simp;omega)];rfl
theorem fld_snoc {s:List UInt8} {a k:Nat} (h:a≤k) (hk:k<s.length):Zcx s a (k+1)=256*Zcx s a k+((s.getD k 0).toNat:Nat):=by
 unfold Zcx
 rw [List.take_succ_eq_append_getElem hk,List.drop_append_of_le_length (by simp;omega),Zkk]
 simp [List.getD,hk]
 omega
theorem Zjj {s:List UInt8} {a k:Nat} (h:k≤a+4):0≤Zcx s a k∧Zcx s a k<4294967296:=by
 unfold Zcx
 have h1:=Zo2 ((s.take k).drop a)
 have h2:((s.take k).drop a).length≤4:=by simp;omega
 have h3:256 ^ ((s.take k).drop a).length≤256 ^ 4:=Nat.pow_le_pow_right (by decide) h2
 omega
set_option maxHeartbeats 2000000 attribute [local irreducible] HW HO HQ HD HC QOp Has Upd Zt Gets Z8 Z0 Zo Xm Zz Zj Xp Zy
attribute [local irreducible] Xn Zpw encA encB lowB Zat Zcx
end Go.HL
end

/-! JaA -/
section
namespace Go.HL
open Go Go.Proofs
def ends4:List Int:=[4,5,9,13]
def Zte:Nat→Nat
 | 0=>4|1=>5|2=>9|_=>13
def Zv5:Nat→Nat
 | 0=>0
 | i+1=>Zte i
theorem en4_get {i:Nat} (h:i<4):ends4[i]? = some (Zte i:Int):=by
 have : ∀ i,i<4→ends4[i]? = some (Zte i:Int):=by decide
 exact this i h
theorem en4_fact {i:Nat} (h:i<4):Zv5 i≤Zte i∧Zte i≤13∧Zte i≤Zv5 i+4:=by
 have : ∀ i,i<4→Zv5 i≤Zte i∧Zte i≤13∧Zte i≤Zv5 i+4:=by decide
 exact this i h
def Zvp (s:List UInt8) (i:Nat):List Int:=(List.range i).map fun q=>Zcx s (Zv5 q) (Zte q)
theorem Zzt (s:List UInt8) (i:Nat):Zvp s (i+1)=Zvp s i++[Zcx s (Zv5 i) (Zte i)]:=by
 unfold Zvp
 rw [List.range_succ,List.map_append];rfl
theorem Zk8 (s:List UInt8) (i:Nat):(Zvp s i).length=i:=by simp [Zvp]
theorem Zy2 (s:List UInt8):Zc7 s=⟨Zcx s 0 4,Zcx s 4 5,Zcx s 5 9,Zcx s 9 13⟩:=rfl
theorem slot_cut (b:List UInt8) (i:Nat):(b.take (((i:Int)+1)*18).toNat).drop ((i:Int)*18).toNat=Xe b i:=by
 unfold Xe
 rw [List.drop_take,show ((i:Int)*18).toNat=i*18 by omega,show (((i:Int)+1)*18).toNat-i*18=18 by omega]
theorem upd_zero (k:Int) (s:List UInt8) (hs:4≤s.length):Uk Zm (Y5 k s)=Y5 k s:=by
 unfold Uk
 split
 ·rfl
 ·rename_i h
  have hn:=Zig k s hs
  have h0:(Y5 k s).n=0:=by simp only [Zm] at h;omega
  rw [Qq] at h0 ⊢
  split
  ·rfl
  ·rename_i hc
   rw [if_neg hc] at h0
   omega
theorem deal_two {b:List UInt8} {d:Nat} (hd:d<6) (hl:216≤b.length):Xc b d=if (Y5 0 (Xe b (2*d))).n<(Y5 1 (Xe b (2*d+1))).n then Y5 1 (Xe b (2*d+1)) else Y5 0 (Xe b (2*d)):=by
 unfold Xc
 simp only [Vj]
 rw [show ((0:Nat):Int)=0 from rfl,show ((1:Nat):Int)=1 from rfl,Nat.add_zero,upd_zero _ _ (by rw [Zbi _ _ (by omega) hl];decide)]
 rfl
set_option maxHeartbeats 2000000 attribute [local irreducible] HW HO HQ HD HC QOp Has Upd Zt Gets Z8 Z0 Zo Xm Zz Zj Xp Zy
attribute [local irreducible] Xn Zpw encA encB lowB Zat Zcx
theorem Zhm (e:Ent) (L:Zb) (h0:0≤e.n∧e.n≤9223372036854775807) (h1:0≤e.s.ph∧e.s.ph≤9223372036854775807) (h2:0≤e.s.pr∧e.s.pr≤9223372036854775807) (h3:0≤e.s.att∧e.s.att≤9223372036854775807):HC Tryz.prog 128 [iv e.n,.agg ⟨sc e.s⟩] L (fun v L'=>v=bs (Y2 e)∧L'=L):=by
 have k1:=fun L=>Qw e.n 4 L h0.1 h0.2 (by decide)
 have k2:=fun L=>Qw e.s.ph 1 L h1.1 h1.2 (by decide)
 have k3:=fun L=>Qw e.s.pr 4 L h2.1 h2.2 (by decide)
 have k4:=fun L=>Qw e.s.att 4 L h3.1 h3.2 (by decide)
 have hcl:Zpw (head e)<4294967296:=by unfold Zpw;omega
 have k5:=fun L=>Qw (Zpw (head e)) 4 L (by omega) (by omega) (by decide)
 have hh:(head e).length=13:=by simp [head,Y6]
 have k6:=fun L=>Zu5 (head e) L (by omega)
 have n1:=Y6 e.n 4
 have n2:=Y6 e.s.ph 1
 have n3:=Y6 e.s.pr 4
 have n4:=Y6 e.s.att 4
 have n5:=Y6 (Zpw (head e)) 4
 have e1:Xn e.n 4++Xn e.s.ph 1++Xn e.s.pr 4++Xn e.s.att 4=head e:=rfl
 refine Za (fun _ _=>Tryz.call128 _ _) Tryz.func128 rfl Tryz.ntmps128 (Nat.le_of_ble_eq_true rfl) ?_;simp only [Zd,Nat.reduceAdd]
 repeat' (first|refine uN ?_|refine Z2 S ?_|refine uC (k1 _) ?_|refine uC (k2 _) ?_|refine uC (k3 _) ?_|refine uC (k4 _) ?_|(refine uB ?_;intro b)|fail)
 rw [e1]
 repeat' (first|refine uN ?_|refine Z2 S ?_|refine uC (k5 _) ?_|refine uC (k6 _) ?_|(refine uB ?_;intro b)|fail)
 exact Z9 (L':=L) uL ⟨rfl,rfl⟩
theorem Zhp (bb:List UInt8) (i:Nat) (L:Zb) (hi:i<12) (hl:216≤bb.length) (hh:bb.length≤1000000):HC Tryz.prog 68 [bs bb,iv i] L (fun v L'=>v = .tuple ⟨[iv (Y5 ((i:Int) % 2) (Xe bb i)).n,.agg ⟨sc (Y5 ((i:Int) % 2) (Xe bb i)).s⟩]⟩∧L'=L):=by
 have hs:=Zbi bb i hi hl
 have hc:=slot_cut bb i
 rw [Qq,Zy2]
 refine Za (fun _ _=>Tryz.call68 _ _) Tryz.func68 rfl Tryz.ntmps68 (Nat.le_of_ble_eq_true rfl) ?_;simp only [Zd,Nat.reduceAdd]
 repeat' (first|refine uN ?_|refine Z2 S ?_|refine Yp S ?_|(refine uB ?_;intro b)|(refine uP ?_ ?_<;>(intro h;((try simp only [zs,zq,reduceCtorEq] at h);try exact zx)))|refine da 101 ?_|fail)
 rw [hc]
 generalize Xe bb i=s at *
 rename_i bR
 generalize b=bE
 refine W6 (L':=[]::[(bE,.cells ⟨ends4.map iv⟩ 3)]::[(bR,.cells ⟨sc ⟨0,0,0⟩⟩ 69)]::L) ?_ uL
 refine Zp (σ:=Nat × Value × List Zr) (fun q=>[(1,iv i),(5,pt bR 0),(6,bs s),(7,q.2.1),(8,sl bE 0 4 4),(9,iv (Zv5 q.1)),(10,iv q.1)]) (fun q=>q.2.2::[(bE,.cells ⟨ends4.map iv⟩ 3)]::[(bR,.cells ⟨sc ⟨0,0,0⟩⟩ 69)]::L) (fun q=>q.1≤4∧Vec 3 1 ic q.2.1 (Zvp s q.1) q.2.2) (fun q=>4-q.1) (0,Ys,[]) uS (List.Sublist.refl _) ⟨by simp,Zv⟩ ?_
 rintro ⟨i4,v,c⟩ ⟨hi4,hv⟩
 simp only at hi4 hv ⊢
 by_cases hlt:i4<4
 ·obtain ⟨f1,f2,f3⟩:=en4_fact hlt
  have ge:=map_getW (enc:=iv) (en4_get hlt)
  repeat' (first|refine uN ?_|refine Zu S ?_|(refine uB ?_;intro b)|(refine uP ?_ ?_<;>(intro h;((try simp only [zs,zq,reduceCtorEq] at h);try exact zx)))|refine da 101 ?_|fail)
  have e0:(Value.int .i64 0)=iv (Zcx s (Zv5 i4) (Zv5 i4)):=by rw [fld_same]
  rw [e0]
  refine Zp (σ:=Nat) (fun k=>[(1,iv i),(5,pt bR 0),(6,bs s),(7,v),(8,sl bE 0 4 4),(9,iv k),(10,iv i4),(11,iv (Zcx s (Zv5 i4) k))]) (fun _=>c::[(bE,.cells ⟨ends4.map iv⟩ 3)]::[(bR,.cells ⟨sc ⟨0,0,0⟩⟩ 69)]::L) (fun k=>Zv5 i4≤k∧k≤Zte i4) (fun k=>Zte i4-k) (Zv5 i4) uS (List.Sublist.refl _) ⟨Nat.le_refl _,f1⟩ ?_
  rintro k ⟨k3,k4⟩
  have hfl:=Zjj (s:=s) (a:=Zv5 i4) (k:=k) (by omega)
  by_cases hk:k<Zte i4
  ·have hb2:=(s.getD (k:Int).toNat 0).toNat_lt
   have hsn:=fld_snoc (s:=s) k3 (show k<s.length by omega)
   have ek:s.getD (k:Int).toNat 0=s.getD k 0:=rfl
   repeat' (first|refine uN ?_|refine Zu S ?_|(refine uB ?_;intro b)|(refine uP ?_ ?_<;>(intro h;((try simp only [zs,zq,reduceCtorEq] at h);try exact zx)))|refine da 101 ?_|fail)
   rw [ek,← hsn]
   exact Zg (k+1) uS uL ⟨by omega,by omega⟩ (by omega)
  ·have hke:k=Zte i4:=by omega
   subst hke
   have hvl:=Zk8 s i4
   repeat' (first|refine uN ?_|refine Zu S ?_|(refine uB ?_;intro b)|(refine uP ?_ ?_<;>(intro h;((try simp only [zs,zq,reduceCtorEq] at h);try exact zx)))|refine da 101 ?_|fail)
   refine fo 1 ?_
   refine Zce S (Zcx s (Zv5 i4) (Zte i4)) hv (fun _=>rfl) (fun _=>rfl) ?_
   intro v' c' hv'
   rw [← Zzt] at hv'
   repeat' (first|refine uN ?_|refine Zu S ?_|(refine uB ?_;intro b)|(refine uP ?_ ?_<;>(intro h;((try simp only [zs,zq,reduceCtorEq] at h);try exact zx)))|refine da 101 ?_|fail)
   exact Zg (i4+1,v',c') uS uL ⟨by simp only;omega,hv'⟩ (by simp only;omega)
 ·have hi9:i4=4:=by omega
  subst hi9
  rcases hv with ⟨rfl,h0,-,rfl⟩|⟨bv,capv,spv,rfl,rfl,hcs,hle,hall⟩
  ·simp [Zk8] at h0
  have ev:(List.map ic (Zvp s 4)).flatten++spv=[iv (Zcx s 0 4),iv (Zcx s 4 5),iv (Zcx s 5 9),iv (Zcx s 9 13)]++spv:=rfl
  rw [ev,Zk8]
  have u0:=Zjj (s:=s) (a:=0) (k:=4) (by omega)
  have u1:=Zjj (s:=s) (a:=4) (k:=5) (by omega)
  have u2:=Zjj (s:=s) (a:=5) (k:=9) (by omega)
  have u3:=Zjj (s:=s) (a:=9) (k:=13) (by omega)
  have kb:=fun L=>Zhm ⟨Zcx s 0 4,⟨Zcx s 4 5,Zcx s 5 9,Zcx s 9 13⟩⟩ L ⟨u0.1,by simp only;omega⟩ ⟨u1.1,by simp only;omega⟩ ⟨u2.1,by simp only;omega⟩ ⟨u3.1,by simp only;omega⟩
  have hbl:=Q9 ⟨Zcx s 0 4,⟨Zcx s 4 5,Zcx s 5 9,Zcx s 9 13⟩⟩
  generalize Zcx s 0 4=x0 at *
  generalize Zcx s 4 5=x1 at *
  generalize Zcx s 5 9=x2 at *
  generalize Zcx s 9 13=x3 at *
  have kt:=fun L=>Qt 165 L
  rw [show bt 165 0=165 by decide +kernel] at kt
  repeat' (first|refine uN ?_|refine Z2 S ?_|refine Yp S ?_|refine uC (kb _) ?_|refine uC (kt _) ?_|refine Yb (fun _=>kb _) ?_|refine Yc (fun _=>kb _) ?_|refine Yd (fun _=>kb _) ?_|refine Ye (fun _=>kb _) ?_|refine Yb (fun _=>kt _) ?_|refine Yc (fun _=>kt _) ?_|refine Yd (fun _=>kt _) ?_|refine Ye (fun _=>kt _) ?_|(refine uB ?_;intro b)|(refine uP ?_ ?_<;>(intro h;((try simp only [zs,zq,reduceCtorEq] at h);try exact zx)))|refine da 101 ?_|fail)
  ·rw [if_pos (.inl h)]
   exact W9 (L':=L) uL ⟨rfl,rfl⟩ (hy:=Xy S (hg:=Xw _))
  ·rw [if_pos (.inr (.inl h))]
   exact W9 (L':=L) uL ⟨rfl,rfl⟩ (hy:=Xy S (hg:=Xw _))
  ·rw [if_pos (.inr (.inr h))]
   exact W9 (L':=L) uL ⟨rfl,rfl⟩ (hy:=Xy S (hg:=Xw _))
  ·rename_i h1 h2
   rw [if_neg (fun h0=>h0.elim h1 (fun h0=>h0.elim (fun h0=>h0 h2) (fun h0=>h0 h)))]
   exact W9 (L':=L) uL ⟨rfl,rfl⟩ (hy:=Xy S (hg:=Xw _))
theorem Zeg (bb:List UInt8) (d:Nat) (L:Zb) (hd:d<6) (hl:216≤bb.length) (hh:bb.length≤1000000):HC Tryz.prog 50 [bs bb,iv d] L (fun v L'=>v = .tuple ⟨[iv (Xc bb d).n,.agg ⟨sc (Xc bb d).s⟩]⟩∧L'=L):=by
 have k1:=fun L=>Zhp bb (2*d) L (by omega) hl hh
 have k2:=fun L=>Zhp bb (2*d+1) L (by omega) hl hh
 rw [show (((2*d:Nat):Int) % 2)=0 by omega,show (((2*d:Nat):Int))=2*(d:Int) by omega] at k1
 rw [show (((2*d+1:Nat):Int) % 2)=1 by omega,show (((2*d+1:Nat):Int))=2*(d:Int)+1 by omega] at k2
 rw [deal_two hd hl]
 generalize Y5 0 (Xe bb (2*d))=e0 at *
 generalize Y5 1 (Xe bb (2*d+1))=e1 at *
 refine Za (fun _ _=>Tryz.call50 _ _) Tryz.func50 rfl Tryz.ntmps50 (Nat.le_of_ble_eq_true rfl) ?_;simp only [Zd,Nat.reduceAdd]
 by_cases h0:e0.n<e1.n
 ·rw [if_pos h0]
  repeat' (first|refine uN ?_|refine Z2 S ?_|refine Yp S ?_|refine uC (k1 _) ?_|refine uC (k2 _) ?_|refine Yb (fun _=>k1 _) ?_|refine Yc (fun _=>k1 _) ?_|refine Yd (fun _=>k1 _) ?_|refine Ye (fun _=>k1 _) ?_|refine Yb (fun _=>k2 _) ?_|refine Yc (fun _=>k2 _) ?_|refine Yd (fun _=>k2 _) ?_|refine Ye (fun _=>k2 _) ?_|(refine uB ?_;intro b)|(refine uP ?_ ?_<;>(intro h;((try simp only [zs,zq,reduceCtorEq] at h);try exact zx)))|refine da 101 ?_|fail)
  exact W9 (L':=L) uL ⟨rfl,rfl⟩ (hy:=Xy S (hg:=Xw _))
 ·rw [if_neg h0]
  repeat' (first|refine uN ?_|refine Z2 S ?_|refine Yp S ?_|refine uC (k1 _) ?_|refine uC (k2 _) ?_|refine Yb (fun _=>k1 _) ?_|refine Yc (fun _=>k1 _) ?_|refine Yd (fun _=>k1 _) ?_|refine Ye (fun _=>k1 _) ?_|refine Yb (fun _=>k2 _) ?_|refine Yc (fun _=>k2 _) ?_|refine Yd (fun _=>k2 _) ?_|refine Ye (fun _=>k2 _) ?_|(refine uB ?_;intro b)|(refine uP ?_ ?_<;>(intro h;((try simp only [zs,zq,reduceCtorEq] at h);try exact zx)))|refine da 101 ?_|fail)
  exact W9 (L':=L) uL ⟨rfl,rfl⟩ (hy:=Xy S (hg:=Xw _))
end Go.HL
end

/-! JaB -/
section
namespace Go.HL
open Go Go.Proofs
structure RJ where
 rj:Nat
 rp:Nat
 bN:Nat
 capN:Nat
 spN:List Value
 bS:Nat
 capS:Nat
 spS:List Value
def Zf4 (r:RJ) (dead:Bool):List Value:=[pt r.rp 0,sl r.bN 0 6 r.capN,sl r.bS 0 6 r.capS,.bool dead]
def Q2 (r:RJ) (j:Jn):List Zr:=[(r.rj,.cells ⟨Zf4 r j.dead⟩ 89),(r.bN,.cells ⟨((j.l.map Ent.n).map ic).flatten++r.spN⟩ 3),(r.bS,.cells ⟨((j.l.map Ent.s).map sc).flatten++r.spS⟩ 69)]
theorem Zuu {b:List UInt8} {d:Nat} (hd:d<6):(Zn b).take (d+1)=(Zn b).take d++[Xc b d]:=by
 have h:(Zn b).length=6:=by simp [Zn]
 rw [List.take_succ_eq_append_getElem (by omega)]
 simp [Zn]
theorem Zmz (b:List UInt8):(Zn b).length=6:=by simp [Zn]
set_option maxHeartbeats 2000000 attribute [local irreducible] HW HO HQ HD HC QOp Has Upd Zt Gets Z8 Z0 Zo Xm Zz Zj Xp Zy
attribute [local irreducible] Zn Xc
theorem Zsj (rp:Nat) (m:Pl) (left:Int) (L:Zb) (hl:216≤m.b.length) (hh:m.b.length≤1000000):HC Tryz.prog 33 [pt rp 0] (Wp rp m left::L) (fun v L' => ∃ r:RJ,r.rp=rp∧v=pt r.rj 0∧L'=Q2 r ⟨Zn m.b,false⟩::Wp rp m left::L):=by
 refine Za (fun _ _=>Tryz.call33 _ _) Tryz.func33 rfl Tryz.ntmps33 (Nat.le_of_ble_eq_true rfl) ?_;simp only [Zd,Nat.reduceAdd]
 repeat' (first|refine uN ?_|refine Zu S ?_|(refine uB ?_;intro b)|(refine uP ?_ ?_<;>(intro h;((try simp only [zs,zq,reduceCtorEq] at h);try exact zx)))|refine da 101 ?_|fail)
 generalize b=b3
 refine W6 (L':=[]::[]::[(b3,.cells ⟨[pt rp 0,Ys,Ys,.bool false]⟩ 89)]::Wp rp m left::L) ?_ uL
 refine Zp (σ:=Nat × (Value × List Zr) × (Value × List Zr)) (fun q=>[(0,pt rp 0),(3,pt b3 0),(4,iv q.1)]) (fun q=>q.2.1.2::q.2.2.2::[(b3,.cells ⟨[pt rp 0,q.2.1.1,q.2.2.1,.bool false]⟩ 89)]::Wp rp m left::L) (fun q=>q.1≤6∧Vec 3 1 ic q.2.1.1 (((Zn m.b).take q.1).map Ent.n) q.2.1.2∧Vec 69 3 sc q.2.2.1 (((Zn m.b).take q.1).map Ent.s) q.2.2.2) (fun q=>6-q.1) (0,(Ys,[]),(Ys,[])) uS (List.Sublist.refl _) ⟨by simp,Zv,Zv⟩ ?_
 rintro ⟨d,⟨vN,cN⟩,⟨vS,cS⟩⟩ ⟨hd,hN,hS⟩
 simp only at hd hN hS ⊢
 by_cases hlt:d<6
 ·have k1:=fun L=>Zeg m.b d L hlt hl hh
  have et:=Zuu (b:=m.b) hlt
  have hol:=Zmz m.b
  generalize Xc m.b d=e at *
  have hNl:(List.map Ent.n (List.take d (Zn m.b))).length≤6:=by simp;omega
  have hSl:(List.map Ent.s (List.take d (Zn m.b))).length≤6:=by simp;omega
  repeat' (first|refine uN ?_|refine Zu S ?_|refine uC (k1 _) ?_|refine Yb (fun _=>k1 _) ?_|refine Yc (fun _=>k1 _) ?_|refine Yd (fun _=>k1 _) ?_|refine Ye (fun _=>k1 _) ?_|(refine uB ?_;intro b)|(refine uP ?_ ?_<;>(intro h;((try simp only [zs,zq,reduceCtorEq] at h);try exact zx)))|refine da 101 ?_|fail)
  refine fo 2 ?_
  refine Zce S e.n hN (fun _=>rfl) (fun _=>rfl) ?_
  intro v1 c1 hv1
  have e1:List.map Ent.n (List.take d (Zn m.b))++[e.n]=List.map Ent.n (List.take (d+1) (Zn m.b)):=by rw [et,List.map_append];rfl
  rw [e1] at hv1
  obtain ⟨a1,p1,rfl,-,-⟩:=Vec.rd hv1 (fun _=>rfl)
  repeat' (first|refine uN ?_|refine Zu S ?_|(refine uB ?_;intro b)|(refine uP ?_ ?_<;>(intro h;((try simp only [zs,zq,reduceCtorEq] at h);try exact zx)))|refine da 101 ?_|fail)
  refine fo 4 ?_
  have scl : ∀ s,(sc s).length=3:=fun _=>rfl
  have sco : ∀ s,(sc s).all Value.oneCell'=true:=fun _=>rfl
  refine Zce (enc:=sc) (xs:=List.map Ent.s (List.take d (Zn m.b))) S e.s hS scl sco ?_
  intro v2 c2 hv2
  have e2:List.map Ent.s (List.take d (Zn m.b))++[e.s]=List.map Ent.s (List.take (d+1) (Zn m.b)):=by rw [et,List.map_append];rfl
  rw [e2] at hv2
  obtain ⟨a2,p2,rfl,-,-⟩:=Vec.rd hv2 (fun _=>rfl)
  repeat' (first|refine uN ?_|refine Zu S ?_|(refine uB ?_;intro b)|(refine uP ?_ ?_<;>(intro h;((try simp only [zs,zq,reduceCtorEq] at h);try exact zx)))|refine da 101 ?_|fail)
  exact Zg (d+1,(_,c1),(_,c2)) uS uL ⟨by simp only;omega,hv1,hv2⟩ (by simp only;omega)
 ·obtain rfl:d=6:=by omega
  have hol:=Zmz m.b
  rw [List.take_of_length_le (by omega)] at hN hS
  rcases hN with ⟨rfl,h0,-,rfl⟩|⟨bN,capN,spN,rfl,rfl,hcsN,hleN,hallN⟩
  ·simp [hol] at h0
  rcases hS with ⟨rfl,h0,-,rfl⟩|⟨bS,capS,spS,rfl,rfl,hcsS,hleS,hallS⟩
  ·simp [hol] at h0
  simp only [List.length_map,hol]
  refine fw 2 ?_
  repeat' (first|refine uN ?_|refine Zu S ?_|(refine uB ?_;intro b)|(refine uP ?_ ?_<;>(intro h;((try simp only [zs,zq,reduceCtorEq] at h);try exact zx)))|refine da 101 ?_|fail)
  exact Z9 (L':=Q2 ⟨b3,rp,bN,capN,spN,bS,capS,spS⟩ ⟨Zn m.b,false⟩::Wp rp m left::L) (LS.of_eq rfl) ⟨⟨b3,rp,bN,capN,spN,bS,capS,spS⟩,rfl,rfl,rfl⟩
end Go.HL
end

/-! JaC -/
section
namespace Go.HL
open Go Go.Proofs
theorem Zj1 {m:Pl} {a n:Int} {x:Nat} (h:Wf m a n=some x):x=2∨x=6:=by
 unfold Wf at h
 split at h
 ·cases h;exact .inl rfl
 ·split at h
  ·cases h;exact .inr rfl
  ·cases h
theorem Uw {m:Pl} {a:Int} {s:List UInt8} {x:Nat} (h:(Yg m a s).2=some x):x=2∨x=6:=by
 unfold Yg at h
 split at h
 ·rename_i e he
  cases h
  exact Zj1 he
 ·unfold Zbo at h
  simp only at h
  split at h
  ·cases h;exact .inr rfl
  ·cases h
theorem Zdr (m:Pl) (a n:Int):(Qf m a n).2=Wf m a n:=by
 unfold Qf
 split<;>simp_all
theorem Zko {m:Pl} {a:Int} (h:Wf m a 1=none):(Qf m a 1).1=[0]↔m.b.getD a.toNat 0=0:=by
 obtain ⟨h0,-,h1,-⟩:=Zew h
 unfold Qf
 rw [h]
 simp only
 have hlt:a.toNat<m.b.length:=by omega
 rw [List.drop_eq_getElem_cons hlt]
 show ([m.b[a.toNat]]:List UInt8)=[0]↔_
 simp [List.getD,hlt]
theorem jw1_zero {m:Pl} {d:Int} {e:Ent} (h:Wf m (Qa d e+18-1) 1=none) (hz:m.b.getD (Qa d e+18-1).toNat 0=0):Zbd m d e=(m,none):=by
 unfold Zbd
 rw [Zdr,h]
 simp only
 rw [if_pos ((Zko h).2 hz)]
theorem jw1_some {m:Pl} {d:Int} {e:Ent} (h:Wf m (Qa d e+18-1) 1=none) (hz : ¬ m.b.getD (Qa d e+18-1).toNat 0=0):Zbd m d e=Yg m (Qa d e+18-1) [0]:=by
 unfold Zbd
 rw [Zdr,h]
 simp only
 rw [if_neg (fun h0=>hz ((Zko h).1 h0))]
theorem rN_get {r:RJ} {j:Jn} {d:Nat} {e:Ent} (h:j.l[d]? = some e):(((j.l.map Ent.n).map ic).flatten++r.spN)[0+(d:Int).toNat]? = some (iv e.n):=by
 have:=Wx (enc:=ic) (sz:=1) (fun _=>rfl) (j.l.map Ent.n) r.spN [] d e.n (by simp [h])
 have:=this 0 (iv e.n) rfl
 simpa using this
theorem Zo0 {r:RJ} {j:Jn} {d:Nat} {e:Ent} (h:j.l[d]? = some e):Gets (((j.l.map Ent.s).map sc).flatten++r.spS) (0+(d:Int).toNat*3) (sc e.s):=by
 have:=Wx (enc:=sc) (sz:=3) (fun _=>rfl) (j.l.map Ent.s) r.spS [] d e.s (by simp [h])
 simpa using this
theorem rN_put {r:RJ} {j:Jn} {d:Nat} (e:Ent) (h:d<j.l.length):Zt (((j.l.map Ent.n).map ic).flatten++r.spN) (0+(d:Int).toNat) [iv e.n] ((((j.l.set d e).map Ent.n).map ic).flatten++r.spN):=by
 have:=Zc8 (enc:=ic) (sz:=1) (fun _=>rfl) (j.l.map Ent.n) r.spN [] d (0+(d:Int).toNat) e.n (by simpa using h) (by simp)
 rw [List.map_set]
 exact this
theorem rS_put {r:RJ} {j:Jn} {d:Nat} (e:Ent) (h:d<j.l.length):Zt (((j.l.map Ent.s).map sc).flatten++r.spS) (0+(d:Int).toNat*3) (sc e.s) ((((j.l.set d e).map Ent.s).map sc).flatten++r.spS):=by
 have:=Zc8 (enc:=sc) (sz:=3) (fun _=>rfl) (j.l.map Ent.s) r.spS [] d (0+(d:Int).toNat*3) e.s (by simpa using h) (by simp)
 rw [List.map_set]
 simpa using this
set_option maxHeartbeats 2000000 attribute [local irreducible] HW HO HQ HD HC QOp Has Upd Zt Gets Z8 Z0 Zo Xm Zz Zj Xp Zy
set_option maxHeartbeats 2000000 in
theorem Zvd (r:RJ) (m:Pl) (j:Jn) (left:Int) (deal:Int) (s:St) (L:Zb) (hm:PlOk m) (hj:JnOk j) (hleft:m.cut ≠ -1→left=m.cut) :
  HC Tryz.prog 125 [pt r.rj 0,iv deal,.agg ⟨sc s⟩] (Q2 r j::Wp r.rp m left::L) (fun v L'=>v=iv (cdN (Xt m j deal s).2.2) ∧ ∃ left',((Xt m j deal s).1.cut ≠ -1→left'=(Xt m j deal s).1.cut)∧L'=Q2 r (Xt m j deal s).2.1::Wp r.rp (Xt m j deal s).1 left'::L):=by
 by_cases h1:j.dead=true
 ·rw [show Xt m j deal s=(m,j,some 6) from if_pos h1]
  obtain ⟨jl,dead⟩:=j
  simp only at h1
  subst h1
  refine Za (fun _ _=>Tryz.call125 _ _) Tryz.func125 rfl Tryz.ntmps125 (Nat.le_of_ble_eq_true rfl) ?_;simp only [Zd,Nat.reduceAdd]
  repeat' (first|refine uN ?_|refine Z2 S ?_|refine Yp S ?_|(refine uB ?_;intro b)|(refine uP ?_ ?_<;>(intro h;((try simp only [zs,zq,reduceCtorEq] at h);try exact zx)))|refine da 101 ?_|fail)
  exact Z9 (L':=Q2 r ⟨jl,true⟩::Wp r.rp m left::L) uL ⟨rfl,left,hleft,rfl⟩
 obtain ⟨jl,dead⟩:=j
 obtain rfl:dead=false:=by simpa using h1
 by_cases h2:Uf deal s
 ·rw [show Xt m ⟨jl,false⟩ deal s=(m,⟨jl,false⟩,some 2) by unfold Xt;rw [if_neg h1,if_pos h2]]
  unfold Uf at h2
  refine Za (fun _ _=>Tryz.call125 _ _) Tryz.func125 rfl Tryz.ntmps125 (Nat.le_of_ble_eq_true rfl) ?_;simp only [Zd,Nat.reduceAdd]
  repeat' (first|refine uN ?_|refine Z2 S ?_|refine Yp S ?_|(refine uB ?_;intro b)|(refine uP ?_ ?_<;>(intro h;((try simp only [zs,zq,reduceCtorEq] at h);try exact zx)))|refine da 101 ?_|fail)
  all_goals exact Z9 (L':=Q2 r ⟨jl,false⟩::Wp r.rp m left::L) uL ⟨rfl,left,hleft,rfl⟩
 have hb:=h2
 unfold Uf at hb
 obtain ⟨d,rfl⟩:=Int.eq_ofNat_of_zero_le (show 0≤deal by omega)
 have hd:d<6:=by omega
 have hlen:jl.length=6:=hj.len
 have n0:0≤(jl.getD d Zm).n:=hj.n0 d
 have n1:(jl.getD d Zm).n≤4294967296:=hj.n1 d
 have hp:Xt m ⟨jl,false⟩ d s=if (jl.getD d Zm).s=s then (m,⟨jl,false⟩,none) else if 4294967296≤(jl.getD d Zm).n+1 then (m,⟨jl,false⟩,some 5) else
   match (Zaa m d ⟨(jl.getD d Zm).n+1,s⟩).2 with
   | some x=>((Zaa m d ⟨(jl.getD d Zm).n+1,s⟩).1,⟨jl,true⟩,some x)
   | none=>((Zaa m d ⟨(jl.getD d Zm).n+1,s⟩).1,⟨jl.set d ⟨(jl.getD d Zm).n+1,s⟩,false⟩,none):=by
  unfold Xt;rw [if_neg h1,if_neg h2];rfl
 have he:jl[d]? = some (jl.getD d Zm):=by
  rw [List.getD,List.getElem?_eq_getElem (by omega)];rfl
 have g1:=rN_get (r:=r) (j:=⟨jl,false⟩) he
 have g2:=Zo0 (r:=r) (j:=⟨jl,false⟩) he
 have p1:=rN_put (r:=r) (j:=⟨jl,false⟩) (d:=d) ⟨(jl.getD d Zm).n+1,s⟩ (by simp only;omega)
 have p2:=rS_put (r:=r) (j:=⟨jl,false⟩) (d:=d) ⟨(jl.getD d Zm).n+1,s⟩ (by simp only;omega)
 simp only at g1 g2 p1 p2
 generalize hE:jl.getD d Zm=e at *
 clear hj h2 he hE h1
 by_cases h3:e.s=s
 ·rw [hp,if_pos h3]
  subst h3
  refine Za (fun _ _=>Tryz.call125 _ _) Tryz.func125 rfl Tryz.ntmps125 (Nat.le_of_ble_eq_true rfl) ?_;simp only [Zd,Nat.reduceAdd]
  repeat' (first|refine uN ?_|refine Z2 S ?_|refine Yp S ?_|(refine uB ?_;intro b)|(refine uP ?_ ?_<;>(intro h;((try simp only [zs,zq,reduceCtorEq] at h);try exact zx)))|refine da 101 ?_|fail)
  all_goals exact Z9 (L':=Q2 r ⟨jl,false⟩::Wp r.rp m left::L) uL ⟨rfl,left,hleft,rfl⟩
 have h3' : ¬ (e.s.ph=s.ph∧e.s.pr=s.pr∧e.s.att=s.att):=fun h=>h3 (St.ext3 h)
 by_cases h4:4294967296≤e.n+1
 ·rw [hp,if_neg h3,if_pos h4]
  refine Za (fun _ _=>Tryz.call125 _ _) Tryz.func125 rfl Tryz.ntmps125 (Nat.le_of_ble_eq_true rfl) ?_;simp only [Zd,Nat.reduceAdd]
  repeat' (first|refine uN ?_|refine Z2 S ?_|refine Yp S ?_|(refine uB ?_;intro b)|(refine uP ?_ ?_<;>(intro h;((try simp only [zs,zq,reduceCtorEq] at h);try exact zx)))|refine da 101 ?_|fail)
  all_goals exact Z9 (L':=Q2 r ⟨jl,false⟩::Wp r.rp m left::L) uL ⟨rfl,left,hleft,rfl⟩
 rw [hp,if_neg h3,if_neg h4]
 have kerr : ∀ L,HC Tryz.prog 170 [pt r.rp 0,iv ((2*(d:Int)+(e.n+1) % 2)*18+18-1),iv 1] (Wp r.rp m left::L) (fun v L'=>v=iv (cdN (Wf m (Qa d ⟨e.n+1,s⟩+18-1) 1))∧L'=Wp r.rp m left::L):=fun L=>Zkq r.rp m left (Qa d ⟨e.n+1,s⟩+18-1) 1 L hm.len
 have lb:=Q9 ⟨e.n+1,s⟩
 have o1:=Zok hm d ⟨e.n+1,s⟩
 have o2:=Zol hm d ⟨e.n+1,s⟩
 have kt1:=fun L=>Qt 0 L
 rw [show bt 0 0=0 by decide +kernel] at kt1
 have kt2:=fun L=>Qt 165 L
 rw [show bt 165 0=165 by decide +kernel] at kt2
 have kb:=fun L=>Zhm ⟨e.n+1,s⟩ L ⟨by simp only;omega,by simp only;omega⟩ ⟨by simp only;omega,by simp only;omega⟩ ⟨by simp only;omega,by simp only;omega⟩ ⟨by simp only;omega,by simp only;omega⟩
 have w1 : ∀ L,HC Tryz.prog 171 [pt r.rp 0,iv ((2*(d:Int)+(e.n+1) % 2)*18+18-1),bs [0]] (Wp r.rp m left::L) (fun v L'=>v=iv (cdN (Yg m (Qa d ⟨e.n+1,s⟩+18-1) [0]).2) ∧ ∃ left',((Yg m (Qa d ⟨e.n+1,s⟩+18-1) [0]).1.cut ≠ -1→left'=(Yg m (Qa d ⟨e.n+1,s⟩+18-1) [0]).1.cut)∧L'=Wp r.rp (Yg m (Qa d ⟨e.n+1,s⟩+18-1) [0]).1 left'::L):=fun L=>Zb7 r.rp m left (Qa d ⟨e.n+1,s⟩+18-1) [0] L hm.len (by simp) ⟨hm.lo,hm.hi⟩ hleft
 have w2 : ∀ left1,((Zbd m d ⟨e.n+1,s⟩).1.cut ≠ -1→left1=(Zbd m d ⟨e.n+1,s⟩).1.cut) → ∀ L,HC Tryz.prog 171 [pt r.rp 0,iv ((2*(d:Int)+(e.n+1) % 2)*18),bs (Y2 ⟨e.n+1,s⟩)] (Wp r.rp (Zbd m d ⟨e.n+1,s⟩).1 left1::L) (fun v L'=>v=iv (cdN (Yg (Zbd m d ⟨e.n+1,s⟩).1 (Qa d ⟨e.n+1,s⟩) (Y2 ⟨e.n+1,s⟩)).2) ∧ ∃ left',((Yg (Zbd m d ⟨e.n+1,s⟩).1 (Qa d ⟨e.n+1,s⟩) (Y2 ⟨e.n+1,s⟩)).1.cut ≠ -1→left'=(Yg (Zbd m d ⟨e.n+1,s⟩).1 (Qa d ⟨e.n+1,s⟩) (Y2 ⟨e.n+1,s⟩)).1.cut)∧L'=Wp r.rp (Yg (Zbd m d ⟨e.n+1,s⟩).1 (Qa d ⟨e.n+1,s⟩) (Y2 ⟨e.n+1,s⟩)).1 left'::L):=fun left1 h1 L=>Zb7 r.rp _ left1 (Qa d ⟨e.n+1,s⟩) (Y2 ⟨e.n+1,s⟩) L o1.len (by omega) ⟨o1.lo,o1.hi⟩ h1
 have w3 : ∀ left1,((Zax m d ⟨e.n+1,s⟩).1.cut ≠ -1→left1=(Zax m d ⟨e.n+1,s⟩).1.cut) → ∀ L,HC Tryz.prog 171 [pt r.rp 0,iv ((2*(d:Int)+(e.n+1) % 2)*18+18-1),bs [165]] (Wp r.rp (Zax m d ⟨e.n+1,s⟩).1 left1::L) (fun v L'=>v=iv (cdN (Yg (Zax m d ⟨e.n+1,s⟩).1 (Qa d ⟨e.n+1,s⟩+18-1) [165]).2) ∧ ∃ left',((Yg (Zax m d ⟨e.n+1,s⟩).1 (Qa d ⟨e.n+1,s⟩+18-1) [165]).1.cut ≠ -1→left'=(Yg (Zax m d ⟨e.n+1,s⟩).1 (Qa d ⟨e.n+1,s⟩+18-1) [165]).1.cut)∧L'=Wp r.rp (Yg (Zax m d ⟨e.n+1,s⟩).1 (Qa d ⟨e.n+1,s⟩+18-1) [165]).1 left'::L):=fun left1 h1 L=>Zb7 r.rp _ left1 (Qa d ⟨e.n+1,s⟩+18-1) [165] L o2.len (by simp) ⟨o2.lo,o2.hi⟩ h1
 refine Za (fun _ _=>Tryz.call125 _ _) Tryz.func125 rfl Tryz.ntmps125 (Nat.le_of_ble_eq_true rfl) ?_;simp only [Zd,Nat.reduceAdd]
 cases h5:Wf m (Qa d ⟨e.n+1,s⟩+18-1) 1 with
 | some x =>
  rw [h5] at kerr
  have hx:=Zj1 h5
  have e1:Zaa m d ⟨e.n+1,s⟩=(m,some x):=by simp [Zaa,Zax,Zbd,Zdr,h5]
  rw [e1]
  simp only [cdN] at kerr ⊢
  repeat' (first|refine uN ?_|refine Z2 S ?_|refine Yp S ?_|refine Wq (qC (Yw kerr 2)) ?_|refine Qr (qC (Yw kerr 2)) ?_|refine Yb (fun _=>Yw kerr 2) ?_|refine Yc (fun _=>Yw kerr 2) ?_|refine Yd (fun _=>Yw kerr 2) ?_|refine Ye (fun _=>Yw kerr 2) ?_|(refine uB ?_;intro b)|(refine uP ?_ ?_<;>(intro h;((try simp only [zs,zq,reduceCtorEq] at h);try exact zx)))|refine da 101 ?_|fail)
  exact Z9 (L':=Q2 r ⟨jl,true⟩::Wp r.rp m left::L) uL ⟨rfl,left,hleft,rfl⟩
 | none =>
  rw [h5] at kerr
  simp only [cdN] at kerr
  have hb5:=Zew h5
  have hr1:=Zko h5
  simp only [Qa] at hb5 hr1
  by_cases hz:m.b.getD ((2*(d:Int)+(e.n+1) % 2)*18+18-1).toNat 0=0
  ·have hz2:((m.b.getD ((2*(d:Int)+(e.n+1) % 2)*18+18-1).toNat 0).toNat:Int)=0:=by rw [hz];rfl
   have e1:Zbd m d ⟨e.n+1,s⟩=(m,none):=jw1_zero h5 hz
   have e2:Zax m d ⟨e.n+1,s⟩=Yg (Zbd m d ⟨e.n+1,s⟩).1 (Qa d ⟨e.n+1,s⟩) (Y2 ⟨e.n+1,s⟩):=by simp [Zax,e1]
   have hm1:(Zbd m d ⟨e.n+1,s⟩).1=m:=by rw [e1]
   rw [hm1] at w2 e2
   repeat' (first|refine uN ?_|refine Zu S ?_|refine Wq (qC (Yw kerr 2)) ?_|refine uC (kb _) ?_|refine Yb (fun _=>Yw kerr 2) ?_|refine Yc (fun _=>Yw kerr 2) ?_|refine Yd (fun _=>Yw kerr 2) ?_|refine Ye (fun _=>Yw kerr 2) ?_|refine Yb (fun _=>kb _) ?_|refine Yc (fun _=>kb _) ?_|refine Yd (fun _=>kb _) ?_|refine Ye (fun _=>kb _) ?_|(refine uB ?_;intro b)|(refine uP ?_ ?_<;>(intro h;((try simp only [zs,zq,reduceCtorEq] at h);try exact zx)))|refine da 101 ?_|fail)
   refine fo 2 ?_
   refine gc (w2 left hleft _) ?_
   rintro v L' ⟨rfl,left2,hl2,rfl⟩
   rw [← e2] at hl2 ⊢
   cases h7:(Zax m d ⟨e.n+1,s⟩).2 with
   | some x =>
    have hx:=Uw (e2▸h7)
    have e3:Zaa m d ⟨e.n+1,s⟩=((Zax m d ⟨e.n+1,s⟩).1,some x):=by simp [Zaa,h7]
    rw [e3]
    simp only [cdN]
    repeat' (first|refine uN ?_|refine Z2 S ?_|refine Yp S ?_|(refine uB ?_;intro b)|(refine uP ?_ ?_<;>(intro h;((try simp only [zs,zq,reduceCtorEq] at h);try exact zx)))|refine da 101 ?_|fail)
    exact Z9 (L':=Q2 r ⟨jl,true⟩::Wp r.rp (Zax m d ⟨e.n+1,s⟩).1 left2::L) uL ⟨rfl,left2,hl2,rfl⟩
   | none =>
    have e3:Zaa m d ⟨e.n+1,s⟩=Yg (Zax m d ⟨e.n+1,s⟩).1 (Qa d ⟨e.n+1,s⟩+18-1) [165]:=by simp [Zaa,h7,Xa]
    rw [← e3] at w3
    simp only [cdN]
    repeat' (first|refine uN ?_|refine Zu S ?_|refine uC (kt2 _) ?_|refine Yb (fun _=>kt2 _) ?_|refine Yc (fun _=>kt2 _) ?_|refine Yd (fun _=>kt2 _) ?_|refine Ye (fun _=>kt2 _) ?_|(refine uB ?_;intro b)|(refine uP ?_ ?_<;>(intro h;((try simp only [zs,zq,reduceCtorEq] at h);try exact zx)))|refine da 101 ?_|fail)
    refine gc (w3 left2 hl2 _) ?_
    rintro v L' ⟨rfl,left3,hl3,rfl⟩
    cases h8:(Zaa m d ⟨e.n+1,s⟩).2 with
    | some x =>
     have hx:=Uw (e3▸h8)
     simp only [cdN]
     repeat' (first|refine uN ?_|refine Zu S ?_|(refine uB ?_;intro b)|(refine uP ?_ ?_<;>(intro h;((try simp only [zs,zq,reduceCtorEq] at h);try exact zx)))|refine da 101 ?_|fail)
     exact Z9 (L':=Q2 r ⟨jl,true⟩::Wp r.rp (Zaa m d ⟨e.n+1,s⟩).1 left3::L) uL ⟨rfl,left3,hl3,rfl⟩
    | none =>
     simp only [cdN]
     repeat' (first|refine uN ?_|refine Zu S ?_|(refine uB ?_;intro b)|(refine uP ?_ ?_<;>(intro h;((try simp only [zs,zq,reduceCtorEq] at h);try exact zx)))|refine da 101 ?_|fail)
     exact Z9 (L':=Q2 r ⟨jl.set d ⟨e.n+1,s⟩,false⟩::Wp r.rp (Zaa m d ⟨e.n+1,s⟩).1 left3::L) uL ⟨rfl,left3,hl3,rfl⟩
  ·have hz2:0<((m.b.getD ((2*(d:Int)+(e.n+1) % 2)*18+18-1).toNat 0).toNat:Int):=by
    have:(m.b.getD ((2*(d:Int)+(e.n+1) % 2)*18+18-1).toNat 0).toNat≠0:=fun h0=>hz (UInt8.toNat_inj.1 h0)
    omega
   have e1:Zbd m d ⟨e.n+1,s⟩=Yg m (Qa d ⟨e.n+1,s⟩+18-1) [0]:=jw1_some h5 hz
   rw [← e1] at w1
   repeat' (first|refine uN ?_|refine Zu S ?_|refine Wq (qC (Yw kerr 2)) ?_|refine uC (kt1 _) ?_|refine Yb (fun _=>Yw kerr 2) ?_|refine Yc (fun _=>Yw kerr 2) ?_|refine Yd (fun _=>Yw kerr 2) ?_|refine Ye (fun _=>Yw kerr 2) ?_|refine Yb (fun _=>kt1 _) ?_|refine Yc (fun _=>kt1 _) ?_|refine Yd (fun _=>kt1 _) ?_|refine Ye (fun _=>kt1 _) ?_|(refine uB ?_;intro b)|(refine uP ?_ ?_<;>(intro h;((try simp only [zs,zq,reduceCtorEq] at h);try exact zx)))|refine da 101 ?_|fail)
   refine fo 2 ?_
   refine gc (w1 _) ?_
   rintro v L' ⟨rfl,left1,hl1,rfl⟩
   cases h6:(Zbd m d ⟨e.n+1,s⟩).2 with
   | some x =>
    have hx:=Uw (e1▸h6)
    have e3:Zaa m d ⟨e.n+1,s⟩=((Zbd m d ⟨e.n+1,s⟩).1,some x):=by simp [Zaa,Zax,h6]
    rw [e3]
    simp only [cdN]
    repeat' (first|refine uN ?_|refine Zu S ?_|(refine uB ?_;intro b)|(refine uP ?_ ?_<;>(intro h;((try simp only [zs,zq,reduceCtorEq] at h);try exact zx)))|refine da 101 ?_|fail)
    exact Z9 (L':=Q2 r ⟨jl,true⟩::Wp r.rp (Zbd m d ⟨e.n+1,s⟩).1 left1::L) uL ⟨rfl,left1,hl1,rfl⟩
   | none =>
    have e2:Zax m d ⟨e.n+1,s⟩=Yg (Zbd m d ⟨e.n+1,s⟩).1 (Qa d ⟨e.n+1,s⟩) (Y2 ⟨e.n+1,s⟩):=by simp [Zax,h6]
    simp only [cdN]
    repeat' (first|refine uN ?_|refine Zu S ?_|refine uC (kb _) ?_|refine Yb (fun _=>kb _) ?_|refine Yc (fun _=>kb _) ?_|refine Yd (fun _=>kb _) ?_|refine Ye (fun _=>kb _) ?_|(refine uB ?_;intro b)|(refine uP ?_ ?_<;>(intro h;((try simp only [zs,zq,reduceCtorEq] at h);try exact zx)))|refine da 101 ?_|fail)
    refine gc (w2 left1 hl1 _) ?_
    rintro v L' ⟨rfl,left2,hl2,rfl⟩
    rw [← e2] at hl2 ⊢
    cases h7:(Zax m d ⟨e.n+1,s⟩).2 with
    | some x =>
     have hx:=Uw (e2▸h7)
     have e3:Zaa m d ⟨e.n+1,s⟩=((Zax m d ⟨e.n+1,s⟩).1,some x):=by simp [Zaa,h7]
     rw [e3]
     simp only [cdN]
     repeat' (first|refine uN ?_|refine Z2 S ?_|refine Yp S ?_|(refine uB ?_;intro b)|(refine uP ?_ ?_<;>(intro h;((try simp only [zs,zq,reduceCtorEq] at h);try exact zx)))|refine da 101 ?_|fail)
     exact Z9 (L':=Q2 r ⟨jl,true⟩::Wp r.rp (Zax m d ⟨e.n+1,s⟩).1 left2::L) uL ⟨rfl,left2,hl2,rfl⟩
    | none =>
     have e3:Zaa m d ⟨e.n+1,s⟩=Yg (Zax m d ⟨e.n+1,s⟩).1 (Qa d ⟨e.n+1,s⟩+18-1) [165]:=by simp [Zaa,h7,Xa]
     rw [← e3] at w3
     simp only [cdN]
     repeat' (first|refine uN ?_|refine Zu S ?_|refine uC (kt2 _) ?_|refine Yb (fun _=>kt2 _) ?_|refine Yc (fun _=>kt2 _) ?_|refine Yd (fun _=>kt2 _) ?_|refine Ye (fun _=>kt2 _) ?_|(refine uB ?_;intro b)|(refine uP ?_ ?_<;>(intro h;((try simp only [zs,zq,reduceCtorEq] at h);try exact zx)))|refine da 101 ?_|fail)
     refine gc (w3 left2 hl2 _) ?_
     rintro v L' ⟨rfl,left3,hl3,rfl⟩
     cases h8:(Zaa m d ⟨e.n+1,s⟩).2 with
     | some x =>
      have hx:=Uw (e3▸h8)
      simp only [cdN]
      repeat' (first|refine uN ?_|refine Zu S ?_|(refine uB ?_;intro b)|(refine uP ?_ ?_<;>(intro h;((try simp only [zs,zq,reduceCtorEq] at h);try exact zx)))|refine da 101 ?_|fail)
      exact Z9 (L':=Q2 r ⟨jl,true⟩::Wp r.rp (Zaa m d ⟨e.n+1,s⟩).1 left3::L) uL ⟨rfl,left3,hl3,rfl⟩
     | none =>
      simp only [cdN]
      repeat' (first|refine uN ?_|refine Zu S ?_|(refine uB ?_;intro b)|(refine uP ?_ ?_<;>(intro h;((try simp only [zs,zq,reduceCtorEq] at h);try exact zx)))|refine da 101 ?_|fail)
      exact Z9 (L':=Q2 r ⟨jl.set d ⟨e.n+1,s⟩,false⟩::Wp r.rp (Zaa m d ⟨e.n+1,s⟩).1 left3::L) uL ⟨rfl,left3,hl3,rfl⟩
end Go.HL
end

/-! RsA -/
section
namespace Go.HL
open Go Go.Proofs
def Ze2 (ref:Int→Bool):List Value:=(List.range 6).map fun (d:Nat)=>Value.bool (ref (d:Int))
theorem refL_get {ref:Int→Bool} {d:Nat} (h:d<6):(Ze2 ref)[0+(d:Int).toNat]? = some (.bool (ref d)):=by
 simp [Ze2,h]
theorem refL_put {ref:Int→Bool} {d:Nat} (h:d<6):Zt (Ze2 ref) (0+(d:Int).toNat) [.bool true] (Ze2 fun x=>if x=(d:Int) then true else ref x):=by
 have e:Ze2 (fun x=>if x=(d:Int) then true else ref x)=(Ze2 ref).set (0+(d:Int).toNat) (.bool true):=by
  apply List.ext_getElem?
  intro k
  rw [List.getElem?_set]
  by_cases hk:k<6
  ·by_cases hd:d=k
   ·subst hd;simp [Ze2,hk]
   ·simp [Ze2,hk,hd]
    intro h9
    exact absurd (by omega) hd
  ·simp [Ze2,hk]
   omega
 rw [e]
 exact Vf (by simp [Ze2];omega)
theorem Zkp:List.replicate (Int.toNat 6) (Value.bool false)=Ze2 fun _=>false:=rfl
def Ze3 (rs rj bR:Nat) (id:Int) (ref:Int→Bool):List Zr:=[(rs,.cells ⟨[iv id,pt rj 0,sl bR 0 6 6]⟩ 82),(bR,.cells ⟨Ze2 ref⟩ 4)]
theorem Zy5 (m:Pl) (j:Jn) (deal:Int) (s:St) : ∀ e,(Xt m j deal s).2.2=some e→1≤e:=by
 unfold Xt
 intro e he
 split at he
 ·cases he;decide
 split at he
 ·cases he;decide
 split at he
 ·cases he
 split at he
 ·cases he;decide
 split at he
 ·rename_i x h
  have:x=2∨x=6:=by
   unfold Zaa at h
   split at h
   ·rename_i y hy
    cases h
    unfold Zax at hy
    split at hy
    ·rename_i z hz
     cases hy
     unfold Zbd at hz
     split at hz
     ·rename_i w hw
      cases hz
      rw [Zdr] at hw
      exact Zj1 hw
     ·split at hz
      ·cases hz
      ·exact Uw hz
    ·exact Uw hy
   ·exact Uw h
  cases he
  omega
 ·cases he
set_option maxHeartbeats 2000000 attribute [local irreducible] HW HO HQ HD HC QOp Has Upd Zt Gets Z8 Z0 Zo Xm Zz Zj Xp Zy
attribute [local irreducible] Zn Xt Yj Ze2
theorem Zbv (p:Int) (L:Zb):HC Tryz.prog 38 [iv p] L (fun v L'=>v = .bool (decide (p=2∨p=3))∧L'=L):=by
 refine Za (fun _ _=>Tryz.call38 _ _) Tryz.func38 rfl Tryz.ntmps38 (Nat.le_of_ble_eq_true rfl) ?_;simp only [Zd,Nat.reduceAdd]
 repeat' (first|refine uN ?_|(refine uP ?_ ?_<;>(intro h;((try simp only [zs,zq,reduceCtorEq] at h);try exact zx)))|fail)
 all_goals refine Z9 uZ ⟨?_,rfl⟩
 all_goals simp [*]
theorem Zdb (id:Int) (rp:Nat) (m:Pl) (left:Int) (L:Zb) (hl:216≤m.b.length) (hh:m.b.length≤1000000):HC Tryz.prog 15 [iv id,pt rp 0] (Wp rp m left::L) (fun v L' => ∃ rs bR,∃ r:RJ,v=pt rs 0∧r.rp=rp∧L'=Ze3 rs r.rj bR id (fun _=>false)::Q2 r ⟨Zn m.b,false⟩::Wp rp m left::L):=by
 have ko:=fun L=>Zsj rp m left L hl hh
 refine Za (fun _ _=>Tryz.call15 _ _) Tryz.func15 rfl Tryz.ntmps15 (Nat.le_of_ble_eq_true rfl) ?_;simp only [Zd,Nat.reduceAdd]
 repeat' (first|refine uN ?_|refine Zu S ?_|(refine uB ?_;intro b)|refine da 101 ?_|fail)
 refine Zbx ?_ ?_
 ·refine gc (ko _) ?_
  rintro v L' ⟨r,hr,rfl,rfl⟩
  repeat' (first|refine uN ?_|refine Zu S ?_|(refine uB ?_;intro b)|refine da 101 ?_|fail)
  rename_i bR
  rw [Zkp]
  exact Z9 (L':=Ze3 b r.rj bR id (fun _=>false)::Q2 r ⟨Zn m.b,false⟩::Wp rp m left::L) (LS.trans (b:=([(b,.cells ⟨[iv id,pt r.rj 0,sl bR 0 6 6]⟩ 82)]::[(bR,.cells ⟨Ze2 fun _=>false⟩ 4)]::Q2 r ⟨Zn m.b,false⟩::Wp rp m left::L:Zb).flatten) (LS.of_eq rfl) uL) ⟨b,bR,r,rfl,hr,rfl⟩
 ·repeat' (first|refine uN ?_|refine Zu S ?_|(refine uB ?_;intro b)|refine da 101 ?_|fail)
  refine fo 1 ?_
  refine gc (ko _) ?_
  rintro v L' ⟨r,hr,rfl,rfl⟩
  repeat' (first|refine uN ?_|refine Zu S ?_|(refine uB ?_;intro b)|refine da 101 ?_|fail)
  rename_i bR
  rw [Zkp]
  exact Z9 (L':=Ze3 b r.rj bR id (fun _=>false)::Q2 r ⟨Zn m.b,false⟩::Wp rp m left::L) (LS.trans (b:=([(b,.cells ⟨[iv id,pt r.rj 0,sl bR 0 6 6]⟩ 82)]::[(bR,.cells ⟨Ze2 fun _=>false⟩ 4)]::Q2 r ⟨Zn m.b,false⟩::Wp rp m left::L:Zb).flatten) (LS.of_eq rfl) uL) ⟨b,bR,r,rfl,hr,rfl⟩
set_option maxHeartbeats 2000000 in
theorem Zpd (rs bR:Nat) (id:Int) (ref:Int→Bool) (r:RJ) (m:Pl) (j:Jn) (left:Int) (f:Fr) (L:Zb) (hm:PlOk m) (hj:JnOk j) (hleft:m.cut ≠ -1→left=m.cut) :
  HC Tryz.prog 60 [pt rs 0,.agg ⟨fc f⟩] (Ze3 rs r.rj bR id ref::Q2 r j::Wp r.rp m left::L) (fun v L' => ∃ fv c left',v = .tuple ⟨[fv,iv (cdN (Zs id ref m j f).2.2.2)]⟩∧Z7 fv (Zs id ref m j f).2.2.1 c∧((Zs id ref m j f).1.cut ≠ -1→left'=(Zs id ref m j f).1.cut) ∧
   L'=Ze3 rs r.rj bR id ref::Q2 r (Zs id ref m j f).2.1::Wp r.rp (Zs id ref m j f).1 left'::c::L):=by
 have kfe:=fun L=>Zsd f L
 unfold Zs Zgm at *
 by_cases hb:X5 f
 ·simp only [if_pos hb,cdF] at kfe ⊢
  refine Za (fun _ _=>Tryz.call60 _ _) Tryz.func60 rfl Tryz.ntmps60 (Nat.le_of_ble_eq_true rfl) ?_;simp only [Zd,Nat.reduceAdd]
  repeat' (first|refine uN ?_|refine Z2 S ?_|refine Yp S ?_|refine uC (kfe _) ?_|refine Yb (fun _=>kfe _) ?_|refine Yc (fun _=>kfe _) ?_|refine Yd (fun _=>kfe _) ?_|refine Ye (fun _=>kfe _) ?_|(refine uB ?_;intro b)|(refine uP ?_ ?_<;>(intro h;((try simp only [zs,zq,reduceCtorEq] at h);try exact zx)))|refine da 101 ?_|fail)
  exact W9 (L':=Ze3 rs r.rj bR id ref::Q2 r j::Wp r.rp m left::[]::L) uL ⟨_,[],left,rfl,Zv,hleft,rfl⟩
 simp only [if_neg hb,cdF] at kfe ⊢
 by_cases hto:f.to=id
 ·simp only [ne_eq,hto,not_true_eq_false,if_false]
  unfold X5 at hb
  obtain ⟨fr0,to0,dl0,kd0,at0,ys0,fs0⟩:=f
  simp only at hb hto ⊢
  subst hto
  obtain ⟨d,rfl⟩:=Int.eq_ofNat_of_zero_le (show 0≤dl0 by omega)
  have hd6:d<6:=by omega
  simp only [Int.toNat_natCast]
  have gS:=Zo0 (r:=r) (j:=j) (d:=d) (e:=j.l.getD d Zm) (by have:=hj.len;simp [List.getD,this,hd6])
  have gR:=refL_get (ref:=ref) hd6
  generalize hst:(j.l.getD d Zm).s=st at *
  have hjl:=hj.len
  have kfin:=fun p L=>Zbv p L
  generalize htr:Yj ref ⟨fr0,to0,d,kd0,at0,ys0,fs0⟩ st=tr at *
  refine Za (fun _ _=>Tryz.call60 _ _) Tryz.func60 rfl Tryz.ntmps60 (Nat.le_of_ble_eq_true rfl) ?_;simp only [Zd,Nat.reduceAdd]
  repeat apply Zjo
  apply Zbb
  refine wb (fun b3=>?_)
  repeat' (first|refine uN ?_|refine Z2 S ?_|refine Yp S ?_|refine uC (kfe _) ?_|refine Yb (fun _=>kfe _) ?_|refine Yc (fun _=>kfe _) ?_|refine Yd (fun _=>kfe _) ?_|refine Ye (fun _=>kfe _) ?_|(refine uB ?_;intro b)|(refine uP ?_ ?_<;>(intro h;((try simp only [zs,zq,reduceCtorEq] at h);try exact zx)))|refine da 101 ?_|fail)
  generalize b=b8
  rename_i b7
  apply Zus (ι:=St × Int × Bool) (fun q=>tr=q) (fun _=>[(0,pt rs 0),(3,pt b3 0),(7,pt b7 0),(8,pt b8 0)]) (fun q=>[(b8,.cells ⟨fc ⟨to0,fr0,d,q.2.1,at0,q.2.2,⟨0,0,0⟩⟩⟩ 97)]::[(b7,.cells ⟨sc q.1⟩ 69)]::[(b3,.cells ⟨fc ⟨fr0,to0,d,kd0,at0,ys0,fs0⟩⟩ 97)]::Ze3 rs r.rj bR to0 ref::Q2 r j::Wp r.rp m left::L)
  ·intro key
   have key3:=fun (a b c k:Int) (y:Bool) (ρ':Z5) (L':Zb) (h1:LS ([(b8,.cells ⟨[iv to0,iv fr0,iv d,iv k,iv at0,.bool y,iv 0,iv 0,iv 0]⟩ 97)]::[(b7,.cells ⟨[iv a,iv b,iv c]⟩ 69)]::[(b3,.cells ⟨fc ⟨fr0,to0,d,kd0,at0,ys0,fs0⟩⟩ 97)]::Ze3 rs r.rj bR to0 ref::Q2 r j::Wp r.rp m left::L:Zb).flatten L'.flatten) (h2:Sub [(0,pt rs 0),(3,pt b3 0),(7,pt b7 0),(8,pt b8 0)] ρ') (h3:tr=(⟨a,b,c⟩,k,y))=>W6 (Zgo (key (⟨a,b,c⟩,k,y) h3) h2) h1
   repeat' (first|refine uN ?_|refine g_kk S ?_|refine uC (kfin _ _) ?_|refine Yb (fun _=>kfin _ _) ?_|refine Yc (fun _=>kfin _ _) ?_|refine Yd (fun _=>kfin _ _) ?_|refine Ye (fun _=>kfin _ _) ?_|(refine uB ?_;intro b)|(refine uP ?_ ?_<;>(intro h;((try simp only [zs,zq,reduceCtorEq] at h);try exact zx)))|refine da 101 ?_|fail)
   all_goals apply key3
   all_goals first|(show LS _ _;exact uL)|(show Sub _ _;exact uS)|skip
   all_goals (rw [← htr];unfold Yj Zxl Zhi Vm;simp [*])
   all_goals omega
  ·rintro ⟨st2,kind2,yes2⟩ rfl
   simp only
   clear htr
   have kp:=fun L=>Zvd r m j left d st2 L hm hj hleft
   generalize hpr:Xt m j d st2=pr at *
   have hcode:=Zy5 m j d st2
   rw [hpr] at hcode
   repeat' (first|refine uN ?_|refine Zu S ?_|(refine uB ?_;intro b)|(refine uP ?_ ?_<;>(intro h;((try simp only [zs,zq,reduceCtorEq] at h);try exact zx)))|refine da 101 ?_|fail)
   refine fo 5 ?_
   refine fo 5 ?_
   refine gc (kp _) ?_
   rintro v L' ⟨rfl,left2,hl2,rfl⟩
   cases he:pr.2.2 with
   | some e =>
    have h1:=hcode e he
    simp only [cdN]
    repeat' (first|refine uN ?_|refine Zu S ?_|(refine uB ?_;intro b)|(refine uP ?_ ?_<;>(intro h;((try simp only [zs,zq,reduceCtorEq] at h);try exact zx)))|refine da 101 ?_|fail)
    exact W9 (L':=Ze3 rs r.rj bR to0 ref::Q2 r pr.2.1::Wp r.rp pr.1 left2::[]::L) uL ⟨_,[],left2,rfl,Zv,by simpa using hl2,rfl⟩
   | none =>
    simp only [cdN]
    by_cases hk:kind2=0
    ·simp only [if_pos hk]
     repeat' (first|refine uN ?_|refine Zu S ?_|(refine uB ?_;intro b)|(refine uP ?_ ?_<;>(intro h;((try simp only [zs,zq,reduceCtorEq] at h);try exact zx)))|refine da 101 ?_|fail)
     exact W9 (L':=Ze3 rs r.rj bR to0 ref::Q2 r pr.2.1::Wp r.rp pr.1 left2::[]::L) uL ⟨_,[],left2,rfl,Zv,by simpa using hl2,rfl⟩
    ·simp only [if_neg hk]
     have hp6:=put_st (iv to0) (iv fr0) (iv d) (iv kind2) (iv at0) (.bool yes2) (iv 0) (iv 0) (iv 0) (iv st2.ph) (iv st2.pr) (iv st2.att)
     repeat' (first|refine uN ?_|refine Zu S ?_|(refine uB ?_;intro b)|(refine uP ?_ ?_<;>(intro h;((try simp only [zs,zq,reduceCtorEq] at h);try exact zx)))|refine da 101 ?_|fail)
     exact W9 (L':=Ze3 rs r.rj bR to0 ref::Q2 r pr.2.1::Wp r.rp pr.1 left2::[(b,.cells ⟨fc ⟨to0,fr0,d,kind2,at0,yes2,st2⟩⟩ 97)]::L) uL ⟨_,_,left2,rfl,Zxe _ rfl,by simpa using hl2,rfl⟩
 ·simp only [ne_eq,hto,not_false_eq_true,if_true]
  refine Za (fun _ _=>Tryz.call60 _ _) Tryz.func60 rfl Tryz.ntmps60 (Nat.le_of_ble_eq_true rfl) ?_;simp only [Zd,Nat.reduceAdd]
  repeat' (first|refine uN ?_|refine Z2 S ?_|refine Yp S ?_|refine uC (kfe _) ?_|refine Yb (fun _=>kfe _) ?_|refine Yc (fun _=>kfe _) ?_|refine Yd (fun _=>kfe _) ?_|refine Ye (fun _=>kfe _) ?_|(refine uB ?_;intro b)|(refine uP ?_ ?_<;>(intro h;((try simp only [zs,zq,reduceCtorEq] at h);try exact zx)))|refine da 101 ?_|fail)
  exact W9 (L':=Ze3 rs r.rj bR id ref::Q2 r j::Wp r.rp m left::[]::L) uL ⟨_,[],left,rfl,Zv,by simpa using hleft,rfl⟩
end Go.HL
end

/-! MwA -/
section
namespace Go.HL
open Go Go.Proofs
theorem spn {P:Program} {fn:Func} {Qv:Value→Zb→Prop} {ρ:Z5} {L L':Zb} (hL:LS L'.flatten L.flatten) (h:Qv (.tuple #[]) L') (hr:fn.results = #[]:=by rfl):Xm P fn Qv .normal ρ L:=fun k w a hs ha=>⟨_,L',by simp [results,hr],hs.sp hL,h⟩
def bc2 (p:Int × Int):List Value:=[iv p.1,iv p.2]
theorem Zdl (p:Int × Int):(bc2 p).length=2:=rfl
theorem Zv4 (p:Int × Int):(bc2 p).all Value.oneCell'=true:=rfl
def BrOk (l:List (Int × Int)) (f:Int × Int→Bool):Prop := ∀ a b:Int,f (min a b,max a b)=decide ((a,b)∈l∨(b,a)∈l)
def prs:List (Int × Int):=(List.range 49).map fun i=>(((i / 7:Nat):Int),((i % 7:Nat):Int))
theorem prs_in {a b:Int} (h0:0≤a) (h1:a<7) (h2:0≤b) (h3:b<7):(a,b)∈prs:=by
 refine List.mem_map.2 ⟨a.toNat*7+b.toNat,List.mem_range.2 (by omega),?_⟩
 refine Prod.ext ?_ ?_
 ·show (((a.toNat*7+b.toNat) / 7:Nat):Int)=a
  omega
 ·show (((a.toNat*7+b.toNat) % 7:Nat):Int)=b
  omega
theorem Zmt {α:Type} [DecidableEq α] : ∀ (l S:List α),l.Nodup→(∀ x∈l,x∈S)→l.length≤S.length
 | [],_,_,_=>Nat.zero_le _
 | a::l,S,hn,hs=>by
  have hn':=List.nodup_cons.1 hn
  have ha:=hs a List.mem_cons_self
  have:=Zmt l (S.erase a) hn'.2 fun x hx=>(List.mem_erase_of_ne (by intro e;subst e;exact hn'.1 hx)).2 (hs x (List.mem_cons_of_mem _ hx))
  rw [List.length_erase_of_mem ha] at this
  have hp:0<S.length:=List.length_pos_of_mem ha
  simp only [List.length_cons]
  omega
structure NrG where
 np:Nat
 rp:Nat
 left:Int
 rs:Nat
 bR:Nat
 r:RJ
 bl:Nat
 bd:Nat
 ld:List (Nat × Value × List Zr)
def rlB (aw:Option Addr) (cw:Nat):Option Ld→Nat × Value × List Zr→List Zr
 | none,_=>[]
 | some m,g=>U3 g.1 aw cw g.2.1 g.2.2 m
def Zd7 (g:NrG):Option (Jn × (Int→Bool))→Value
 | none => .pointer none
 | some _=>pt g.rs 0
def Zbg (g:NrG) (m:Nd):Obj := .cells ⟨[Zd7 g m.site,pt g.rp 0,sl g.bl 0 6 6,sl g.bd 0 6 6]⟩ 58
def Zd6 (g:NrG) (m:Nd):List Zr:=[(g.np,Zbg g m)]
def U4 (g:NrG) (m:Nd):List Value:=List.zipWith Zed m.leads g.ld
def Zhr (g:NrG) (m:Nd):List Zr:=[(g.bl,.cells ⟨U4 g m⟩ 83)]
def Zks (g:NrG) (m:Nd):List Zr:=[(g.bd,.cells ⟨m.done.map Value.bool⟩ 4)]
def Zlw (g:NrG) (i:Int):Option (Jn × (Int→Bool))→List Zr
 | none=>[]
 | some (_,ref)=>Ze3 g.rs g.r.rj g.bR i ref
def Zlv (g:NrG):Option (Jn × (Int→Bool))→List Zr
 | none=>[]
 | some (j,_)=>Q2 g.r j
def Zd5 (aw:Option Addr) (cw:Nat) (g:NrG) (m:Nd):List Zr:=(List.zipWith (rlB aw cw) m.leads g.ld).flatten
def Zgk (aw:Option Addr) (cw:Nat) (g:NrG) (i:Int) (m:Nd):List Zr:=Zd6 g m++(Zhr g m++(Zks g m++(Zlw g i m.site++(Zlv g m.site++(Wp g.rp m.pl g.left++Zd5 aw cw g m)))))
def Zal (aw:Option Addr) (cw:Nat):List NrG→List Nd→Nat→List Zr
 | g::gs,m::ms,i=>Zgk aw cw g i m++Zal aw cw gs ms (i+1)
 | _,_,_=>[]
def Vl (aw:Option Addr) (cw:Nat):List NrG→List Nd→Nat→Nat→List Zr
 | g::gs,m::ms,i,0=>Zal aw cw gs ms (i+1)
 | g::gs,m::ms,i,s+1=>Zgk aw cw g i m++Vl aw cw gs ms (i+1) s
 | _,_,_,_=>[]
section n
variable {aw:Option Addr} {cw:Nat}
theorem Zf6 : ∀ {gs:List NrG} {ms:List Nd} {i s:Nat} {g:NrG} {m:Nd},gs[s]? = some g→ms[s]? = some m→List.Perm (Zal aw cw gs ms i) (Zgk aw cw g ((i+s:Nat):Int) m++Vl aw cw gs ms i s)
 | [],_,_,_,_,_,h,_=>by simp at h
 | _::_,[],_,_,_,_,_,h=>by simp at h
 | g0::gs,m0::ms,i,0,g,m,h,h2=>by
  simp at h h2;subst h;subst h2
  exact .refl _
 | g0::gs,m0::ms,i,s+1,g,m,h,h2=>by
  have ih:=Zf6 (gs:=gs) (ms:=ms) (i:=i+1) (s:=s) (g:=g) (m:=m) (by simpa using h) (by simpa using h2)
  simp only [Zal,Vl]
  rw [show i+(s+1)=i+1+s by omega]
  refine (ih.append_left _).trans ?_
  rw [← List.append_assoc,← List.append_assoc]
  exact List.perm_append_comm.append_right _
theorem Zw2 : ∀ {gs:List NrG} {ms:List Nd} {i s:Nat} {g:NrG} {m:Nd},Vl aw cw (gs.set s g) (ms.set s m) i s=Vl aw cw gs ms i s
 | [],_,_,_,_,_=>by simp [Vl]
 | _::_,[],_,s,_,_=>by cases s<;>simp [Vl]
 | g0::gs,m0::ms,i,0,g,m=>rfl
 | g0::gs,m0::ms,i,s+1,g,m=>by
  simp only [List.set_cons_succ,Vl]
  rw [Zw2]
end n
structure RwG where
 wp:Nat
 aw:Option Addr
 cw:Nat
 wl:Nat
 nv:Value
 nc:List Zr
 bv:Value
 bc:List Zr
 bl:List (Int × Int)
 lv:Value
 lc:List Zr
 ev:Value
 ec:List Zr
 nd:List NrG
def Vt (G:RwG):Obj := .cells ⟨[.slice G.aw G.wl G.cw,G.nv,G.bv,G.lv,G.ev]⟩ 47
def Zei (G:RwG):Zb:=[[(G.wp,Vt G)],G.ec,G.lc,G.nc,G.bc]
def Wj (G:RwG) (M:Wm):Zb:=Zei G++[Zal G.aw G.cw G.nd M.n 0]
structure NrOk (g:NrG) (m:Nd):Prop where
 ld:g.ld.length=6
 rp:g.r.rp=g.rp
 left:m.pl.cut ≠ -1→g.left=m.pl.cut
 lok : ∀ (d:Nat) x,m.leads[d]? = some (some x) → ∀ q,g.ld[d]? = some q → ∃ hs,Z7 q.2.1 hs q.2.2∧RelH x hs
structure RwOk (G:RwG) (M:Wm):Prop where
 wl:G.wl=M.w.length
 nodes:Vec 52 1 pc G.nv (G.nd.map (·.np)) G.nc
 ndl:G.nd.length=M.n.length
 br:Vec 103 2 bc2 G.bv G.bl G.bc
 bro:BrOk G.bl M.br
 bln:G.bl.Nodup
 blr : ∀ p∈G.bl,p∈prs
 l:Z7 G.lv M.l G.lc
 ev:Vec 66 3 ec G.ev M.ev G.ec
 nd : ∀ (s:Nat) g m,G.nd[s]? = some g→M.n[s]? = some m→NrOk g m
theorem RwOk.bll {G:RwG} {M:Wm} (h:RwOk G M):G.bl.length≤49:=Zmt _ _ h.bln h.blr
def Yi (G:RwG) (s:Int):NrG:=G.nd.getD s.toNat ⟨0,0,0,0,0,⟨0,0,0,0,[],0,0,[]⟩,0,0,[]⟩
def W1 (G:RwG) (s:Int) (g:NrG) (m:Nd) (X:List Zr) (L:Zb):Zb:=
 [(G.wp,Vt G)]::G.ec::Zd6 g m::Zhr g m::Zks g m::Zlw g s m.site::Zlv g m.site::Wp g.rp m.pl g.left::Zd5 G.aw G.cw g m::G.lc::G.nc::G.bc::X::L
theorem Zsl (G:RwG) (s:Int) (g:NrG) (m:Nd) (X:List Zr) (L:Zb):(Zei G++[Zgk G.aw G.cw g s m++X]++L).flatten=([(G.wp,Vt G)]::G.ec::G.lc::G.nc::G.bc::Zd6 g m::Zhr g m::Zks g m::Zlw g s m.site::Zlv g m.site::Wp g.rp m.pl g.left::Zd5 G.aw G.cw g m::X::L).flatten:=by
 simp only [Zei,Zgk,List.flatten_cons,List.flatten_append,List.cons_append,List.nil_append,List.append_assoc,List.flatten_nil,List.append_nil]
theorem rwOp_ls (G:RwG) (s:Int) (g:NrG) (m:Nd) (X:List Zr) (L:Zb):LS (W1 G s g m X L).flatten (Zei G++[Zgk G.aw G.cw g s m++X]++L).flatten:=by
 rw [Zsl,W1]
 exact uL
theorem Zw4 (G:RwG) (s:Int) (g:NrG) (m:Nd) (X:List Zr) (L:Zb):LS (Zei G++[Zgk G.aw G.cw g s m++X]++L).flatten (W1 G s g m X L).flatten:=by
 rw [Zsl,W1]
 exact uL
theorem Zsh {aw:Option Addr} {cw:Nat} {gs:List NrG} {ms:List Nd} {s:Int} {g:NrG} {m:Nd} (h0:0≤s) (hg:gs[s.toNat]? = some g) (hm:ms[s.toNat]? = some m) (T:Zb) (L:Zb):List.Perm (T++[Zal aw cw gs ms 0]++L).flatten (T++[Zgk aw cw g s m++Vl aw cw gs ms 0 s.toNat]++L).flatten:=by
 have:=Zf6 (aw:=aw) (cw:=cw) (i:=0) hg hm
 rw [Vu h0] at this
 simp only [List.flatten_append,List.flatten_cons,List.flatten_nil,List.append_nil]
 exact (this.append_left _).append_right _
theorem Zis {G:RwG} {M:Wm} {s:Int} (hl:G.nd.length=M.n.length) (h0:0≤s) (h1:s<M.n.length) (L:Zb):LS (W1 G s (Yi G s) (Zf M s) (Vl G.aw G.cw G.nd M.n 0 s.toNat) L).flatten (Wj G M++L).flatten:=by
 have hg:G.nd[s.toNat]? = some (Yi G s):=getD_some (by omega)
 have hm:M.n[s.toNat]? = some (Zf M s):=getD_some (by omega)
 refine LS.trans (rwOp_ls _ _ _ _ _ _) (LS.of_perm ?_)
 exact (Zsh h0 hg hm (Zei G) L).symm
theorem Zky {G:RwG} {gs:List NrG} {ms:List Nd} {s:Int} {g:NrG} {m:Nd} (h0:0≤s) (h1:s.toNat<gs.length) (h2:s.toNat<ms.length) (L:Zb):LS (Zei G++[Zal G.aw G.cw (gs.set s.toNat g) (ms.set s.toNat m) 0]++L).flatten (W1 G s g m (Vl G.aw G.cw gs ms 0 s.toNat) L).flatten:=by
 have hg:(gs.set s.toNat g)[s.toNat]? = some g:=by simp [h1]
 have hm:(ms.set s.toNat m)[s.toNat]? = some m:=by simp [h2]
 refine LS.trans (LS.of_perm (Zsh h0 hg hm (Zei G) L)) ?_
 rw [Zw2]
 exact Zw4 _ _ _ _ _ _
theorem U5 {G:RwG} {M:Wm} (h:RwOk G M) {s:Int} (h0:0≤s) (h1:s<M.n.length):NrOk (Yi G s) (Zf M s):=by
 have hl:=h.ndl
 exact h.nd s.toNat _ _ (getD_some (by omega)) (getD_some (by omega))
theorem RwOk.setL {G:RwG} {M:Wm} (h:RwOk G M) {lv:Value} {lc:List Zr} {l:List Fr} (hv:Z7 lv l lc):RwOk { G with lv:=lv,lc:=lc } { M with l:=l }:=⟨h.wl,h.nodes,h.ndl,h.br,h.bro,h.bln,h.blr,hv,h.ev,h.nd⟩
theorem RwOk.setE {G:RwG} {M:Wm} (h:RwOk G M) {ev:Value} {c:List Zr} {l:List Evt} (hv:Vec 66 3 ec ev l c):RwOk { G with ev:=ev,ec:=c } { M with ev:=l }:=⟨h.wl,h.nodes,h.ndl,h.br,h.bro,h.bln,h.blr,h.l,hv,h.nd⟩
theorem RwOk.setB {G:RwG} {M:Wm} (h:RwOk G M) {bv:Value} {c:List Zr} {l:List (Int × Int)} {f:Int × Int→Bool} (hv:Vec 103 2 bc2 bv l c) (hb:BrOk l f) (h2:l.Nodup) (h3 : ∀ p∈l,p∈prs):RwOk { G with bv:=bv,bc:=c,bl:=l } { M with br:=f }:=⟨h.wl,h.nodes,h.ndl,hv,hb,h2,h3,h.l,h.ev,h.nd⟩
theorem Ziq {G:RwG} {s:Int} {g:NrG} (h0:0≤s) (h1:s<G.nd.length) (hp:g.np=(Yi G s).np):(G.nd.set s.toNat g).map (·.np)=G.nd.map (·.np):=by
 rw [List.map_set,hp]
 have hg:G.nd[s.toNat]? = some (Yi G s):=getD_some (by omega)
 refine List.ext_getElem? fun i=>?_
 rw [List.getElem?_set]
 split
 ·rename_i hi
  subst hi
  rw [if_pos (by simp;omega),List.getElem?_map,hg]
  rfl
 ·rfl
theorem RwOk.put {G:RwG} {M:Wm} (h:RwOk G M) {s:Int} {g:NrG} {m:Nd} (h0:0≤s) (h1:s<M.n.length) (hn:NrOk g m) (hp:g.np=(Yi G s).np):RwOk { G with nd:=G.nd.set s.toNat g } (Y0 M s m):=by
 have hl:=h.ndl
 have e:=Ziq (G:=G) h0 (by omega) hp
 refine ⟨h.wl,by simp only [e];exact h.nodes,by simp [Y0,hl],h.br,h.bro,h.bln,h.blr,h.l,h.ev,fun q g1 m1 Yw hq2=>?_⟩
 simp only [Y0,List.getElem?_set] at Yw hq2
 by_cases hq:s.toNat=q
 ·rw [if_pos hq] at Yw hq2
  split at Yw
  ·split at hq2
   ·cases Yw;cases hq2;exact hn
   ·cases hq2
  ·cases Yw
 ·rw [if_neg hq] at Yw hq2
  exact h.nd q g1 m1 Yw hq2
structure RwS (G G':RwG):Prop where
 wp:G'.wp=G.wp
 aw:G'.aw=G.aw
 cw:G'.cw=G.cw
 wl:G'.wl=G.wl
 np:G'.nd.map (·.np)=G.nd.map (·.np)
theorem RwS.refl (G:RwG):RwS G G:=⟨rfl,rfl,rfl,rfl,rfl⟩
theorem RwS.trans {G G' G'':RwG} (h:RwS G G') (h2:RwS G' G''):RwS G G'':=⟨h2.wp.trans h.wp,h2.aw.trans h.aw,h2.cw.trans h.cw,h2.wl.trans h.wl,h2.np.trans h.np⟩
def Zlh (G:RwG) (M':Wm) (L L':Zb):Prop := ∃ G',RwS G G'∧RwOk G' M'∧L'=Wj G' M'++L
theorem Ub {G:RwG} {M:Wm} (h:RwOk G M) (L:Zb):Zlh G M L (Wj G M++L):=⟨G,.refl G,h,rfl⟩
theorem Zwt {G G':RwG} (h:RwS G G') {s:Int} (h0:0≤s) (h1:s<G.nd.length):(Yi G' s).np=(Yi G s).np:=by
 have h:=h.np
 have hl:G'.nd.length=G.nd.length:=by simpa using congrArg List.length h
 have e1:G'.nd[s.toNat]? = some (Yi G' s):=getD_some (by omega)
 have e2:G.nd[s.toNat]? = some (Yi G s):=getD_some (by omega)
 have:=congrArg (fun l=>l[s.toNat]?) h
 simp only [List.getElem?_map,e1,e2,Option.map_some,Option.some.injEq] at this
 exact this
theorem HC.nodeR {F:Nat} {args:List Value} {G:RwG} {M M':Wm} {s:Int} {L:Zb} {V:Value→List Zr→Prop} (h:RwOk G M) (h0:0≤s) (h1:s<M.n.length)
  (k:HC Tryz.prog F args (W1 G s (Yi G s) (Zf M s) (Vl G.aw G.cw G.nd M.n 0 s.toNat) L) (fun v L' => ∃ c,V v c ∧ ∃ G' M1 g' m',RwOk G' M1∧G'.nd=G.nd∧M1.n=M.n∧RwS G G'∧NrOk g' m'∧g'.np=(Yi G s).np∧M'=Y0 M1 s m'∧L'=W1 G' s g' m' (Vl G.aw G.cw G.nd M.n 0 s.toNat) (c::L))) :
  HC Tryz.prog F args (Wj G M++L) (fun v L' => ∃ c,V v c∧Zlh G M' (c::L) L'):=by
 have hl:=h.ndl
 refine HC.post (HC.sp k (Zis hl h0 h1 L)) ?_
 rintro v L' ⟨c,hv,G',M1,g',m',hW,e1,e2,e3,hN,e4,rfl,rfl⟩
 have hnp:g'.np=(Yi G' s).np:=by rw [e4];unfold Yi;rw [e1]
 have eaw:=e3.aw
 have ecw:=e3.cw
 have hps:=Ziq (G:=G') (g:=g') h0 (by rw [e1];omega) hnp
 refine ⟨Wj { G' with nd:=G'.nd.set s.toNat g' } (Y0 M1 s m')++(c::L),?_,c,hv,{ G' with nd:=G'.nd.set s.toNat g' },⟨e3.wp,e3.aw,e3.cw,e3.wl,hps.trans e3.np⟩,hW.put h0 (by rw [e2];exact h1) hN hnp,rfl⟩
 simp only [Wj,Y0,e1,e2]
 rw [← eaw,← ecw]
 exact Zky (G:=G') (gs:=G.nd) (ms:=M.n) (s:=s) (g:=g') (m:=m') h0 (by omega) (by omega) (c::L)
theorem HC.nodeR0 {F:Nat} {args:List Value} {G:RwG} {M M':Wm} {s:Int} {L:Zb} {V:Value→Prop} (h:RwOk G M) (h0:0≤s) (h1:s<M.n.length)
  (k:HC Tryz.prog F args (W1 G s (Yi G s) (Zf M s) (Vl G.aw G.cw G.nd M.n 0 s.toNat) L) (fun v L'=>V v ∧ ∃ G' M1 g' m',RwOk G' M1∧G'.nd=G.nd∧M1.n=M.n∧RwS G G'∧NrOk g' m'∧g'.np=(Yi G s).np∧M'=Y0 M1 s m'∧L'=W1 G' s g' m' (Vl G.aw G.cw G.nd M.n 0 s.toNat) L)) :
  HC Tryz.prog F args (Wj G M++L) (fun v L'=>V v∧Zlh G M' L L'):=by
 have hl:=h.ndl
 refine HC.post (HC.sp k (Zis hl h0 h1 L)) ?_
 rintro v L' ⟨hv,G',M1,g',m',hW,e1,e2,e3,hN,e4,rfl,rfl⟩
 have hnp:g'.np=(Yi G' s).np:=by rw [e4];unfold Yi;rw [e1]
 have eaw:=e3.aw
 have ecw:=e3.cw
 have hps:=Ziq (G:=G') (g:=g') h0 (by rw [e1];omega) hnp
 refine ⟨Wj { G' with nd:=G'.nd.set s.toNat g' } (Y0 M1 s m')++L,?_,hv,{ G' with nd:=G'.nd.set s.toNat g' },⟨e3.wp,e3.aw,e3.cw,e3.wl,hps.trans e3.np⟩,hW.put h0 (by rw [e2];exact h1) hN hnp,rfl⟩
 simp only [Wj,Y0,e1,e2]
 rw [← eaw,← ecw]
 exact Zky (G:=G') (gs:=G.nd) (ms:=M.n) (s:=s) (g:=g') (m:=m') h0 (by omega) (by omega) L
structure RwIn (L:Zb) (G:RwG) (M:Wm):Prop where
 wp:Has L G.wp (Vt G)
 ns : ∃ a cap,G.nv = .slice a M.n.length cap∧Rd pc 1 L a (G.nd.map (·.np))
 bs : ∃ a cap,G.bv = .slice a G.bl.length cap∧Rd bc2 2 L a G.bl
 ls : ∃ a cap,G.lv = .slice a M.l.length cap∧Rd fc 9 L a M.l
 es : ∃ a cap,G.ev = .slice a M.ev.length cap
theorem RwIn.mono {L L':Zb} {G:RwG} {M:Wm} (h:RwIn L G M) (hl : ∀ b o,Has L b o→Has L' b o):RwIn L' G M:=by
 obtain ⟨h1,⟨a2,c2,e2,r2⟩,⟨a3,c3,e3,r3⟩,⟨a4,c4,e4,r4⟩,h5⟩:=h
 exact ⟨hl _ _ h1,⟨a2,c2,e2,r2.mono hl⟩,⟨a3,c3,e3,r3.mono hl⟩,⟨a4,c4,e4,r4.mono hl⟩,h5⟩
theorem rwInT {G:RwG} {M:Wm} (h:RwOk G M):RwIn (Zei G) G M:=by
 refine ⟨Zh,?_,?_,?_,?_⟩
 ·obtain ⟨a,cap,e,-,hR⟩:=h.nodes.rd Wz
  refine ⟨a,cap,by rw [e,List.length_map,h.ndl],(hR []).mono fun b o hb=>?_⟩
  simp only [Has,List.flatten_cons,List.flatten_nil,List.append_nil,Zei] at hb ⊢
  simp [hb]
 ·obtain ⟨a,cap,e,-,hR⟩:=h.br.rd Zdl
  refine ⟨a,cap,e,(hR []).mono fun b o hb=>?_⟩
  simp only [Has,List.flatten_cons,List.flatten_nil,List.append_nil,Zei] at hb ⊢
  simp [hb]
 ·obtain ⟨a,cap,e,-,hR⟩:=h.l.rd Zl
  refine ⟨a,cap,e,(hR []).mono fun b o hb=>?_⟩
  simp only [Has,List.flatten_cons,List.flatten_nil,List.append_nil,Zei] at hb ⊢
  simp [hb]
 ·obtain ⟨a,cap,e,-,hR⟩:=h.ev.rd U0
  exact ⟨a,cap,e⟩
theorem rwIn {L:Zb} {G:RwG} {M:Wm} (h:RwOk G M) (hl : ∀ b o,Has (Zei G) b o→Has L b o):RwIn L G M:=(rwInT h).mono hl
theorem Zf9 {G:RwG} {M:Wm} (h:RwOk G M) (L:Zb):RwIn (Wj G M++L) G M:=rwIn h fun b o hb=>by
 unfold Has Wj at *
 rw [List.append_assoc,List.flatten_append]
 exact List.mem_append_left _ hb
theorem rwOp_in {G:RwG} {M:Wm} (h:RwOk G M) (s:Int) (g:NrG) (m:Nd) (X:List Zr) (L:Zb):RwIn (W1 G s g m X L) G M:=rwIn h fun b o hb=>by
 unfold Has at *
 obtain ⟨l,h1,h2⟩:=Zw4 G s g m X L
 refine h2.subset (h1.mem_iff.2 ?_)
 rw [List.append_assoc,List.flatten_append]
 exact List.mem_append_left _ hb
theorem Zkz {L:Zb} {G:RwG} {M:Wm} {s:Int} (hI:RwIn L G M) (hl:G.nd.length=M.n.length) (h0:0≤s) (h1:s<M.n.length) : ∃ b i l F fr cap,G.nv=sl b i M.n.length cap∧Has L b (.cells ⟨l⟩ F fr)∧l[i+s.toNat]? = some (pt (Yi G s).np 0):=by
 obtain ⟨a,cap,hnv,hR⟩:=hI.ns
 obtain ⟨b,i,l,F,fr,rfl,hb,hg⟩:=hR.at1 (j:=s) h0 (by simp;omega)
 refine ⟨b,i,l,F,fr,cap,hnv,hb,?_⟩
 have e:(G.nd.map (·.np))[s.toNat]'(by simp;omega)=(Yi G s).np:=by
  rw [List.getElem_map]
  unfold Yi
  rw [List.getD,List.getElem?_eq_getElem (by omega)]
  rfl
 rw [e] at hg
 exact hg 0 _ rfl
theorem Zpa {G:RwG} {M:Wm} {s:Int} (hl:G.nd.length=M.n.length) (h0:0≤s) (h1:s<M.n.length) {b:Nat} {o:Obj} (hb:(b,o)∈Zgk G.aw G.cw (Yi G s) s (Zf M s)) (L:Zb):Has (Zal G.aw G.cw G.nd M.n 0::L) b o:=by
 have hg:G.nd[s.toNat]? = some (Yi G s):=getD_some (by omega)
 have hm:M.n[s.toNat]? = some (Zf M s):=getD_some (by omega)
 have:=Zf6 (aw:=G.aw) (cw:=G.cw) (i:=0) hg hm
 rw [Vu h0] at this
 unfold Has
 rw [List.flatten_cons]
 exact List.mem_append_left _ (this.mem_iff.2 (List.mem_append_left _ hb))
theorem Zf8 {G:RwG} {M:Wm} {s:Int} (hl:G.nd.length=M.n.length) (h0:0≤s) (h1:s<M.n.length) {b:Nat} {o:Obj} (hb:(b,o)∈Zgk G.aw G.cw (Yi G s) s (Zf M s)) (L:Zb):Has (Wj G M++L) b o:=by
 have hg:G.nd[s.toNat]? = some (Yi G s):=getD_some (by omega)
 have hm:M.n[s.toNat]? = some (Zf M s):=getD_some (by omega)
 have:=Zf6 (aw:=G.aw) (cw:=G.cw) (i:=0) hg hm
 rw [Vu h0] at this
 unfold Has Wj
 rw [List.append_assoc,List.flatten_append,List.flatten_append]
 refine List.mem_append_right _ (List.mem_append_left _ ?_)
 rw [List.flatten_cons,List.flatten_nil,List.append_nil]
 exact this.mem_iff.2 (List.mem_append_left _ hb)
theorem Zds {G:RwG} {M:Wm} {s:Int} (hl:G.nd.length=M.n.length) (h0:0≤s) (h1:s<M.n.length) (L:Zb):Has (Wj G M++L) (Yi G s).np (Zbg (Yi G s) (Zf M s)):=Zf8 hl h0 h1 (by simp [Zgk,Zd6]) L
theorem rw_hasP {G:RwG} {M:Wm} {s:Int} (hl:G.nd.length=M.n.length) (h0:0≤s) (h1:s<M.n.length) (L:Zb) : ∀ p∈Wp (Yi G s).rp (Zf M s).pl (Yi G s).left,Has (Wj G M++L) p.1 p.2:=fun p hp=>Zf8 hl h0 h1 (by simp [Zgk,hp]) L
end Go.HL
end

/-! MwB -/
section
namespace Go.HL
open Go Go.Proofs
set_option maxHeartbeats 2000000 attribute [local irreducible] HW HO HQ HD HC QOp Has Upd Zt Gets Z8 Z0 Zo Xm Zz Zj Xp Zy
attribute [local irreducible] Zn Q2 Wp
theorem Zm5 (G:RwG) (M:Wm) (s:Int) (L:Zb) (hI:RwIn L G M) (hl:G.nd.length=M.n.length) (hN:Xs M s=none→Has L (Yi G s).np (Zbg (Yi G s) (Zf M s))):HC Tryz.prog 34 [pt G.wp 0,iv s] L (fun v L'=>v=iv (cdN (Zco M s))∧L'=L):=by
 have hw:=hI.wp
 unfold Vt at hw
 by_cases h:s<0∨M.n.length≤s
 ·have e:Zco M s=some 2:=by
   have:Xs M s=some 2:=if_pos h
   unfold Zco;rw [this]
  obtain ⟨a,cap,hnv,hR⟩:=hI.ns
  rw [hnv] at hw
  rw [e]
  by_cases h0:s<0
  ·refine Za (fun _ _=>Tryz.call34 _ _) Tryz.func34 rfl Tryz.ntmps34 (Nat.le_of_ble_eq_true rfl) ?_;simp only [Zd,Nat.reduceAdd]
   repeat' (first|refine uN ?_|(refine uP ?_ ?_<;>(intro h;((try simp only [zs,zq,reduceCtorEq] at h);try exact zx)))|fail)
   exact Um rfl ⟨rfl,rfl⟩
  ·refine Za (fun _ _=>Tryz.call34 _ _) Tryz.func34 rfl Tryz.ntmps34 (Nat.le_of_ble_eq_true rfl) ?_;simp only [Zd,Nat.reduceAdd]
   repeat' (first|refine uN ?_|(refine uP ?_ ?_<;>(intro h;((try simp only [zs,zq,reduceCtorEq] at h);try exact zx)))|fail)
   exact Um rfl ⟨rfl,rfl⟩
 ·have e:Xs M s=none:=if_neg h
  have hN':=hN e
  have hu:Zco M s=if (Zf M s).site.isNone then some 6 else none:=by unfold Zco;rw [e]
  obtain ⟨b,i,l,F,fr,cap,hnv,hb,hg⟩:=Zkz hI hl (s:=s) (by omega) (by omega)
  rw [hnv] at hw
  unfold Zbg at hN'
  rw [hu]
  cases hs:(Zf M s).site with
  | none =>
   rw [hs] at hN'
   simp only [Zd7] at hN'
   refine Za (fun _ _=>Tryz.call34 _ _) Tryz.func34 rfl Tryz.ntmps34 (Nat.le_of_ble_eq_true rfl) ?_;simp only [Zd,Nat.reduceAdd]
   repeat' (first|refine uN ?_|(refine uP ?_ ?_<;>(intro h;((try simp only [zs,zq,reduceCtorEq] at h);try exact zx)))|fail)
   exact Um rfl ⟨rfl,rfl⟩
  | some q =>
   rw [hs] at hN'
   simp only [Zd7] at hN'
   refine Za (fun _ _=>Tryz.call34 _ _) Tryz.func34 rfl Tryz.ntmps34 (Nat.le_of_ble_eq_true rfl) ?_;simp only [Zd,Nat.reduceAdd]
   repeat' (first|refine uN ?_|(refine uP ?_ ?_<;>(intro h;((try simp only [zs,zq,reduceCtorEq] at h);try exact zx)))|fail)
   exact Um rfl ⟨rfl,rfl⟩
theorem Zb5 (G:RwG) (M:Wm) (s:Int) (d:Nat) (L:Zb) (hI:RwIn L G M) (hl:G.nd.length=M.n.length) (h0:0≤s) (h1:s<M.n.length) (hd:d<6) (hb5:(Zf M s).pl.b.length=512) (hN:Has L (Yi G s).np (Zbg (Yi G s) (Zf M s))) (hP : ∀ p∈Wp (Yi G s).rp (Zf M s).pl (Yi G s).left,Has L p.1 p.2) :
  HC Tryz.prog 29 [pt G.wp 0,iv s,iv d] L (fun v L'=>v = .agg ⟨sc (Xf (Zf M s).pl d)⟩∧L'=L):=by
 have hw:=hI.wp
 unfold Vt at hw
 obtain ⟨b,i,l,F,fr,cap,hnv,hb,hg⟩:=Zkz hI hl h0 h1
 rw [hnv] at hw
 unfold Zbg at hN
 have hp:=hP _ (by unfold Wp;exact List.mem_singleton.2 rfl)
 simp only at hp
 have kd:=fun L=>Zeg (Zf M s).pl.b d L hd (by omega) (by omega)
 have e:Xf (Zf M s).pl d=(Xc (Zf M s).pl.b d).s:=by
  unfold Xf Zn
  simp [List.getD,hd]
 rw [e]
 generalize Xc (Zf M s).pl.b d=D at *
 refine Za (fun _ _=>Tryz.call29 _ _) Tryz.func29 rfl Tryz.ntmps29 (Nat.le_of_ble_eq_true rfl) ?_;simp only [Zd,Nat.reduceAdd]
 repeat' (first|refine uN ?_|refine uC (kd _) ?_|(refine uB ?_;intro b)|fail)
 exact Z9 uL ⟨rfl,rfl⟩ (hv:=Xy S (hg:=Ze rfl (Ze rfl (Ze rfl Z4))))
theorem Zhn (g:NrG) (m:Nd) (L:Zb) (hd:g.ld.length=6):HC Tryz.prog 42 [pt g.np 0] (Zd6 g m::L) (fun v L' => ∃ bl,v = .tuple ⟨[]⟩∧L'=Zd6 { g with bl:=bl } { m with site:=none,leads:=noLeads }::Zhr { g with bl:=bl } { m with site:=none,leads:=noLeads }::L):=by
 have e:List.zipWith Zed noLeads g.ld=Zyt:=Zj9 _ hd
 simp only [Zd6,Zbg,Zhr,U4,e,Zd7]
 refine Za (fun _ _=>Tryz.call42 _ _) Tryz.func42 rfl Tryz.ntmps42 (Nat.le_of_ble_eq_true rfl) ?_;simp only [Zd,Nat.reduceAdd]
 repeat' (first|refine uN ?_|(refine uB ?_;intro b)|fail)
 exact spn (L':=[(g.np,.cells ⟨[.pointer none,pt g.rp 0,sl b 0 6 6,sl g.bd 0 6 6]⟩ 58)]::[(b,.cells ⟨Zyt⟩ 83)]::L) uL ⟨b,rfl,rfl⟩
end Go.HL
end

/-! MwC -/
section
namespace Go.HL
open Go Go.Proofs
structure RsIn (L:Zb) (g:NrG) (id:Int) (j:Jn):Prop where
 si : ∃ bR,Has L g.rs (.cells ⟨[iv id,pt g.r.rj 0,bR]⟩ 82)
 rj:Has L g.r.rj (.cells ⟨Zf4 g.r j.dead⟩ 89)
 st:Has L g.r.bS (.cells ⟨((j.l.map Ent.s).map sc).flatten++g.r.spS⟩ 69)
theorem dn_get {dn:List Bool} {d:Nat} {b:Bool} (h:dn[d]? = some b):(dn.map Value.bool)[0+(d:Int).toNat]? = some (.bool b):=by
 rw [Nat.zero_add,Int.toNat_natCast,List.getElem?_map,h];rfl
theorem dn_put {dn:List Bool} {d:Nat} (b:Bool) (h:d<dn.length):Zt (dn.map Value.bool) (0+(d:Int).toNat) [.bool b] ((dn.set d b).map Value.bool):=by
 have e:(dn.set d b).map Value.bool=(dn.map Value.bool).set (0+(d:Int).toNat) (.bool b):=by
  rw [Nat.zero_add,Int.toNat_natCast,List.map_set]
 rw [e]
 exact Vf (by simp;omega)
theorem Zx3 {l:List Value} {i:Nat} {v:Value} {vs:List Value} (h:Gets l i (v::vs)):l[i+0]? = some v:=h 0 v rfl
set_option maxHeartbeats 2000000 attribute [local irreducible] HW HO HQ HD HC QOp Has Upd Zt Gets Z8 Z0 Zo Xm Zz Zj Xp Zy
attribute [local irreducible] Zn Wl
theorem Zvc (G:RwG) (M:Wm) (a b:Int) (L:Zb) (hI:RwIn L G M) (hb:BrOk G.bl M.br) (hbl:G.bl.length≤49):HC Tryz.prog 46 [pt G.wp 0,iv a,iv b] L (fun v L'=>v = .bool (M.br (min a b,max a b))∧L'=L):=by
 have hw:=hI.wp
 unfold Vt at hw
 obtain ⟨ab,cap,hbv,hR⟩:=hI.bs
 rw [hbv] at hw
 rw [hb a b]
 generalize G.bl=bl at *
 refine Za (fun _ _=>Tryz.call46 _ _) Tryz.func46 rfl Tryz.ntmps46 (Nat.le_of_ble_eq_true rfl) ?_;simp only [Zd,Nat.reduceAdd]
 repeat' (first|refine uN ?_|(refine uP ?_ ?_<;>(intro h;((try simp only [zs,zq,reduceCtorEq] at h);try exact zx)))|fail)
 refine Zp (σ:=Nat) (fun k=>[(0,pt G.wp 0),(1,iv a),(2,iv b),(7,iv k)]) (fun _=>L) (fun k=>k≤bl.length ∧ ¬ ((a,b)∈bl.take k∨(b,a)∈bl.take k)) (fun k=>bl.length-k) 0 uS (List.Sublist.refl _) ⟨by omega,by simp⟩ ?_
 rintro k ⟨hk,hn⟩
 by_cases hlt:k<bl.length
 ·obtain ⟨bh,ih,lh,Eh,frh,hah,hbh,hgh⟩:=hR.at (j:=(k:Int)) (by omega) (by omega)
  subst hah
  have hg0:Gets lh (ih+(k:Int).toNat*2) (bc2 bl[k]):=hgh
  have hx:bl[k]∈bl:=List.getElem_mem _
  have hs:bl.take (k+1)=bl.take k++[bl[k]]:=List.take_succ_eq_append_getElem hlt
  generalize bl[k]=x at *
  obtain ⟨x1,x2⟩:=x
  by_cases h1:(x1,x2)=(a,b)
  ·cases h1
   rw [decide_eq_true (.inl hx)]
   repeat' (first|refine uN ?_|(refine uP ?_ ?_<;>(intro h;((try simp only [zs,zq,reduceCtorEq] at h);try exact zx)))|fail)
   exact Z9 uL ⟨rfl,rfl⟩
  ·by_cases h2:(x1,x2)=(b,a)
   ·cases h2
    rw [decide_eq_true (.inr hx)]
    repeat' (first|refine uN ?_|(refine uP ?_ ?_<;>(intro h;((try simp only [zs,zq,reduceCtorEq] at h);try exact zx)))|fail)
    all_goals exact Z9 uL ⟨rfl,rfl⟩
   ·repeat' (first|refine uN ?_|(refine uP ?_ ?_<;>(intro h;((try simp only [zs,zq,reduceCtorEq] at h);try exact zx)))|fail)
    ·exact absurd (Prod.ext (by assumption:x1=a∧x2=b).1 (by assumption:x1=a∧x2=b).2) h1
    ·exact absurd (Prod.ext (by assumption:x1=b∧x2=a).1 (by assumption:x1=b∧x2=a).2) h2
    all_goals refine Zg (k+1) uS uL ⟨by omega,?_⟩ (by omega)
    all_goals rw [hs]
    all_goals simp only [List.mem_append,List.mem_singleton]
    all_goals rintro ((h|h)|(h|h))
    all_goals first|exact hn (.inl h)|exact hn (.inr h)|exact h1 h.symm|exact h2 h.symm
 ·rw [List.take_of_length_le (by omega)] at hn
  rw [decide_eq_false hn]
  repeat' (first|refine uN ?_|(refine uP ?_ ?_<;>(intro h;((try simp only [zs,zq,reduceCtorEq] at h);try exact zx)))|fail)
  exact Z9 uL ⟨rfl,rfl⟩
theorem Zhs (G:RwG) (s:Int) (g:NrG) (m:Nd) (ev:List Evt) (n:Nat) (L:Zb) (hv:Vec 66 3 ec G.ev ev G.ec) (hl:ev.length≤500) (hp:NpIn L G.nv n s g.np) (hN:Has L g.np (Zbg g m)) (hd:m.done.length=6)
  (hs : ∀ j ref,m.site=some (j,ref)→RsIn L g s j∧j.l.length=6):HC Tryz.prog 44 [pt G.wp 0,iv s] ([(G.wp,Vt G)]::G.ec::Zks g m::L)
  (fun v L' => ∃ evv c,Vec 66 3 ec evv (Xd s m ev).2 c∧v = .tuple ⟨[]⟩∧L'=[(G.wp,Vt { G with ev:=evv,ec:=c })]::c::Zks g { m with done:=(Xd s m ev).1 }::L):=by
 obtain ⟨wp,aw,cw,wl,nv,nc,bv,bc,bl,lv,lc,evv,evc,nd⟩:=G
 simp only at hv hp
 obtain ⟨⟨b,i,l,F,fr,cap,rfl,hb,hg⟩,h0,h1⟩:=hp
 obtain ⟨pl,site,leads,done⟩:=m
 simp only at hd hs
 unfold Zbg at hN
 simp only [Vt,Zks]
 cases site with
 | none =>
  simp only [Xd,Zd7] at hN ⊢
  refine Za (fun _ _=>Tryz.call44 _ _) Tryz.func44 rfl Tryz.ntmps44 (Nat.le_of_ble_eq_true rfl) ?_;simp only [Zd,Nat.reduceAdd]
  repeat' (first|refine uN ?_|(refine uB ?_;intro b)|(refine uP ?_ ?_<;>(intro h;((try simp only [zs,zq,reduceCtorEq] at h);try exact zx)))|fail)
  refine Zp (σ:=Unit) (fun q=>[(0,pt wp 0),(1,iv s),(4,pt g.np 0),(5,iv 0)])
   (fun q=>[(wp,.cells ⟨[.slice aw wl cw,sl b i n cap,bv,lv,evv]⟩ 47)]::evc::[(g.bd,.cells ⟨done.map Value.bool⟩ 4)]::L) (fun _=>True) (fun _=>0) () uS (List.Sublist.refl _) trivial ?_
  rintro - -
  repeat' (first|refine uN ?_|(refine uB ?_;intro b)|(refine uP ?_ ?_<;>(intro h;((try simp only [zs,zq,reduceCtorEq] at h);try exact zx)))|fail)
  exact spn (LS.refl _) ⟨_,_,hv,rfl,rfl⟩
 | some q =>
  obtain ⟨j,ref⟩:=q
  obtain ⟨⟨⟨bR,hsi⟩,hrj,hst⟩,hjl⟩:=hs j ref rfl
  simp only [Xd,Zd7] at hN ⊢
  unfold Zf4 at hrj
  have kf:=fun p L=>Zbv p L
  refine Za (fun _ _=>Tryz.call44 _ _) Tryz.func44 rfl Tryz.ntmps44 (Nat.le_of_ble_eq_true rfl) ?_;simp only [Zd,Nat.reduceAdd]
  repeat' (first|refine uN ?_|(refine uB ?_;intro b)|(refine uP ?_ ?_<;>(intro h;((try simp only [zs,zq,reduceCtorEq] at h);try exact zx)))|fail)
  refine Zp (σ:=Nat × (Value × List Zr)) (fun q=>[(0,pt wp 0),(1,iv s),(4,pt g.np 0),(5,iv q.1)])
   (fun q=>[(wp,.cells ⟨[.slice aw wl cw,sl b i n cap,bv,lv,q.2.1]⟩ 47)]::q.2.2::[(g.bd,.cells ⟨(Ur s (V3 j) (done,ev) q.1).1.map Value.bool⟩ 4)]::L)
   (fun q=>q.1≤6∧Vec 66 3 ec q.2.1 (Ur s (V3 j) (done,ev) q.1).2 q.2.2) (fun q=>6-q.1) (0,evv,evc) uS (List.Sublist.refl _) ⟨by simp,hv⟩ ?_
  rintro ⟨d,ev1,c1⟩ ⟨hd6,hv1⟩
  simp only at hd6 hv1 ⊢
  have hdl:=Zbe (s:=s) (ph:=V3 j) (q:=(done,ev)) d
  have hel:=Zfv (s:=s) (ph:=V3 j) (q:=(done,ev)) hl d
  have hsucc:=Qk s (V3 j) (done,ev) d
  generalize hRR:Ur s (V3 j) (done,ev) d=R at *
  obtain ⟨dn,es1⟩:=R
  simp only at hdl hel hv1 ⊢
  by_cases hlt:d<6
  ·have hdn:dn[d]? = some (dn.getD d true):=getD_some (by omega)
   have gD:=dn_get hdn
   have gP:=dn_put (dn:=dn) (d:=d) true (by omega)
   have gS:=Zo0 (r:=g.r) (j:=j) (d:=d) (e:=j.l.getD d Zm) (by simp [List.getD,hjl,hlt])
   have gS0:(((j.l.map Ent.s).map sc).flatten++g.r.spS)[0+(d:Int).toNat*3+0]? = some (iv (V3 j d)):=Zx3 gS
   obtain ⟨a5,cap5,he5,-,-⟩:=hv1.rd U0
   subst he5
   have hnx:Ur s (V3 j) (done,ev) (d+1)=Wl s (V3 j) (dn,es1) d:=hsucc
   generalize hph0:V3 j d=p at *
   by_cases hdone:dn.getD d true=true
   ·rw [hdone] at gD
    have e2:Wl s (V3 j) (dn,es1) d=(dn,es1):=by unfold Wl;rw [if_pos (.inl hdone)]
    rw [e2] at hnx
    repeat' (first|refine uN ?_|refine uC (kf _ _) ?_|(refine uB ?_;intro b)|(refine uP ?_ ?_<;>(intro h;((try simp only [zs,zq,reduceCtorEq] at h);try exact zx)))|fail)
    all_goals refine Zg (d+1,.slice a5 es1.length cap5,c1) uS ?_ ⟨by simp only;omega,?_⟩ (by simp only;omega)
    all_goals rw [hnx]
    all_goals first|exact hv1|exact LS.refl _
   ·have hdf:dn.getD d true=false:=by simpa using hdone
    rw [hdf] at gD
    by_cases hph:p≠2∧p≠3
    ·have e2:Wl s (V3 j) (dn,es1) d=(dn,es1):=by unfold Wl;rw [if_pos (.inr (by simp only [hph0];exact hph))]
     rw [e2] at hnx
     have kf2:=kf p
     rw [decide_eq_false (by omega : ¬ (p=2∨p=3))] at kf2
     repeat' (first|refine uN ?_|refine uC (kf2 _) ?_|(refine uB ?_;intro b)|(refine uP ?_ ?_<;>(intro h;((try simp only [zs,zq,reduceCtorEq] at h);try exact zx)))|fail)
     all_goals refine Zg (d+1,.slice a5 es1.length cap5,c1) uS ?_ ⟨by simp only;omega,?_⟩ (by simp only;omega)
     all_goals rw [hnx]
     all_goals first|exact hv1|exact LS.refl _
    ·have e2:Wl s (V3 j) (dn,es1) d=(dn.set d true,if es1.length<500 then es1++[⟨s,d,p⟩] else es1):=by unfold Wl;rw [if_neg (by simp only [hdf,hph0];intro h;rcases h with h|h;cases h;exact hph h),hph0]
     rw [e2] at hnx
     have kf2:=kf p
     rw [decide_eq_true (by omega:(p=2∨p=3))] at kf2
     by_cases h500:es1.length<500
     ·rw [if_pos h500] at hnx
      repeat' (first|refine uN ?_|refine uC (kf2 _) ?_|(refine uB ?_;intro b)|(refine uP ?_ ?_<;>(intro h;((try simp only [zs,zq,reduceCtorEq] at h);try exact zx)))|fail)
      all_goals refine fo 2 ?_
      all_goals refine Zce S ⟨s,d,p⟩ hv1 U0 Zt0 ?_
      all_goals intro v' c' hv'
      all_goals obtain ⟨a6,cap6,he6,-,-⟩:=hv'.rd U0
      all_goals subst he6
      all_goals repeat' (first|refine uN ?_|refine uC (kf2 _) ?_|(refine uB ?_;intro b)|(refine uP ?_ ?_<;>(intro h;((try simp only [zs,zq,reduceCtorEq] at h);try exact zx)))|fail)
      all_goals refine Zg (d+1,.slice a6 (es1++[⟨s,d,p⟩]:List Evt).length cap6,c') uS ?_ ⟨by simp only;omega,?_⟩ (by simp only;omega)
      all_goals rw [hnx]
      all_goals first|exact hv'|exact uL
     ·rw [if_neg h500] at hnx
      repeat' (first|refine uN ?_|refine uC (kf2 _) ?_|(refine uB ?_;intro b)|(refine uP ?_ ?_<;>(intro h;((try simp only [zs,zq,reduceCtorEq] at h);try exact zx)))|fail)
      all_goals refine Zg (d+1,.slice a5 es1.length cap5,c1) uS ?_ ⟨by simp only;omega,?_⟩ (by simp only;omega)
      all_goals rw [hnx]
      all_goals first|exact hv1|exact uL
  ·obtain rfl:d=6:=by omega
   have hR6:Ur s (V3 j) (done,ev) 6=(dn,es1):=hRR
   rw [hR6]
   repeat' (first|refine uN ?_|(refine uB ?_;intro b)|(refine uP ?_ ?_<;>(intro h;((try simp only [zs,zq,reduceCtorEq] at h);try exact zx)))|fail)
   exact ee0 rfl ⟨_,_,hv1,rfl,rfl⟩
end Go.HL
end

/-! MwD -/
section
namespace Go.HL
open Go Go.Proofs
theorem put_off {m:Pl} {j:Jn} (h:JI m j) (ho:m.off=false) (deal:Int) (s:St):(Xt m j deal s).2.2=some 6↔(Xt m j deal s).1.off=true:=by
 have hd:j.dead=false:=by rw [h.off,ho]
 rcases (Zf1 h deal s).2.2 with ⟨-,⟨h1,h2⟩|⟨h1,h2⟩|⟨h1,h2⟩⟩|⟨-,h1,-,h2,-⟩
 ·simp [h1,h2]
 ·have:Xt m j deal s=(m,j,some 2):=by unfold Xt;rw [hd];simp [h2]
  rw [this];simp [ho]
 ·rw [h1]
  have:(Xt m j deal s).1=m:=by
   unfold Xt at h1 ⊢
   rw [hd] at h1 ⊢
   simp only [Bool.false_eq_true,if_false] at h1 ⊢
   split
   ·rfl
   ·split
    ·rfl
    ·rfl
  rw [this,ho];simp
 ·rw [h1,h2];simp
theorem site_off {m:Pl} {j:Jn} (h:JI m j) (ho:m.off=false) (id:Int) (ref:Int→Bool) (f:Fr):(Zs id ref m j f).2.2.2=some 6↔(Zs id ref m j f).1.off=true:=by
 unfold Zs
 split
 ·simp [ho]
 split
 ·simp [ho]
 have:=put_off h ho f.dl (Yj ref f (j.l.getD f.dl.toNat Zm).s).1
 split
 ·rename_i e he
  rw [he] at this
  exact this
 ·rename_i he
  rw [he] at this
  exact this
theorem Zzm {m:Pl} {j:Jn} (h:JI m j) (ho:m.off=false) (id:Int) (ref:Int→Bool) (f:Fr) (hb : ¬ X5 f) (hto:f.to=id) (hn:(j.l.getD f.dl.toNat Zm).n+1<4294967296) (hp : ¬ Uf f.dl (Yj ref f (j.l.getD f.dl.toNat Zm).s).1) :
  (Zs id ref m j f).2.2.2.isNone = !(Zs id ref m j f).1.off:=by
 unfold Zs
 rw [if_neg hb,if_neg (by simpa using hto)]
 rcases (Zf1 h f.dl (Yj ref f (j.l.getD f.dl.toNat Zm).s).1).2.2 with ⟨-,⟨h1,h2⟩|⟨h1,h2⟩|⟨h1,h2⟩⟩|⟨-,h1,-,h2,-⟩
 ·simp only [h1];rw [h2];rfl
 ·exact absurd h2 hp
 ·omega
 ·simp only [h1];rw [h2];rfl
theorem Zpb {G:RwG} {M:Wm} (h:RwOk G M) {s:Int} (h0:0≤s) (h1:s<M.n.length) {H:Zb} (hH : ∀ b o,(b,o)∈G.nc→Has H b o):NpIn H G.nv M.n.length s (Yi G s).np:=by
 have hl:=h.ndl
 obtain ⟨a,cap,hnv,-,hR⟩:=h.nodes.rd Wz
 have hR2:=(hR []).mono (L':=H) fun b o hb=>hH b o (by simpa [Has] using hb)
 obtain ⟨b,i,l,F,fr,rfl,hb,hg⟩:=hR2.at1 (j:=s) h0 (by simp;omega)
 refine ⟨⟨b,i,l,F,fr,cap,by rw [hnv,List.length_map,hl],hb,?_⟩,h0,h1⟩
 have e:(G.nd.map (·.np))[s.toNat]'(by simp;omega)=(Yi G s).np:=by
  rw [List.getElem_map]
  unfold Yi
  rw [List.getD,List.getElem?_eq_getElem (by omega)]
  rfl
 rw [e] at hg
 exact hg 0 _ rfl
theorem rjC_in {g:NrG} {j:Jn} {H:Zb} (h : ∀ p∈Q2 g.r j,Has H p.1 p.2):Has H g.r.rj (.cells ⟨Zf4 g.r j.dead⟩ 89)∧Has H g.r.bS (.cells ⟨((j.l.map Ent.s).map sc).flatten++g.r.spS⟩ 69):=
 ⟨h (g.r.rj,_) (by simp [Q2]),h (g.r.bS,_) (by simp [Q2])⟩
theorem rsC_in {g:NrG} {s:Int} {ref:Int→Bool} {H:Zb} (h : ∀ p∈Ze3 g.rs g.r.rj g.bR s ref,Has H p.1 p.2) : ∃ bR,Has H g.rs (.cells ⟨[iv s,pt g.r.rj 0,bR]⟩ 82):=⟨sl g.bR 0 6 6,h (g.rs,.cells ⟨[iv s,pt g.r.rj 0,sl g.bR 0 6 6]⟩ 82) (by simp [Ze3])⟩
theorem Zpc {g:NrG} {s:Int} {ref:Int→Bool} {j:Jn} {H:Zb} (h1 : ∀ p∈Ze3 g.rs g.r.rj g.bR s ref,Has H p.1 p.2) (h2 : ∀ p∈Q2 g.r j,Has H p.1 p.2):RsIn H g s j:=⟨rsC_in h1,(rjC_in h2).1,(rjC_in h2).2⟩
def Ztf (G:RwG) (s:Int) (g:NrG) (m:Nd) (ref:Int→Bool) (ev:List Evt) (r:Pl × Jn × List Fr × Option Nat) (L:Zb) (v:Value) (L':Zb):Prop:=
 ∃ left,(r.1.cut ≠ -1→left=r.1.cut)∧if r.1.off then ∃ bl,v = .tuple ⟨[Ys,.bool false]⟩∧L'=[(G.wp,Vt G)]::G.ec::Zd6 { g with bl:=bl } ⟨r.1,none,noLeads,m.done⟩::Zhr { g with bl:=bl } ⟨r.1,none,noLeads,m.done⟩::Zks g m::Wp g.rp r.1 left::L
 else ∃ fv c evv c2,Z7 fv r.2.2.1 c∧Vec 66 3 ec evv (Xd s ⟨r.1,some (r.2.1,ref),m.leads,m.done⟩ ev).2 c2∧v = .tuple ⟨[fv,.bool true]⟩ ∧
  L'=[(G.wp,Vt { G with ev:=evv,ec:=c2 })]::c2::Zd6 g m::Zhr g m::Zks g ⟨r.1,some (r.2.1,ref),m.leads,(Xd s ⟨r.1,some (r.2.1,ref),m.leads,m.done⟩ ev).1⟩::Ze3 g.rs g.r.rj g.bR s ref::Q2 g.r r.2.1::Wp g.rp r.1 left::c::L
set_option maxHeartbeats 2000000 attribute [local irreducible] HW HO HQ HD HC QOp Has Upd Zt Gets Z8 Z0 Zo Xm Zz Zj Xp Zy
attribute [local irreducible] Zn Zs Q2 Ze3 Wp
theorem Zo8 (G:RwG) (s:Int) (g:NrG) (m:Nd) (f:Fr) (ev:List Evt) (n:Nat) (j:Jn) (ref:Int→Bool) (L:Zb) (hp:NpIn L G.nv n s g.np) (hv:Vec 66 3 ec G.ev ev G.ec) (hl:ev.length≤500)
  (hN:NrOk g m) (w:List Int) (sn:Nat) (hI:NdI w sn m) (hs:m.site=some (j,ref)) (hj':(Zs s ref m.pl j f).2.1.l.length=6):HC Tryz.prog 40 [pt G.wp 0,iv s,.agg ⟨fc f⟩] ([(G.wp,Vt G)]::G.ec::Zd6 g m::Zhr g m::Zks g m::Ze3 g.rs g.r.rj g.bR s ref::Q2 g.r j::Wp g.rp m.pl g.left::L)
  (Ztf G s g m ref ev (Zs s ref m.pl j f) L):=by
 have hJ:=(hI.jn hs).ji
 have kh:=fun L=>Zpd g.rs g.bR s ref g.r m.pl j g.left f L hJ.pl hJ.jn hN.left
 have hso:=site_off hJ (hI.up j ref hs).2 s ref f
 rw [hN.rp] at kh
 generalize Zs s ref m.pl j f=r at kh hj' hso ⊢
 obtain ⟨pl',j',fs,er⟩:=r
 simp only at kh hj' hso ⊢
 have kf:=fun L=>Zhn g m L hN.ld
 unfold Ztf
 obtain ⟨pl,site,leads,done⟩:=m
 simp only at hs kh kf ⊢
 subst hs
 obtain ⟨wp,aw,cw,wl,nv,nc,bv,bc,bl,lv,lc,evv,evc,nd⟩:=G
 simp only at hv hp ⊢
 have hp0:=hp
 obtain ⟨⟨nb,i,l,F,fr,cap,rfl,hb,hg⟩,h0,h1⟩:=hp
 cases hoff:pl'.off with
 | true =>
  have her:er=some 6:=hso.2 hoff
  subst her
  simp only [if_true,Vt,Zd6,Zbg,Zd7,cdN] at kh kf ⊢
  refine Za (fun _ _=>Tryz.call40 _ _) Tryz.func40 rfl Tryz.ntmps40 (Nat.le_of_ble_eq_true rfl) ?_;simp only [Zd,Nat.reduceAdd]
  repeat' (first|refine uN ?_|refine Zu S ?_|(refine uB ?_;intro b)|(refine uP ?_ ?_<;>(intro h;((try simp only [zs,zq,reduceCtorEq] at h);try exact zx)))|refine da 101 ?_|fail)
  refine fo 8 ?_
  refine fo 8 ?_
  refine fo 8 ?_
  refine gc (kh _) ?_
  rintro v L' ⟨fv,c,left',rfl,hfv,hl',rfl⟩
  repeat' (first|refine uN ?_|refine Zu S ?_|(refine uB ?_;intro b)|(refine uP ?_ ?_<;>(intro h;((try simp only [zs,zq,reduceCtorEq] at h);try exact zx)))|refine da 101 ?_|fail)
  refine fo 7 ?_
  refine gc (kf _) ?_
  rintro v L' ⟨bl',rfl,rfl⟩
  repeat' (first|refine uN ?_|refine Zu S ?_|(refine uB ?_;intro b)|(refine uP ?_ ?_<;>(intro h;((try simp only [zs,zq,reduceCtorEq] at h);try exact zx)))|refine da 101 ?_|fail)
  exact W9 (L':=[(wp,.cells ⟨[.slice aw wl cw,sl nb i n cap,bv,lv,evv]⟩ 47)]::evc::Zd6 { g with bl:=bl' } ⟨pl',none,noLeads,done⟩::Zhr { g with bl:=bl' } ⟨pl',none,noLeads,done⟩::Zks g ⟨pl,some (j,ref),leads,done⟩::Wp g.rp pl' left'::L) (by simp only [Zd6,Zbg,Zd7];exact uL) ⟨left',hl',bl',rfl,rfl⟩
 | false =>
  have her:cdN er≠6:=by
   intro h
   have:er=some 6:=by
    cases er with
    | none=>cases h
    | some e=>simp only [cdN] at h;congr 1;omega
   rw [hso.1 this] at hoff;cases hoff
  generalize cdN er=z at her kh
  have hkn:=fun (M1:Nd) (hM:M1=⟨pl',some (j',ref),leads,done⟩) (G1:RwG) (hG1:G1=⟨wp,aw,cw,wl,sl nb i n cap,nc,bv,bc,bl,lv,lc,evv,evc,nd⟩) L (hq:NpIn L (sl nb i n cap) n s g.np) (hN2:Has L g.np (Zbg g M1)) (hsi:RsIn L g s j')=>Zhs G1 s g M1 ev n L (by subst hG1;exact hv) hl (by subst hG1;exact hq) hN2 (by subst hM;exact hI.done) (by subst hM;intro j2 r2 h2;cases h2;exact ⟨hsi,hj'⟩)
  have hkn:=fun L hq hN2 hsi=>hkn _ rfl _ rfl L hq hN2 hsi
  simp only [Bool.false_eq_true,if_false,Vt,Zd6,Zbg,Zd7] at hkn kh ⊢
  refine Za (fun _ _=>Tryz.call40 _ _) Tryz.func40 rfl Tryz.ntmps40 (Nat.le_of_ble_eq_true rfl) ?_;simp only [Zd,Nat.reduceAdd]
  repeat' (first|refine uN ?_|refine Zu S ?_|(refine uB ?_;intro b)|(refine uP ?_ ?_<;>(intro h;((try simp only [zs,zq,reduceCtorEq] at h);try exact zx)))|refine da 101 ?_|fail)
  refine fo 8 ?_
  refine fo 8 ?_
  refine fo 8 ?_
  refine gc (kh _) ?_
  rintro v L' ⟨fv,c,left',rfl,hfv,hl',rfl⟩
  repeat' (first|refine uN ?_|refine Zu S ?_|(refine uB ?_;intro b)|(refine uP ?_ ?_<;>(intro h;((try simp only [zs,zq,reduceCtorEq] at h);try exact zx)))|refine da 101 ?_|fail)
  refine fo 9 ?_
  refine fo 7 ?_
  refine fo 7 ?_
  refine gc (hkn _ ?_ ?_ ?_) ?_
  ·exact (((((((⟨⟨nb,i,l,F,fr,cap,rfl,hb,hg⟩,h0,h1⟩:NpIn L (sl nb i n cap) n s g.np).cons _).cons _).cons _).cons _).cons _).cons _).cons _
  ·exact Zc (Zc (Zc (Zc (Zc Zh))))
  ·exact Zpc (fun p hp=>Yo hp) (fun p hp=>Zc (Yo hp))
  rintro v L' ⟨evv',c2,hv2,rfl,rfl⟩
  obtain ⟨af,capf,rfl,-,-⟩:=hfv.rd Zl
  repeat' (first|refine uN ?_|refine Zu S ?_|(refine uB ?_;intro b)|(refine uP ?_ ?_<;>(intro h;((try simp only [zs,zq,reduceCtorEq] at h);try exact zx)))|refine da 101 ?_|fail)
  exact W9 (L':=[(wp,.cells ⟨[.slice aw wl cw,sl nb i n cap,bv,lv,evv']⟩ 47)]::c2::Zd6 g ⟨pl,some (j,ref),leads,done⟩::Zhr g ⟨pl,some (j,ref),leads,done⟩::Zks g ⟨pl',some (j',ref),leads,(Xd s ⟨pl',some (j',ref),leads,done⟩ ev).1⟩::Ze3 g.rs g.r.rj g.bR s ref::Q2 g.r j'::Wp g.rp pl' left'::c::L) (by simp only [Zd6,Zbg,Zd7];exact uL) ⟨left',hl',_,c,evv',c2,hfv,hv2,rfl,rfl⟩
def Zjl (s:Int) (m:Nd) (f:Fr):Bool:=match m.site with
 | none=>false
 | some (j,ref) => !(Zs s ref m.pl j f).1.off
theorem NrOk.fall {g:NrG} {m:Nd} (h:NrOk g m) (pl:Pl) (dn:List Bool) (bl:Nat) {left:Int} (hl:pl.cut ≠ -1→left=pl.cut):NrOk { g with bl:=bl,left:=left } ⟨pl,none,noLeads,dn⟩:=by
 refine ⟨h.ld,h.rp,hl,fun d x hx=>?_⟩
 simp only [noLeads,List.getElem?_replicate] at hx
 split at hx<;>cases hx
theorem NrOk.same {g:NrG} {m:Nd} (h:NrOk g m) (st:Option (Jn × (Int→Bool))) (pl:Pl) (dn:List Bool) {left:Int} (hl:pl.cut ≠ -1→left=pl.cut):NrOk { g with left:=left } ⟨pl,st,m.leads,dn⟩:=⟨h.ld,h.rp,hl,h.lok⟩
theorem Zw1 {aw:Option Addr} {cw:Nat} {g:NrG} (h:g.ld.length=6) {pl:Pl} {st:Option (Jn × (Int→Bool))} {dn:List Bool}:Zd5 aw cw g ⟨pl,st,noLeads,dn⟩=[]:=by
 unfold Zd5 noLeads
 obtain ⟨a,b,c,d,e,f,hh⟩ : ∃ a b c d e f,g.ld=[a,b,c,d,e,f]:=by
  match g.ld,h with
  | [a,b,c,d,e,f],_=>exact ⟨_,_,_,_,_,_,rfl⟩
 rw [hh];rfl
theorem Zf3 (G:RwG) (M:Wm) (s:Int) (f:Fr) (L:Zb) (h:RwOk G M) (hI:WI M) (h0:0≤s) (h1:s<M.n.length) (hs:(Zf M s).site≠none) :
  HC Tryz.prog 40 [pt G.wp 0,iv s,.agg ⟨fc f⟩] (Wj G M++L) (fun v L' => ∃ c,(∃ fv,Z7 fv (Yt M s f).2.1 c∧v = .tuple ⟨[fv,.bool (Zjl s (Zf M s) f)]⟩)∧Zlh G (Yt M s f).1 (c::L) L'):=by
 refine HC.nodeR h h0 h1 ?_
 have hN:=U5 h h0 h1
 have hi:=Wu hI h0 h1
 have hnp:=Zpb h h0 h1 (H:=Zd5 G.aw G.cw (Yi G s) (Zf M s)::G.lc::G.nc::G.bc::Vl G.aw G.cw G.nd M.n 0 s.toNat::L) fun b o hb=>Zc (Zc (Yo hb))
 unfold Yt Y7 Zjl
 generalize Vl G.aw G.cw G.nd M.n 0 s.toNat=X at *
 generalize hm:Zf M s=m at *
 generalize hg:Yi G s=g at *
 obtain ⟨pl,site,leads,done⟩:=m
 cases site with
 | none=>exact absurd rfl hs
 | some q =>
  obtain ⟨j,ref⟩:=q
  have hsj:=Zdc (id:=s) (ref:=ref) (hi.jn rfl) f
  have hj6:(Zs s ref pl j f).2.1.l.length=6:=hsj.1.ji.jn.len
  have kh:=Zo8 G s g ⟨pl,some (j,ref),leads,done⟩ f M.ev M.n.length j ref (Zd5 G.aw G.cw g ⟨pl,some (j,ref),leads,done⟩::G.lc::G.nc::G.bc::X::L) hnp h.ev hI.evl hN M.w s.toNat hi rfl hj6
  refine HC.post kh ?_
  intro v L' hq
  unfold Ztf at hq
  obtain ⟨left',hl',hq⟩:=hq
  simp only at hq hl' ⊢
  generalize Zs s ref pl j f=r at *
  split at hq
  ·rename_i hoff
   obtain ⟨bl',rfl,rfl⟩:=hq
   have e:=Zw1 (aw:=G.aw) (cw:=G.cw) (g:={ g with bl:=bl',left:=left' }) hN.ld (pl:=r.1) (st:=none) (dn:=done)
   refine ⟨W1 G s { g with bl:=bl',left:=left' } ⟨r.1,none,noLeads,done⟩ X ([]::L),?_,[],?_,G,M,{ g with bl:=bl',left:=left' },⟨r.1,none,noLeads,done⟩,h,rfl,rfl,.refl G,hN.fall _ _ _ hl',rfl,?_,rfl⟩
   ·simp only [W1,Zlw,Zlv,e]
    exact uL
   ·rw [if_pos hoff,hoff]
    exact ⟨_,Zv,rfl⟩
   ·rw [if_pos hoff];rfl
  ·rename_i hoff
   obtain ⟨fv,c,evv,c2,hfv,hev,rfl,rfl⟩:=hq
   have hoff2:r.1.off=false:=by simpa using hoff
   refine ⟨W1 { G with ev:=evv,ec:=c2 } s { g with left:=left' } ⟨r.1,some (r.2.1,ref),leads,(Xd s ⟨r.1,some (r.2.1,ref),leads,done⟩ M.ev).1⟩ X (c::L),?_,c,?_,{ G with ev:=evv,ec:=c2 },{ M with ev:=(Xd s ⟨r.1,some (r.2.1,ref),leads,done⟩ M.ev).2 },{ g with left:=left' },⟨r.1,some (r.2.1,ref),leads,(Xd s ⟨r.1,some (r.2.1,ref),leads,done⟩ M.ev).1⟩,h.setE hev,rfl,rfl,⟨rfl,rfl,rfl,rfl,rfl⟩,hN.same _ _ _ hl',rfl,?_,rfl⟩
   ·simp only [W1,Zlw,Zlv]
    exact uL
   ·rw [if_neg hoff,hoff2]
    exact ⟨_,hfv,rfl⟩
   ·rw [if_neg hoff];rfl
end Go.HL
end

/-! MwE -/
section
namespace Go.HL
open Go Go.Proofs
theorem Zxy (xs:List Fr) (k:Nat):xs.take k++xs.drop (k+1)=xs.eraseIdx k:=(List.eraseIdx_eq_take_drop_succ ..).symm
set_option maxHeartbeats 2000000 attribute [local irreducible] HW HO HQ HD HC QOp Has Upd Zt Gets Z8 Z0 Zo Xm Zz Zj Xp Zy
attribute [local irreducible] Zn Zs Q2 Ze3 Wp
theorem U6 (G:RwG) (xs ys:List Fr) (a:Option Addr) (cap:Nat) (L:Zb) (hv:Z7 G.lv xs G.lc) (hR:Rd fc 9 L a ys) (hl:xs.length+ys.length≤100000000) :
  HC Tryz.prog 36 [pt G.wp 0,.slice a ys.length cap] ([(G.wp,Vt G)]::G.lc::L) (fun v L' => ∃ lv lc,Z7 lv (xs++ys) lc∧v = .tuple ⟨[]⟩∧L'=[(G.wp,Vt { G with lv:=lv,lc:=lc })]::lc::L):=by
 obtain ⟨wp,aw,cw,wl,nv,nc,bv,bc,bl,lv,lc,evv,evc,nd⟩:=G
 simp only [Vt] at hv ⊢
 refine Za (fun _ _=>Tryz.call36 _ _) Tryz.func36 rfl Tryz.ntmps36 (Nat.le_of_ble_eq_true rfl) ?_;simp only [Zd,Nat.reduceAdd]
 repeat' (first|refine uN ?_)
 refine fo 1 ?_
 refine Zzv S hv (Rd.cons (hR.cons _) _) Zl Wr ?_ (hby:=by omega) (hmax:=by omega)
 intro v' c' hv'
 obtain ⟨a9,cap9,rfl,-,-⟩:=hv'.rd Zl
 repeat' (first|refine uN ?_)
 exact spn (L':=[(wp,.cells ⟨[.slice aw wl cw,nv,bv,.slice a9 (xs++ys).length cap9,evv]⟩ 47)]::c'::L) uL ⟨_,c',hv',rfl,rfl⟩
theorem Zht (G:RwG) (xs:List Fr) (k:Int) (L:Zb) (hv:Z7 G.lv xs G.lc) (hl:xs.length≤99999999) :
  HC Tryz.prog 45 [pt G.wp 0,iv k] ([(G.wp,Vt G)]::G.lc::L) (fun v L'=>if k<0∨xs.length≤k then v = .tuple ⟨[.agg ⟨fc Yv⟩,.bool false]⟩∧L'=[(G.wp,Vt G)]::G.lc::L
   else ∃ lv lc,Z7 lv (xs.eraseIdx k.toNat) lc∧v = .tuple ⟨[.agg ⟨fc (xs.getD k.toNat Yv)⟩,.bool true]⟩∧L'=[(G.wp,Vt { G with lv:=lv,lc:=lc })]::lc::L):=by
 obtain ⟨wp,aw,cw,wl,nv,nc,bv,bc,bl,lv,lc,evv,evc,nd⟩:=G
 simp only [Vt] at hv ⊢
 obtain ⟨a5,cap5,rfl,hcap,hR5⟩:=hv.rd Zl
 by_cases h:k<0∨xs.length≤k
 ·simp only [if_pos h]
  refine Za (fun _ _=>Tryz.call45 _ _) Tryz.func45 rfl Tryz.ntmps45 (Nat.le_of_ble_eq_true rfl) ?_;simp only [Zd,Nat.reduceAdd]
  repeat' (first|refine uN ?_|(refine uB ?_;intro b)|(refine uP ?_ ?_<;>(intro h;((try simp only [zs,zq,reduceCtorEq] at h);try exact zx)))|fail)
  all_goals exact W9 (L':=[(wp,.cells ⟨[.slice aw wl cw,nv,bv,.slice a5 xs.length cap5,evv]⟩ 47)]::lc::L) uL ⟨rfl,rfl⟩ (hx:=Xy S (hg:=Xw _))
 ·simp only [if_neg h]
  obtain ⟨b9,i9,l,F,fr,rfl,hb,hg⟩:=(hR5 L).at (j:=k) (by omega) (by omega)
  have hgk:xs[k.toNat]'(by omega)=xs.getD k.toNat Yv:=by
   rw [List.getD,List.getElem?_eq_getElem (by omega)];rfl
  have hlt:k.toNat<xs.length:=by omega
  have e1:(xs.take k.toNat).length=k.toNat:=by rw [List.length_take];omega
  rw [hgk] at hg
  have hT:=fun L=>(hR5 L).take (n:=k.toNat)
  have hD:=fun L=>(hR5 L).drop (l:=(k+1).toNat) hcap
  have eD:xs.take k.toNat++xs.drop (k+1).toNat=xs.eraseIdx k.toNat:=by rw [← Zxy];congr 2;omega
  have eL:(xs.drop (k+1).toNat).length=xs.length-(k+1).toNat:=List.length_drop ..
  generalize xs.getD k.toNat Yv=f at *
  refine Za (fun _ _=>Tryz.call45 _ _) Tryz.func45 rfl Tryz.ntmps45 (Nat.le_of_ble_eq_true rfl) ?_;simp only [Zd,Nat.reduceAdd]
  repeat' (first|refine uN ?_|(refine uB ?_;intro b)|(refine uP ?_ ?_<;>(intro h;((try simp only [zs,zq,reduceCtorEq] at h);try exact zx)))|fail)
  refine Zoe ?_
  refine Zzv S (xs:=[]) Zv (ys:=xs.take k.toNat) (a:=some ⟨b9,i9,none⟩) (cap:=cap5) (Rd.cons ((hT []).mono fun x o hb=>?_) _) Zl Wr ?_ (hy:=by rw [e1];exact rfl) (hby:=by simp only [List.length_nil];omega) (hmax:=by simp only [List.length_nil];omega)
  ·exact Zc (Zc (Zc (Yo (by simpa [Has] using hb))))
  intro v' c' hv'
  simp only [List.nil_append] at hv'
  obtain ⟨a6,cap6,rfl,-,-⟩:=hv'.rd Zl
  repeat' (first|refine uN ?_|(refine uB ?_;intro b)|(refine uP ?_ ?_<;>(intro h;((try simp only [zs,zq,reduceCtorEq] at h);try exact zx)))|fail)
  refine Zzv S hv' (ys:=xs.drop (k+1).toNat) (a:=cut (some ⟨b9,i9,none⟩) cap5 (k+1).toNat 9) (cap:=cap5-(k+1).toNat) (Rd.cons ((hD []).mono fun x o hb=>?_) _) Zl Wr ?_ (hy:=by rw [eL];exact rfl) (hby:=by rw [e1,eL];omega) (hmax:=by rw [e1,eL];omega)
  ·exact Zc (Zc (Zc (Yo (by simpa [Has] using hb))))
  intro v' c'' hv''
  rw [eD] at hv''
  obtain ⟨a7,cap7,rfl,-,-⟩:=hv''.rd Zl
  repeat' (first|refine uN ?_|(refine uB ?_;intro b)|(refine uP ?_ ?_<;>(intro h;((try simp only [zs,zq,reduceCtorEq] at h);try exact zx)))|fail)
  exact W9 (L':=[(wp,.cells ⟨[.slice aw wl cw,nv,bv,.slice a7 (xs.eraseIdx k.toNat).length cap7,evv]⟩ 47)]::c''::L) uL ⟨_,c'',hv'',rfl,rfl⟩ (hx:=Xy S (hg:=Xw _))
theorem Zly (G:RwG) (xs:List Fr) (k:Int) (L:Zb) (hv:Z7 G.lv xs G.lc) (hl:xs.length≤99999999) :
  HC Tryz.prog 23 [pt G.wp 0,iv k] ([(G.wp,Vt G)]::G.lc::L) (fun v L'=>if k<0∨xs.length≤k then v=iv 4∧L'=[(G.wp,Vt G)]::G.lc::L
   else ∃ lv lc,Z7 lv (xs.take (k+1).toNat++xs.getD k.toNat Yv::xs.drop (k+1).toNat) lc∧v=iv 0∧L'=[(G.wp,Vt { G with lv:=lv,lc:=lc })]::lc::L):=by
 obtain ⟨wp,aw,cw,wl,nv,nc,bv,bc,bl,lv,lc,evv,evc,nd⟩:=G
 simp only [Vt] at hv ⊢
 obtain ⟨a5,cap5,rfl,hcap,hR5⟩:=hv.rd Zl
 by_cases h:k<0∨xs.length≤k
 ·simp only [if_pos h]
  refine Za (fun _ _=>Tryz.call23 _ _) Tryz.func23 rfl Tryz.ntmps23 (Nat.le_of_ble_eq_true rfl) ?_;simp only [Zd,Nat.reduceAdd]
  repeat' (first|refine uN ?_|(refine uB ?_;intro b)|(refine uP ?_ ?_<;>(intro h;((try simp only [zs,zq,reduceCtorEq] at h);try exact zx)))|fail)
  all_goals exact Z9 uL ⟨rfl,rfl⟩
 ·simp only [if_neg h]
  obtain ⟨b9,i9,l,F,fr,rfl,hb,hg⟩:=(hR5 L).at (j:=k) (by omega) (by omega)
  have hgk:xs[k.toNat]'(by omega)=xs.getD k.toNat Yv:=by
   rw [List.getD,List.getElem?_eq_getElem (by omega)];rfl
  have hb5 : ∀ H,Has (lc::H) b9 (.cells ⟨l⟩ F fr)→True:=fun _ _=>trivial
  have hlt:k.toNat<xs.length:=by omega
  have e1:(xs.take (k+1).toNat).length=(k+1).toNat:=by rw [List.length_take];omega
  rw [hgk] at hg
  have hT:=fun L=>(hR5 L).take (n:=(k+1).toNat)
  have hD:=fun L=>(hR5 L).drop (l:=(k+1).toNat) hcap
  have eL:(xs.drop (k+1).toNat).length=xs.length-(k+1).toNat:=List.length_drop ..
  have eA : ∀ f:Fr,(xs.take (k+1).toNat++[f])++xs.drop (k+1).toNat=xs.take (k+1).toNat++f::xs.drop (k+1).toNat:=fun f=>by simp
  have eB : ∀ f:Fr,(xs.take (k+1).toNat++[f]).length=(k+1).toNat+1:=fun f=>by simp only [List.length_append,e1,List.length_singleton]
  generalize xs.getD k.toNat Yv=f at *
  refine Za (fun _ _=>Tryz.call23 _ _) Tryz.func23 rfl Tryz.ntmps23 (Nat.le_of_ble_eq_true rfl) ?_;simp only [Zd,Nat.reduceAdd]
  repeat' (first|refine uN ?_|(refine uB ?_;intro b)|(refine uP ?_ ?_<;>(intro h;((try simp only [zs,zq,reduceCtorEq] at h);try exact zx)))|fail)
  refine Zoe ?_
  refine Zzv S (xs:=[]) Zv (ys:=xs.take (k+1).toNat) (a:=some ⟨b9,i9,none⟩) (cap:=cap5) (Rd.cons ((hT []).mono fun x o hb=>?_) _) Zl Wr ?_ (hy:=by rw [e1];exact rfl) (hby:=by simp only [List.length_nil];omega) (hmax:=by simp only [List.length_nil];omega)
  ·exact Zc (Yo (by simpa [Has] using hb))
  intro v' c' hv'
  simp only [List.nil_append] at hv'
  obtain ⟨a6,cap6,rfl,-,-⟩:=hv'.rd Zl
  repeat' (first|refine uN ?_|(refine uB ?_;intro b)|(refine uP ?_ ?_<;>(intro h;((try simp only [zs,zq,reduceCtorEq] at h);try exact zx)))|fail)
  refine fo 1 ?_
  refine Zce S f hv' Zl Wr ?_ (hby:=by rw [e1];omega) (hmax:=by rw [e1];omega)
  intro v'' c'' hv''
  obtain ⟨a7,cap7,rfl,-,-⟩:=hv''.rd Zl
  repeat' (first|refine uN ?_|(refine uB ?_;intro b)|(refine uP ?_ ?_<;>(intro h;((try simp only [zs,zq,reduceCtorEq] at h);try exact zx)))|fail)
  refine Zzv S hv'' (ys:=xs.drop (k+1).toNat) (a:=cut (some ⟨b9,i9,none⟩) cap5 (k+1).toNat 9) (cap:=cap5-(k+1).toNat) (Rd.cons ((hD []).mono fun x o hb=>?_) _) Zl Wr ?_ (hy:=by rw [eL];exact rfl) (hby:=by rw [eB,eL];omega) (hmax:=by rw [eB,eL];omega)
  ·exact Zc (Zc (Yo (by simpa [Has] using hb)))
  intro v3 c3 hv3
  rw [eA] at hv3
  obtain ⟨a8,cap8,rfl,-,-⟩:=hv3.rd Zl
  repeat' (first|refine uN ?_|(refine uB ?_;intro b)|(refine uP ?_ ?_<;>(intro h;((try simp only [zs,zq,reduceCtorEq] at h);try exact zx)))|fail)
  exact Z9 (L':=[(wp,.cells ⟨[.slice aw wl cw,nv,bv,.slice a8 (xs.take (k+1).toNat++f::xs.drop (k+1).toNat).length cap8,evv]⟩ 47)]::c3::L) uL ⟨_,c3,hv3,rfl,rfl⟩
theorem Zir {G G':RwG} {M':Wm} {L:Zb} (h:RwOk G' M') (e:RwS G G'):Zlh G M' L (Wj G' M'++L):=⟨G',e,h,rfl⟩
theorem Zkx {G:RwG} {lv:Value} {lc:List Zr}:RwS G { G with lv:=lv,lc:=lc }:=⟨rfl,rfl,rfl,rfl,rfl⟩
theorem Zsc (G:RwG) (M:Wm) (k:Int) (L:Zb) (hW:RwOk G M) (hl:M.l.length≤99999999) :
  HC Tryz.prog 22 [pt G.wp 0,iv k] (Wj G M++L) (fun v L'=>v=iv (cdN (Qp M k).2)∧Zlh G (Qp M k).1 L L'):=by
 have hself:=Ub hW L
 have kt:=fun L=>Zht G M.l k L hW.l hl
 unfold Qp Zs1
 by_cases h:k<0∨M.l.length≤k
 ·simp only [if_pos h,cdN] at kt ⊢
  simp only [Wj,Zei,List.cons_append,List.nil_append] at hself ⊢
  refine Za (fun _ _=>Tryz.call22 _ _) Tryz.func22 rfl Tryz.ntmps22 (Nat.le_of_ble_eq_true rfl) ?_;simp only [Zd,Nat.reduceAdd]
  repeat' (first|refine uN ?_|(refine uB ?_;intro b)|(refine uP ?_ ?_<;>(intro h;((try simp only [zs,zq,reduceCtorEq] at h);try exact zx)))|fail)
  refine fo 2 ?_
  refine fo 1 ?_
  refine gc (kt _) ?_
  rintro v L' ⟨rfl,rfl⟩
  repeat' (first|refine uN ?_|(refine uB ?_;intro b)|(refine uP ?_ ?_<;>(intro h;((try simp only [zs,zq,reduceCtorEq] at h);try exact zx)))|fail)
  exact Z9 uL ⟨rfl,hself⟩
 ·simp only [if_neg h,cdN] at kt ⊢
  have key : ∀ lv lc,Z7 lv (M.l.eraseIdx k.toNat) lc→Zlh G { M with l:=M.l.eraseIdx k.toNat } L (Wj { G with lv:=lv,lc:=lc } { M with l:=M.l.eraseIdx k.toNat }++L):=fun lv lc hv=>Zir (hW.setL hv) Zkx
  simp only [Wj,Zei,List.cons_append,List.nil_append] at key ⊢
  refine Za (fun _ _=>Tryz.call22 _ _) Tryz.func22 rfl Tryz.ntmps22 (Nat.le_of_ble_eq_true rfl) ?_;simp only [Zd,Nat.reduceAdd]
  repeat' (first|refine uN ?_|(refine uB ?_;intro b)|(refine uP ?_ ?_<;>(intro h;((try simp only [zs,zq,reduceCtorEq] at h);try exact zx)))|fail)
  refine fo 2 ?_
  refine fo 1 ?_
  refine gc (kt _) ?_
  rintro v L' ⟨lv,lc,hv,rfl,rfl⟩
  repeat' (first|refine uN ?_|(refine uB ?_;intro b)|(refine uP ?_ ?_<;>(intro h;((try simp only [zs,zq,reduceCtorEq] at h);try exact zx)))|fail)
  exact Z9 uL ⟨rfl,key lv lc hv⟩
theorem Zpe (G:RwG) (M:Wm) (k:Int) (L:Zb) (hW:RwOk G M) (hl:M.l.length≤99999999) :
  HC Tryz.prog 23 [pt G.wp 0,iv k] (Wj G M++L) (fun v L'=>v=iv (cdN (Vw M k).2)∧Zlh G (Vw M k).1 L L'):=by
 have hself:=Ub hW L
 have kt:=fun L=>Zly G M.l k L hW.l hl
 have e:LS ([(G.wp,Vt G)]::G.lc::G.ec::G.nc::G.bc::Zal G.aw G.cw G.nd M.n 0::L:Zb).flatten (Wj G M++L).flatten:=by
  simp only [Wj,Zei,List.cons_append,List.nil_append]
  exact uL
 refine HC.post (HC.sp (kt _) e) ?_
 unfold Vw Zs1
 by_cases h:k<0∨M.l.length≤k
 ·simp only [if_pos h,cdN]
  rintro v L' ⟨rfl,rfl⟩
  refine ⟨Wj G M++L,?_,rfl,hself⟩
  simp only [Wj,Zei,List.cons_append,List.nil_append]
  exact uL
 ·simp only [if_neg h,cdN]
  rintro v L' ⟨lv,lc,hv,rfl,rfl⟩
  refine ⟨Wj { G with lv:=lv,lc:=lc } { M with l:=M.l.take (k+1).toNat++M.l.getD k.toNat Yv::M.l.drop (k+1).toNat }++L,?_,rfl,Zir (hW.setL hv) Zkx⟩
  simp only [Wj,Zei,List.cons_append,List.nil_append]
  exact uL
end Go.HL
end

/-! MwF -/
section
namespace Go.HL
open Go Go.Proofs
theorem Zzg {G:RwG} {s:Int} {g:NrG} {m:Nd} {X:List Zr} {L:Zb}:Has (W1 G s g m X L) g.np (Zbg g m):=by
 unfold W1 Zd6
 exact Zc (Zc Zh)
theorem Zkw {G:RwG} {M:Wm} (s:Int) (hW:RwOk G M) (L:Zb):HC Tryz.prog 34 [pt G.wp 0,iv s] (Wj G M++L) (fun v L'=>v=iv (cdN (Zco M s))∧L'=Wj G M++L):=
 Zm5 G M s _ (Zf9 hW L) hW.ndl fun hn=>Zds hW.ndl (Y8 hn).1 (Y8 hn).2 L
theorem Zve {G:RwG} {M:Wm} {s:Int} (hW:RwOk G M) (hu:Zco M s=none) (X:List Zr) (L:Zb):HC Tryz.prog 34 [pt G.wp 0,iv s] (W1 G s (Yi G s) (Zf M s) X L) (fun v L'=>v=iv 0∧L'=W1 G s (Yi G s) (Zf M s) X L):=by
 have:=Zm5 G M s _ (rwOp_in hW s (Yi G s) (Zf M s) X L) hW.ndl fun hn=>Zzg
 rw [hu] at this
 exact this
theorem Zm4 {G:RwG} {M:Wm} (hW:RwOk G M) {s:Int} (h0:0≤s) (h1:s<M.n.length) : ∃ b i l F fr cap,G.nv=sl b i M.n.length cap∧(∀ H,Has (G.nc::H) b (.cells ⟨l⟩ F fr))∧l[i+s.toNat]? = some (pt (Yi G s).np 0):=by
 obtain ⟨⟨b,i,l,F,fr,cap,e,hb,hg⟩,-,-⟩:=Zpb hW h0 h1 (H:=G.nc::[]) fun b o hb=>Yo hb
 refine ⟨b,i,l,F,fr,cap,e,fun H=>?_,hg⟩
 simp only [Has,List.flatten_cons,List.flatten_nil,List.append_nil] at hb
 exact Yo hb
set_option maxHeartbeats 2000000 attribute [local irreducible] HW HO HQ HD HC QOp Has Upd Zt Gets Z8 Z0 Zo Xm Zz Zj Xp Zy
attribute [local irreducible] Zn Zs Q2 Wp
theorem Zlx (G:RwG) (M:Wm) (s d:Int) (L:Zb) (hW:RwOk G M) (hM:WI M) :
  HC Tryz.prog 17 [pt G.wp 0,iv s,iv d] (Wj G M++L) (fun v L'=>v=iv (cdN (Wo M s d).2)∧Zlh G (Wo M s d).1 L L'):=by
 unfold Wo
 have hself:=Ub hW L
 by_cases hd:d<0∨6≤d
 ·simp only [if_pos hd,cdN]
  generalize Wj G M++L=H at *
  refine Za (fun _ _=>Tryz.call17 _ _) Tryz.func17 rfl Tryz.ntmps17 (Nat.le_of_ble_eq_true rfl) ?_;simp only [Zd,Nat.reduceAdd]
  repeat' (first|refine uN ?_|(refine uP ?_ ?_<;>(intro h;((try simp only [zs,zq,reduceCtorEq] at h);try exact zx)))|fail)
  all_goals exact Um rfl ⟨rfl,hself⟩
 simp only [if_neg hd]
 rcases Za2 (M:=M) (s:=s) with ⟨e,he⟩|⟨he,hn,h0,h1,j,ref,hs⟩
 ·have ku:=Zkw s hW L
  have h1:1≤e:=by
   unfold Zco at he
   split at he
   ·rename_i x hx
    unfold Xs at hx
    split at hx<;>cases hx
    cases he;decide
   ·split at he<;>cases he
    decide
  generalize Wj G M++L=H at *
  simp only [he,cdN] at ku ⊢
  refine Za (fun _ _=>Tryz.call17 _ _) Tryz.func17 rfl Tryz.ntmps17 (Nat.le_of_ble_eq_true rfl) ?_;simp only [Zd,Nat.reduceAdd]
  repeat' (first|refine uN ?_|refine uC (ku) ?_|(refine uP ?_ ?_<;>(intro h;((try simp only [zs,zq,reduceCtorEq] at h);try exact zx)))|fail)
  exact Um rfl ⟨rfl,hself⟩
 ·simp only [he,cdN]
  refine HC.nodeR0 hW h0 h1 ?_
  have ku:=Zve (X:=Vl G.aw G.cw G.nd M.n 0 s.toNat) hW he L
  have hok:=U5 hW h0 h1
  have hni:=Wu hM h0 h1
  obtain ⟨nb,i,l,F,fr,cap,hnv,hb,hg⟩:=Zm4 hW h0 h1
  have hb2:=hb (G.bc::Vl G.aw G.cw G.nd M.n 0 s.toNat::L)
  generalize Vl G.aw G.cw G.nd M.n 0 s.toNat=X at *
  generalize Zf M s=m at *
  generalize Yi G s=g at *
  obtain ⟨pl,site,leads,done⟩:=m
  simp only at hs
  subst hs
  obtain ⟨dn,rfl⟩:=Int.eq_ofNat_of_zero_le (show 0≤d by omega)
  have hd6:dn<6:=by omega
  have gP:=refL_put (ref:=ref) hd6
  simp only [W1,Zd6,Zbg,Zd7,Zlw,Zlv,Vt,hnv,Ze3] at ku ⊢
  refine Za (fun _ _=>Tryz.call17 _ _) Tryz.func17 rfl Tryz.ntmps17 (Nat.le_of_ble_eq_true rfl) ?_;simp only [Zd,Nat.reduceAdd]
  repeat' (first|refine uN ?_|refine uC (ku) ?_|(refine uP ?_ ?_<;>(intro h;((try simp only [zs,zq,reduceCtorEq] at h);try exact zx)))|fail)
  refine Z9 (L':=W1 G s g (U2 ⟨pl,some (j,ref),leads,done⟩ dn) X L) ?_ ⟨rfl,G,M,g,U2 ⟨pl,some (j,ref),leads,done⟩ dn,hW,rfl,rfl,.refl G,⟨hok.ld,hok.rp,hok.left,hok.lok⟩,rfl,rfl,rfl⟩
  simp only [W1,Zd6,Zbg,Zd7,Zlw,Zlv,Vt,hnv,Ze3,U2]
  exact uL
theorem Zit {M:Wm} {s:Int} {e:Nat} (he:Zco M s=some e):1≤e:=by
 unfold Zco at he
 split at he
 ·rename_i x hx
  unfold Xs at hx
  split at hx<;>cases hx
  cases he;decide
 ·split at he<;>cases he
  decide
theorem Zso (G:RwG) (M:Wm) (s n:Int) (L:Zb) (hW:RwOk G M) (hM:WI M) :
  HC Tryz.prog 25 [pt G.wp 0,iv s,iv n] (Wj G M++L) (fun v L'=>v=iv (cdN (Zct M s n).2)∧Zlh G (Zct M s n).1 L L'):=by
 unfold Zct
 have hself:=Ub hW L
 by_cases hd:n<0
 ·simp only [if_pos hd,cdN]
  generalize Wj G M++L=H at *
  refine Za (fun _ _=>Tryz.call25 _ _) Tryz.func25 rfl Tryz.ntmps25 (Nat.le_of_ble_eq_true rfl) ?_;simp only [Zd,Nat.reduceAdd]
  repeat' (first|refine uN ?_|(refine uP ?_ ?_<;>(intro h;((try simp only [zs,zq,reduceCtorEq] at h);try exact zx)))|fail)
  all_goals exact Um rfl ⟨rfl,hself⟩
 simp only [if_neg hd]
 rcases Za2 (M:=M) (s:=s) with ⟨e,he⟩|⟨he,hn,h0,h1,j,ref,hs⟩
 ·have ku:=Zkw s hW L
  have h1:=Zit he
  generalize Wj G M++L=H at *
  simp only [he,cdN] at ku ⊢
  refine Za (fun _ _=>Tryz.call25 _ _) Tryz.func25 rfl Tryz.ntmps25 (Nat.le_of_ble_eq_true rfl) ?_;simp only [Zd,Nat.reduceAdd]
  repeat' (first|refine uN ?_|refine uC (ku) ?_|(refine uP ?_ ?_<;>(intro h;((try simp only [zs,zq,reduceCtorEq] at h);try exact zx)))|fail)
  exact Um rfl ⟨rfl,hself⟩
 ·simp only [he,cdN]
  refine HC.nodeR0 hW h0 h1 ?_
  have ku:=Zve (X:=Vl G.aw G.cw G.nd M.n 0 s.toNat) hW he L
  have hok:=U5 hW h0 h1
  have hni:=Wu hM h0 h1
  obtain ⟨nb,i,l,F,fr,cap,hnv,hb,hg⟩:=Zm4 hW h0 h1
  have hb2:=hb (G.bc::Vl G.aw G.cw G.nd M.n 0 s.toNat::L)
  generalize Vl G.aw G.cw G.nd M.n 0 s.toNat=X at *
  generalize hmm:Zf M s=m at *
  generalize Yi G s=g at *
  obtain ⟨pl,site,leads,done⟩:=m
  simp only at hs
  subst hs
  have hoff:pl.off=false:=(hni.up j ref rfl).2
  have kr:=fun L=>Zu6 g.rp pl g.left n L
  simp only [if_neg hd,hoff,Bool.false_eq_true,if_false] at kr
  simp only [W1,Zd6,Zbg,Zd7,Zlw,Zlv,Vt,hnv] at ku ⊢
  refine Za (fun _ _=>Tryz.call25 _ _) Tryz.func25 rfl Tryz.ntmps25 (Nat.le_of_ble_eq_true rfl) ?_;simp only [Zd,Nat.reduceAdd]
  repeat' (first|refine uN ?_|refine uC (ku) ?_|(refine uP ?_ ?_<;>(intro h;((try simp only [zs,zq,reduceCtorEq] at h);try exact zx)))|fail)
  refine fo 7 ?_
  refine gc (kr _) ?_
  rintro v L' ⟨rfl,rfl⟩
  repeat' (first|refine uN ?_|refine uC (ku) ?_|(refine uP ?_ ?_<;>(intro h;((try simp only [zs,zq,reduceCtorEq] at h);try exact zx)))|fail)
  refine Z9 (L':=W1 G s { g with left:=n } ⟨{ pl with cut:=n },some (j,ref),leads,done⟩ X L) ?_ ⟨rfl,G,M,{ g with left:=n },⟨{ pl with cut:=n },some (j,ref),leads,done⟩,hW,rfl,rfl,.refl G,hok.same _ _ _ (fun _=>rfl),rfl,rfl,rfl⟩
  have e1:Zd5 G.aw G.cw { g with left:=n } ⟨{ pl with cut:=n },some (j,ref),leads,done⟩=Zd5 G.aw G.cw g ⟨pl,some (j,ref),leads,done⟩:=rfl
  have e2:Zhr { g with left:=n } ⟨{ pl with cut:=n },some (j,ref),leads,done⟩=Zhr g ⟨pl,some (j,ref),leads,done⟩:=rfl
  have e3:Zks { g with left:=n } ⟨{ pl with cut:=n },some (j,ref),leads,done⟩=Zks g ⟨pl,some (j,ref),leads,done⟩:=rfl
  simp only [W1,Zd6,Zbg,Zd7,Zlw,Zlv,Vt,hnv]
  rw [e1,e2,e3]
  simp only [hoff]
  exact uL
theorem Zsb (G:RwG) (M:Wm) (s:Int) (L:Zb) (hW:RwOk G M) (hM:WI M) :
  HC Tryz.prog 19 [pt G.wp 0,iv s] (Wj G M++L) (fun v L'=>v=iv (cdN (Qo M s).2)∧Zlh G (Qo M s).1 L L'):=by
 unfold Qo
 have hself:=Ub hW L
 rcases Za2 (M:=M) (s:=s) with ⟨e,he⟩|⟨he,hn,h0,h1,j,ref,hs⟩
 ·have ku:=Zkw s hW L
  have h1:=Zit he
  generalize Wj G M++L=H at *
  simp only [he,cdN] at ku ⊢
  refine Za (fun _ _=>Tryz.call19 _ _) Tryz.func19 rfl Tryz.ntmps19 (Nat.le_of_ble_eq_true rfl) ?_;simp only [Zd,Nat.reduceAdd]
  repeat' (first|refine uN ?_|refine uC (ku) ?_|(refine uP ?_ ?_<;>(intro h;((try simp only [zs,zq,reduceCtorEq] at h);try exact zx)))|fail)
  exact Um rfl ⟨rfl,hself⟩
 ·simp only [he,cdN]
  refine HC.nodeR0 hW h0 h1 ?_
  have ku:=Zve (X:=Vl G.aw G.cw G.nd M.n 0 s.toNat) hW he L
  have hok:=U5 hW h0 h1
  have hni:=Wu hM h0 h1
  obtain ⟨nb,i,l,F,fr,cap,hnv,hb,hg⟩:=Zm4 hW h0 h1
  have hb2:=hb (G.bc::Vl G.aw G.cw G.nd M.n 0 s.toNat::L)
  generalize Vl G.aw G.cw G.nd M.n 0 s.toNat=X at *
  generalize hmm:Zf M s=m at *
  generalize Yi G s=g at *
  obtain ⟨pl,site,leads,done⟩:=m
  simp only at hs
  subst hs
  have kf:=fun L=>Zhn g ⟨pl,some (j,ref),leads,done⟩ L hok.ld
  have e0:Wp g.rp pl g.left=[(g.rp,.cells ⟨[bs pl.b,.bool pl.off,iv g.left,.bool (decide (pl.cut ≠ -1))]⟩ 51)]:=by unfold Wp;rfl
  have e1:Wp g.rp { pl with off:=true } g.left=[(g.rp,.cells ⟨[bs pl.b,.bool true,iv g.left,.bool (decide (pl.cut ≠ -1))]⟩ 51)]:=by unfold Wp;rfl
  simp only [W1,Zd6,Zbg,Zd7,Zlw,Zlv,Vt,hnv,e0] at ku kf ⊢
  refine Za (fun _ _=>Tryz.call19 _ _) Tryz.func19 rfl Tryz.ntmps19 (Nat.le_of_ble_eq_true rfl) ?_;simp only [Zd,Nat.reduceAdd]
  repeat' (first|refine uN ?_|refine uC (ku) ?_|(refine uP ?_ ?_<;>(intro h;((try simp only [zs,zq,reduceCtorEq] at h);try exact zx)))|fail)
  refine fo 2 ?_
  refine gc (kf _) ?_
  rintro v L' ⟨bl,rfl,rfl⟩
  repeat' (first|refine uN ?_|refine uC (ku) ?_|(refine uP ?_ ?_<;>(intro h;((try simp only [zs,zq,reduceCtorEq] at h);try exact zx)))|fail)
  have e:=Zw1 (aw:=G.aw) (cw:=G.cw) (g:={ g with bl:=bl }) hok.ld (pl:={ pl with off:=true }) (st:=none) (dn:=done)
  refine Z9 (L':=W1 G s { g with bl:=bl } (Zjd ⟨pl,some (j,ref),leads,done⟩) X L) ?_ ⟨rfl,G,M,{ g with bl:=bl },Zjd ⟨pl,some (j,ref),leads,done⟩,hW,rfl,rfl,.refl G,hok.fall _ _ _ hok.left,rfl,rfl,rfl⟩
  have e3:Zks { g with bl:=bl } ⟨{ pl with off:=true },none,noLeads,done⟩=Zks g ⟨pl,some (j,ref),leads,done⟩:=rfl
  have e4:Zhr { g with bl:=bl } ⟨{ pl with off:=true },none,noLeads,done⟩=Zhr { g with bl:=bl } ⟨pl,none,noLeads,done⟩:=rfl
  simp only [W1,Zd6,Zbg,Zd7,Zlw,Zlv,Vt,hnv,Zjd,e,e1]
  rw [e3,e4]
  exact uL
theorem Zvf (G:RwG) (M:Wm) (s:Int) (L:Zb) (hW:RwOk G M) (hM:WI M) :
  HC Tryz.prog 20 [pt G.wp 0,iv s] (Wj G M++L) (fun v L'=>v=iv (cdN (Zpo M s).2)∧Zlh G (Zpo M s).1 L L'):=by
 unfold Zpo
 have hself:=Ub hW L
 rcases Vq (M:=M) s with he|⟨he,h0,h1⟩
 ·have hI:=Zf9 hW L
  obtain ⟨a,cap,hnv,hR⟩:=hI.ns
  have hw:=hI.wp
  unfold Vt at hw
  rw [hnv] at hw
  have hs:s<0∨M.n.length≤s:=by
   unfold Xs at he
   split at he
   ·assumption
   ·cases he
  generalize Wj G M++L=H at *
  simp only [he,cdN]
  refine Za (fun _ _=>Tryz.call20 _ _) Tryz.func20 rfl Tryz.ntmps20 (Nat.le_of_ble_eq_true rfl) ?_;simp only [Zd,Nat.reduceAdd]
  repeat' (first|refine uN ?_|(refine uP ?_ ?_<;>(intro h;((try simp only [zs,zq,reduceCtorEq] at h);try exact zx)))|fail)
  all_goals exact Um rfl ⟨rfl,hself⟩
 ·simp only [he]
  cases hs:(Zf M s).site with
  | some q =>
   have hI:=Zf9 hW L
   obtain ⟨b9,i,l,F,fr,cap,hnv,hb,hg⟩:=Zkz hI hW.ndl h0 h1
   have hw:=hI.wp
   unfold Vt at hw
   rw [hnv] at hw
   have hN:=Zds hW.ndl h0 h1 L
   unfold Zbg at hN
   rw [hs] at hN
   obtain ⟨q1,q2⟩:=q
   simp only [Zd7] at hN
   generalize Wj G M++L=H at *
   simp only [Option.isSome_some,if_true,cdN]
   refine Za (fun _ _=>Tryz.call20 _ _) Tryz.func20 rfl Tryz.ntmps20 (Nat.le_of_ble_eq_true rfl) ?_;simp only [Zd,Nat.reduceAdd]
   repeat' (first|refine uN ?_|(refine uP ?_ ?_<;>(intro h;((try simp only [zs,zq,reduceCtorEq] at h);try exact zx)))|fail)
   exact Um rfl ⟨rfl,hself⟩
  | none =>
   simp only [Option.isSome_none,Bool.false_eq_true,if_false,cdN]
   refine HC.nodeR0 hW h0 h1 ?_
   have hok:=U5 hW h0 h1
   have hni:=Wu hM h0 h1
   obtain ⟨nb,i,l,F,fr,cap,hnv,hb,hg⟩:=Zm4 hW h0 h1
   have hb2:=hb (G.bc::Vl G.aw G.cw G.nd M.n 0 s.toNat::L)
   have hnp:=fun H hH=>Zpb hW h0 h1 (H:=H) hH
   generalize Vl G.aw G.cw G.nd M.n 0 s.toNat=X at *
   generalize hmm:Zf M s=m at *
   generalize Yi G s=g at *
   obtain ⟨pl,site,leads,done⟩:=m
   simp only at hs
   subst hs
   have hpl:pl.b.length=512:=hni.b512
   have kon:=fun L=>Zzd g.rp pl g.left L
   have kne:=fun L=>Zdb s g.rp { pl with off:=false,cut := -1 } g.left L (by simp only;omega) (by simp only;omega)
   have e0 : ∀ pl',∃ q,Wp g.rp pl' g.left=[(g.rp,q)]:=fun pl'=>⟨_,by unfold Wp;rfl⟩
   simp only [W1,Zd6,Zbg,Zd7,Zlw,Zlv,Vt,hnv]
   refine Za (fun _ _=>Tryz.call20 _ _) Tryz.func20 rfl Tryz.ntmps20 (Nat.le_of_ble_eq_true rfl) ?_;simp only [Zd,Nat.reduceAdd]
   repeat' (first|refine uN ?_|(refine uP ?_ ?_<;>(intro h;((try simp only [zs,zq,reduceCtorEq] at h);try exact zx)))|fail)
   refine fo 7 ?_
   refine gc (kon _) ?_
   rintro v L' ⟨rfl,rfl⟩
   repeat' (first|refine uN ?_|(refine uP ?_ ?_<;>(intro h;((try simp only [zs,zq,reduceCtorEq] at h);try exact zx)))|fail)
   refine gc (kne _) ?_
   rintro v L' ⟨rs,bR,r,rfl,hr,rfl⟩
   repeat' (first|refine uN ?_|(refine uP ?_ ?_<;>(intro h;((try simp only [zs,zq,reduceCtorEq] at h);try exact zx)))|fail)
   refine fo 7 ?_
   refine fo 5 ?_
   refine fo 5 ?_
   have kn:=fun L hq hN2 (hsi : ∀ (j2:Jn) (r2:Int→Bool),some (j2,r2)=some ((⟨Zn pl.b,false⟩:Jn),(fun _=>false:Int→Bool))→RsIn L { g with rs:=rs,bR:=bR,r:=r } s j2)=>Zhs G s { g with rs:=rs,bR:=bR,r:=r } (Uz ⟨pl,none,leads,done⟩) M.ev M.n.length L hW.ev hM.evl hq hN2 hni.done (fun j2 r2 h2=>⟨hsi j2 r2 h2.symm,by cases h2;exact Zgs _⟩)
   simp only [Vt,Zks,Zbg,Zd7,Uz,hnv] at kn ⊢
   refine gc (kn _ ?_ ?_ ?_) ?_
   ·refine ⟨⟨nb,i,l,F,fr,cap,rfl,?_,hg⟩,h0,h1⟩
    exact Zc (Zc (Zc (Zc (Zc (Zc (Zc (Zc (Zc (hb _)))))))))
   ·exact Zc (Zc (Zc Zh))
   ·intro j2 r2 h2
    cases h2
    exact Zpc (g:={ g with rs:=rs,bR:=bR,r:=r }) (ref:=fun _=>false) (fun p hp=>Yo hp) (fun p hp=>Zc (Yo hp))
   rintro v L' ⟨evv,c,hv,rfl,rfl⟩
   repeat' (first|refine uN ?_|(refine uP ?_ ?_<;>(intro h;((try simp only [zs,zq,reduceCtorEq] at h);try exact zx)))|fail)
   refine Z9 (L':=W1 { G with ev:=evv,ec:=c } s { g with rs:=rs,bR:=bR,r:=r } { Uz ⟨pl,none,leads,done⟩ with done:=(Xd s (Uz ⟨pl,none,leads,done⟩) M.ev).1 } X L) ?_ ⟨rfl,{ G with ev:=evv,ec:=c },{ M with ev:=(Xd s (Uz ⟨pl,none,leads,done⟩) M.ev).2 },{ g with rs:=rs,bR:=bR,r:=r },{ Uz ⟨pl,none,leads,done⟩ with done:=(Xd s (Uz ⟨pl,none,leads,done⟩) M.ev).1 },hW.setE hv,rfl,rfl,⟨rfl,rfl,rfl,rfl,rfl⟩,⟨hok.ld,hr,fun h=>absurd rfl h,hok.lok⟩,rfl,rfl,rfl⟩
   have e1 : ∀ dn,Zd5 G.aw G.cw { g with rs:=rs,bR:=bR,r:=r } ⟨{ pl with off:=false,cut := -1 },some (⟨Zn pl.b,false⟩,fun _=>false),leads,dn⟩=Zd5 G.aw G.cw g ⟨pl,none,leads,done⟩:=fun _=>rfl
   have e2 : ∀ dn,Zhr { g with rs:=rs,bR:=bR,r:=r } ⟨{ pl with off:=false,cut := -1 },some (⟨Zn pl.b,false⟩,fun _=>false),leads,dn⟩=Zhr g ⟨pl,none,leads,done⟩:=fun _=>rfl
   simp only [W1,Zd6,Zbg,Zd7,Zlw,Zlv,Vt,Zks,hnv,Uz,e1,e2]
   exact uL
end Go.HL
end
