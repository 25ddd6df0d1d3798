/- Texts laid into one, without what the claim does not use. Conditions: none. -/
import Derived.Test.YtkookaogdkdegaaGreatDoorMSpG
import Derived.Shelf.Vars
import Derived.LaidSub
import Derived.ChangeSame
set_option linter.unusedVariables false
set_option linter.unusedSimpArgs false
/-! ScG -/
section
namespace Go.HL
open Go Go.Proofs
def Xu:List UInt8:=[115,105,116,101,115]
def V7 (w:List UInt8):List (List UInt8 × List UInt8 × Nat)→Nat→Option Nat
 | [],_=>none
 | (x,_,_)::r,i=>if w=x then some i else V7 w r (i+1)
def Y9 (k:Nat):List UInt8:=(cmdT.getD k ([],[],0)).2.1
def Za3 (o:Option Wm) (w:List UInt8) (r:List (List UInt8)):List UInt8 × Int × Option Wm:=
 if w=Xu then
  match V9 (List.replicate (max 1 r.length) 110) r with
  | none=>([],1,o)
  | some n=>match Ym n with
   | none=>([111,107],0,some (Ve n))
   | some e=>([111,107],e,o)
 else match V7 w cmdT 0 with
  | none=>([],1,o)
  | some k=>match V9 (Y9 k) r with
   | none=>([],1,o)
   | some n=>match o with
    | none=>([],4,none)
    | some M=>((doW k M n).1,(doW k M n).2.1,some (doW k M n).2.2)
def Zd4 (G:WdG):Option Wm→List Zr
 | none=>[]
 | some M=>Wa G M
def Zd3 (G:WdG):Option Wm→Value
 | none => .pointer none
 | some _=>pt G.wp 0
theorem Zvu : ∀ s:List UInt8,∃ w r,Y4 s=w::r
 | []=>⟨[],[],rfl⟩
 | c::s=>by
  unfold Y4
  split
  ·exact ⟨_,_,rfl⟩
  ·split
   ·exact ⟨_,_,rfl⟩
   ·exact ⟨_,_,rfl⟩
theorem Zls (z:Int) (h1:1≤z) (h2:z≤1000000) (L:Zb):HC Tryz.prog 53 [bs [110],iv z] L (fun v L'=>v=bs (List.replicate z.toNat 110)∧L'=L):=by
 obtain ⟨k,rfl⟩:=Int.eq_ofNat_of_zero_le (show 0≤z by omega)
 exact Zo6 k (by omega) L
set_option maxHeartbeats 2000000 attribute [local irreducible] HW HO HQ HD HC QOp Has Upd Zt Gets Z8 Z0 Zo Xm Zz Zj Xp Zy
def PlayQ (T:Nat) (E:Nat→Addr) (p:Nat) (L:Zb) (r:List UInt8 × Int × Option Wm) (v:Value) (L':Zb):Prop:=
 ∃ c fv at_ G',v = .tuple ⟨[bs r.1,fv]⟩∧FV T E fv r.2.1 at_ c∧(∀ M,r.2.2=some M→WdOk G' M)∧L'=c::Zd4 G' r.2.2::Zx p (Zd3 G' r.2.2)::L
attribute [local irreducible] Wa
theorem Zxv (w:List Int):Zz3 (Ym w):=by
 unfold Ym
 repeat' (first|exact (show List.elem _ all9=true from rfl)|trivial|split)
theorem Zr4 (T:Nat) (E:Nat→Addr) (G:WdG) (o:Option Wm) (p:Nat) (s:List UInt8) (r:List (List UInt8)) (L:Zb) (hE:Es T E L) (hS:Sz L) (hW : ∀ M,o=some M→WdOk G M) (hs:s.length≤1000000) (hw:Y4 s=Xu::r) :
  HC Tryz.prog 30 [pt p 0,bs s] (Zd4 G o::Zx p (Zd3 G o)::L) (PlayQ T E p L (Za3 o Xu r)):=by
 have ksp:=Zhv s hs (Zd4 G o::Zx p (Zd3 G o)::L) ((hS.cons _).cons _)
 obtain ⟨hwl,hwx⟩:=Zg1 s
 rw [hw] at ksp hwl hwx
 generalize hH:Zd4 G o=PW at *
 unfold Zx at *
 generalize hP:Zd3 G o=PP at *
 refine Za (fun _ _=>Tryz.call30 _ _) Tryz.func30 rfl Tryz.ntmps30 (Nat.le_of_ble_eq_true rfl) ?_;simp only [Zd,Nat.reduceAdd]
 repeat' (first|refine uN ?_|refine Z2 S ?_|refine Yp S ?_|(refine uB ?_;intro b)|refine dg S 100 (fun _ _=>?_)|(refine uP ?_ ?_<;>(intro h;((try simp only [zs,zq,reduceCtorEq] at h);try exact zx)))|refine da 101 ?_|fail)
 refine gc ksp ?_
 rintro v L' ⟨b1,rfl,rfl⟩
 have hRW:Rd Zab 1 ([(b1,.cells ⟨((Xu::r).map Zab).flatten⟩ 9)]::PW::[(p,.cells ⟨[PP]⟩ 74)]::L) (some ⟨b1,0,none⟩) (Xu::r) := .inr ⟨b1,0,_,_,_,rfl,Zh,fun k x hk=>by
  have:=Wx (enc:=Zab) Xo (Xu::r) [] [] k x hk
  simpa using this⟩
 have hRr:=hRW.drop (l:=1) (cap:=(Xu::r).length) (Nat.le_refl _)
 have hrl:r.length≤s.length:=by simp only [List.length_cons] at hwl;omega
 have kR:=Zdd (List.replicate (max 1 (((Xu::r).length:Int)-1)).toNat 110) (cut (some ⟨b1,0,none⟩) (Xu::r).length 1 1) r.length r _ ((((hS.cons _).cons _).cons _)) hRr (Nat.le_refl _) (by omega) (by rw [List.length_replicate,List.length_cons];omega) (fun x hx=>by have:=hwx x (List.mem_cons_of_mem _ hx);omega)
 have hform:(max 1 (((Xu::r).length:Int)-1)).toNat=max 1 r.length:=by rw [List.length_cons];omega
 repeat' (first|refine uN ?_|refine Zu S ?_|(refine uB ?_;intro b)|refine dg S 100 (fun _ _=>?_)|(refine uP ?_ ?_<;>(intro h;((try simp only [zs,zq,reduceCtorEq] at h);try exact zx)))|refine da 101 ?_|fail)
 refine gc (Zls (max 1 (((Xu::r).length:Int)-1)) (by omega) (by rw [List.length_cons];omega) _) ?_
 rintro v L' ⟨rfl,rfl⟩
 repeat' (first|refine uN ?_|refine Zu S ?_|(refine uB ?_;intro b)|refine dg S 100 (fun _ _=>?_)|(refine uP ?_ ?_<;>(intro h;((try simp only [zs,zq,reduceCtorEq] at h);try exact zx)))|refine da 101 ?_|fail)
 refine gc kR ?_
 rintro v L' ⟨c,u,rfl,hu,rfl⟩
 rw [hform] at *
 have hG:=((((hE.er [1,4]).cons [(p,.cells ⟨[PP]⟩ 74)]).cons PW).cons [(b1,.cells ⟨((Xu::r).map Zab).flatten⟩ 9)]).cons c
 unfold Za3
 rw [if_pos rfl]
 cases hrd:V9 (List.replicate (max 1 r.length) 110) r with
 | none =>
  simp only [hrd] at hu
  repeat' (first|refine uN ?_|refine Zu S ?_|(refine uB ?_;intro b)|refine dg S 100 (fun _ _=>?_)|(refine uP ?_ ?_<;>(intro h;((try simp only [zs,zq,reduceCtorEq] at h);try exact zx)))|refine da 101 ?_|fail)
  subst hH hP
  exact W9 (L':=[]::Zd4 G o::[(p,.cells ⟨[Zd3 G o]⟩ 74)]::L) uL ⟨[],_,-1,G,rfl,Zdz (e:=some 1) rfl,hW,rfl⟩
 | some n =>
  simp only [hrd] at hu
  have hnl:=Zbf (show (List.replicate (max 1 r.length) (110:UInt8)).length=r.length by
   unfold V9 at hrd
   split at hrd
   ·assumption
   ·cases hrd) (by
   unfold V9 at hrd
   split at hrd
   ·exact hrd
   ·cases hrd)
  have kN:=Zvt T E u n c ([(b1,.cells ⟨((Xu::r).map Zab).flatten⟩ 9)]::PW::[(p,.cells ⟨[PP]⟩ 74)]::L) ((((hE.er [2,3,4,6]).cons _).cons _).cons _) hu (by rw [hnl.1];omega)
  simp only
  cases hc:Ym n with
  | none =>
   rw [hc] at kN
   have kN:=HC.shutN (V:=fun v G=>v = .tuple ⟨[pt G.wp 0,.nilIface]⟩) kN
   have ko:=fun L=>Zfy .nilIface L
   repeat' (first|refine uN ?_|refine Zu S ?_|(refine uB ?_;intro b)|refine dg S 100 (fun _ _=>?_)|(refine uP ?_ ?_<;>(intro h;((try simp only [zs,zq,reduceCtorEq] at h);try exact zx)))|refine da 101 ?_|fail)
   refine gc kN ?_
   rintro v L' ⟨G2,rfl,hW2,rfl⟩
   repeat' (first|refine uN ?_|refine Zu S ?_|refine uC (ko _) ?_|refine Yb (fun _=>ko _) ?_|refine Yc (fun _=>ko _) ?_|refine Yd (fun _=>ko _) ?_|refine Ye (fun _=>ko _) ?_|(refine uB ?_;intro b)|refine dg S 100 (fun _ _=>?_)|(refine uP ?_ ?_<;>(intro h;((try simp only [zs,zq,reduceCtorEq] at h);try exact zx)))|refine da 101 ?_|fail)
   subst hH hP
   exact W9 (L':=[]::Wa G2 (Ve n)::[(p,.cells ⟨[pt G2.wp 0]⟩ 74)]::L) uL ⟨[],_,-1,G2,rfl,FV.nil,fun M hM=>by cases hM;exact hW2,rfl⟩
  | some e =>
   rw [hc] at kN
   simp only at kN
   have ko:=fun L=>Zfy (eV T E (some e)) L
   repeat' (first|refine uN ?_|refine Zu S ?_|(refine uB ?_;intro b)|refine dg S 100 (fun _ _=>?_)|(refine uP ?_ ?_<;>(intro h;((try simp only [zs,zq,reduceCtorEq] at h);try exact zx)))|refine da 101 ?_|fail)
   refine gc kN ?_
   rintro v L' ⟨rfl,rfl⟩
   repeat' (first|refine uN ?_|refine Zu S ?_|refine uC (ko _) ?_|refine Yb (fun _=>ko _) ?_|refine Yc (fun _=>ko _) ?_|refine Yd (fun _=>ko _) ?_|refine Ye (fun _=>ko _) ?_|(refine uB ?_;intro b)|refine dg S 100 (fun _ _=>?_)|(refine uP ?_ ?_<;>(intro h;((try simp only [zs,zq,reduceCtorEq] at h);try exact zx)))|refine da 101 ?_|fail)
   subst hH hP
   exact W9 (L':=[]::Zd4 G o::[(p,.cells ⟨[Zd3 G o]⟩ 74)]::L) uL ⟨[],_,-1,G,rfl,Zdz (e:=some e) (hc▸Zxv n),hW,rfl⟩
theorem Zmg (w:List UInt8) : ∀ (t1 t2:List (List UInt8 × List UInt8 × Nat)) (i:Nat),V7 w (t1++t2) i=match V7 w t1 i with
  | some k=>some k
  | none=>V7 w t2 (i+t1.length)
 | [],t2,i=>rfl
 | (x,f,F)::r,t2,i=>by
  simp only [List.cons_append,V7]
  split
  ·rfl
  ·rw [Zmg w r t2 (i+1)]
   simp only [List.length_cons]
   rw [show i+1+r.length=i+(r.length+1) by omega]
theorem Zp0 (w:List UInt8) : ∀ (t:List (List UInt8 × List UInt8 × Nat)) (q:List Nat) (i:Nat),q.length=t.length→match V7 w t i with
  | none=>Uq w (actL t q)=none
  | some k=>i≤k∧k-i<t.length ∧ ∃ bx,Uq w (actL t q)=some (Zd2 (t.getD (k-i) ([],[],0)).2.1 bx)∧(bx,Zi8 (t.getD (k-i) ([],[],0)).2.2)∈Ux t q
 | [],[],i,_=>rfl
 | (x,f,F)::r,b::q,i,h=>by
  have ih:=Zp0 w r q (i+1) (by simpa using h)
  simp only [V7,actL,Uq,Ux]
  by_cases hw:w=x
  ·simp only [if_pos hw]
   exact ⟨Nat.le_refl _,by simp,b,by simp,by simp⟩
  ·simp only [if_neg hw]
   cases hf:V7 w r (i+1) with
   | none=>rw [hf] at ih;exact ih
   | some k =>
    rw [hf] at ih
    obtain ⟨h1,h2,bx,h3,h4⟩:=ih
    have e:k-i=k-(i+1)+1:=by omega
    refine ⟨by omega,by simp only [List.length_cons];omega,bx,?_,?_⟩
    ·rw [e];exact h3
    ·rw [e];exact List.mem_cons_of_mem _ h4
theorem Zmq (w:List UInt8) : ∀ (t:List (List UInt8 × List UInt8 × Nat)) (i:Nat),match V7 w t i with
  | none=>Uq w (t.map fun x=>(x.1,Value.agg ⟨[bs x.2.1,Zx0 x.2.2]⟩))=none
  | some k=>i≤k∧k-i<t.length∧Uq w (t.map fun x=>(x.1,Value.agg ⟨[bs x.2.1,Zx0 x.2.2]⟩))=some (.agg ⟨[bs (t.getD (k-i) ([],[],0)).2.1,Zx0 (t.getD (k-i) ([],[],0)).2.2]⟩)
 | [],i=>rfl
 | (x,f,F)::r,i=>by
  have ih:=Zmq w r (i+1)
  simp only [V7,List.map_cons,Uq]
  by_cases hw:w=x
  ·simp only [if_pos hw]
   exact ⟨Nat.le_refl _,by simp,by simp⟩
  ·simp only [if_neg hw]
   cases hf:V7 w r (i+1) with
   | none=>rw [hf] at ih;exact ih
   | some k =>
    rw [hf] at ih
    obtain ⟨h1,h2,h3⟩:=ih
    have e:k-i=k-(i+1)+1:=by omega
    exact ⟨by omega,by simp only [List.length_cons];omega,by rw [e];exact h3⟩
theorem doesA (T:Nat) (E:Nat→Addr) (G:WdG) (M:Wm) (p:Nat) (a:Option Addr) (cap:Nat) (ns:List Int) (X:Zb) (k bx:Nat) (hk:k<11) (hE:Es T E X) (hS:Sz X) (hW:WdOk G M) (hM:WI M) (hV:EvW M) (hl:M.l.length≤99000000) (hR:Rd ic 1 X a ns) (hn:ns.length=(Y9 k).length) (hcap:ns.length≤cap)
  (hbx:Has X bx (Zi8 (cmdT.getD k ([],[],0)).2.2)):HC Tryz.prog 142 ([pt p 0,.slice a ns.length cap]++[pt bx 0]) (Wa G M::Zx p (pt G.wp 0)::X) (DoQ T E G p X (doW k M ns)):=by
 have h:=Zjc T E G M p a cap ns X k bx (by omega) hE hS hW hM hV hl hR hn hcap (fun _=>hbx)
 unfold fnOf capOf at h
 rw [if_pos hk,if_pos hk] at h
 exact h
theorem doesB (T:Nat) (E:Nat→Addr) (G:WdG) (M:Wm) (p:Nat) (a:Option Addr) (cap:Nat) (ns:List Int) (X:Zb) (k:Nat) (hk : ¬ k<11) (hk2:k<18) (hE:Es T E X) (hS:Sz X) (hW:WdOk G M) (hM:WI M) (hV:EvW M) (hl:M.l.length≤99000000) (hR:Rd ic 1 X a ns) (hn:ns.length=(Y9 k).length) (hcap:ns.length≤cap) :
  HC Tryz.prog (cmdT.getD k ([],[],0)).2.2 [pt p 0,.slice a ns.length cap] (Wa G M::Zx p (pt G.wp 0)::X) (DoQ T E G p X (doW k M ns)):=by
 have h:=Zjc T E G M p a cap ns X k 0 hk2 hE hS hW hM hV hl hR hn hcap (fun h=>absurd h hk)
 unfold fnOf capOf at h
 rw [if_neg hk,if_neg hk] at h
 exact h
theorem Zn1 : ∀ k,k<18→(cmdT.getD k ([],[],0)).2.1.length≤2:=by decide
theorem Zv7 : ∀ k,k<11→actTab.getD k ([],[],0)=cmdT.getD k ([],[],0):=by decide
theorem Zqk : ∀ k,k<7→lookTab.getD k ([],[],0)=cmdT.getD (k+11) ([],[],0):=by decide
theorem Zo3 {f:List UInt8} {r:List (List UInt8)} {n:List Int} (h:V9 f r=some n):n.length=f.length:=by
 unfold V9 at h
 split at h
 ·rename_i he
  rw [he]
  exact (Zbf he h).1
 ·cases h
set_option maxRecDepth 20000 in
theorem Zr2 (T:Nat) (E:Nat→Addr) (G:WdG) (o:Option Wm) (p:Nat) (s:List UInt8) (w:List UInt8) (r:List (List UInt8)) (L:Zb) (hE:Es T E L) (hS:Sz L) (hW : ∀ M,o=some M→WdOk G M∧WI M∧EvW M∧M.l.length≤99000000) (hs:s.length≤1000000) (hw:Y4 s=w::r) (hne:w≠Xu) :
  HC Tryz.prog 30 [pt p 0,bs s] (Zd4 G o::Zx p (Zd3 G o)::L) (PlayQ T E p L (Za3 o w r)):=by
 have ksp:=Zhv s hs (Zd4 G o::Zx p (Zd3 G o)::L) ((hS.cons _).cons _)
 obtain ⟨hwl,hwx⟩:=Zg1 s
 rw [hw] at ksp hwl hwx
 have hrl:r.length≤s.length:=by simp only [List.length_cons] at hwl;omega
 have hn2 : ¬ w=[115,105,116,101,115]:=hne
 generalize hH:Zd4 G o=PW at *
 unfold Zx at *
 generalize hP:Zd3 G o=PP at *
 unfold Za3
 rw [if_neg hne]
 have ha:=fun q hq=>Zp0 w actTab q 0 hq
 have hlk:=Zmq w lookTab 11
 rw [show cmdT=actTab++lookTab from rfl,Zmg w actTab lookTab 0,show 0+actTab.length=11 from rfl]
 cases hfa:V7 w actTab 0 with
 | some k =>
  simp only [hfa] at ha
  have hk:k<11:=by
   obtain ⟨-,h2,-⟩:=ha (List.replicate 11 0) rfl
   exact h2
  have hfl:(Y9 k).length≤2:=Zn1 k (by omega)
  simp only
  refine Za (fun _ _=>Tryz.call30 _ _) Tryz.func30 rfl Tryz.ntmps30 (Nat.le_of_ble_eq_true rfl) ?_;simp only [Zd,Nat.reduceAdd]
  repeat' (first|refine uN ?_|refine Z2 S ?_|refine Yp S ?_|(refine uB ?_;intro b)|refine dg S 100 (fun _ _=>?_)|(refine uP ?_ ?_<;>(intro h;((try simp only [zs,zq,reduceCtorEq] at h);try exact zx)))|refine da 101 ?_|fail)
  refine gc ksp ?_
  rintro v L' ⟨b1,rfl,rfl⟩
  have hRW:Rd Zab 1 ([(b1,.cells ⟨((w::r).map Zab).flatten⟩ 9)]::PW::[(p,.cells ⟨[PP]⟩ 74)]::L) (some ⟨b1,0,none⟩) (w::r) := .inr ⟨b1,0,_,_,_,rfl,Zh,fun k x hk=>by
   have:=Wx (enc:=Zab) Xo (w::r) [] [] k x hk
   simpa using this⟩
  have hRr:=hRW.drop (l:=1) (cap:=(w::r).length) (Nat.le_refl _)
  have kR:=fun (f:List UInt8) (A:Zb) (hf:f.length≤2)=>Zdd f (cut (some ⟨b1,0,none⟩) (w::r).length 1 1) r.length r (A++([(b1,.cells ⟨((w::r).map Zab).flatten⟩ 9)]::PW::[(p,.cells ⟨[PP]⟩ 74)]::L)) (((((hS.cons _).cons _).cons _)).mono fun _ _ h=>Zif h) (hRr.mono fun _ _ h=>Zif h) (Nat.le_refl _) (by omega) (by omega) (fun x hx=>by have:=hwx x (List.mem_cons_of_mem _ hx);omega)
  repeat' (first|refine uN ?_|refine Zu S ?_|(refine uB ?_;intro b)|refine dg S 100 (fun _ _=>?_)|(refine uP ?_ ?_<;>(intro h;((try simp only [zs,zq,reduceCtorEq] at h);try exact zx)))|refine da 101 ?_|fail)
  refine Zbx ?_ ?_
  ·refine gc (Zbq _) ?_
   rintro v L' ⟨m,es,ck,q,rfl,hEnt,hq,rfl⟩
   obtain ⟨-,-,bx,h3,h4⟩:=ha q hq
   rw [Nat.sub_zero,Zv7 k hk] at h3 h4
   have hbm : ∀ H:Zb,Has (((m,.map ⟨es⟩ ck)::(Ux actTab q).reverse)::H) m (.map ⟨es⟩ ck):=fun H=>Zh
   have hbx : ∀ H:Zb,Has (((m,.map ⟨es⟩ ck)::(Ux actTab q).reverse)::H) bx (Zi8 (cmdT.getD k ([],[],0)).2.2):=fun H=>Wy (Yo (List.mem_reverse.2 h4))
   repeat' (first|refine uN ?_|refine Zu S ?_|(refine uB ?_;intro b)|refine dg S 100 (fun _ _=>?_)|(refine uP ?_ ?_<;>(intro h;((try simp only [zs,zq,reduceCtorEq] at h);try exact zx)))|refine da 101 ?_|fail)
   refine dqS S 0 hEnt (hbm _) ?_
   rw [h3]
   simp only [Option.getD_some,Option.isSome_some]
   unfold Zd2
   rw [show (cmdT.getD k ([],[],0)).2.1=Y9 k from rfl]
   repeat' (first|refine uN ?_|refine Zu S ?_|(refine uB ?_;intro b)|refine dg S 100 (fun _ _=>?_)|(refine uP ?_ ?_<;>(intro h;((try simp only [zs,zq,reduceCtorEq] at h);try exact zx)))|refine da 101 ?_|fail)
   refine gc (kR (Y9 k) [[(b,.cells ⟨[bs (Y9 k),.func (.func 142) #[] ⟨[pt bx 0]⟩]⟩ 117)],((m,.map ⟨es⟩ ck)::(Ux actTab q).reverse)] hfl) ?_
   rintro v L' ⟨c,u,rfl,hu,rfl⟩
   have hG:=((((((hE.er [1,4]).cons [(p,.cells ⟨[PP]⟩ 74)]).cons PW).cons [(b1,.cells ⟨((w::r).map Zab).flatten⟩ 9)]).cons (((m,.map ⟨es⟩ ck)::(Ux actTab q).reverse))).cons ([(b,.cells ⟨[bs (Y9 k),.func (.func 142) #[] ⟨[pt bx 0]⟩]⟩ 117)])).cons c
   cases hrd:V9 (Y9 k) r with
   | none =>
    rw [hrd] at hu
    repeat' (first|refine uN ?_|refine Zu S ?_|(refine uB ?_;intro b)|refine dg S 100 (fun _ _=>?_)|(refine uP ?_ ?_<;>(intro h;((try simp only [zs,zq,reduceCtorEq] at h);try exact zx)))|refine da 101 ?_|fail)
    subst hH hP
    exact W9 (L':=[]::Zd4 G o::[(p,.cells ⟨[Zd3 G o]⟩ 74)]::L) uL ⟨[],_,-1,G,rfl,Zdz (e:=some 1) rfl,fun M hM=>(hW M hM).1,rfl⟩
   | some n =>
    rw [hrd] at hu
    have hnl:=Zo3 hrd
    cases o with
    | none =>
     subst hH hP
     unfold Zd3 Zd4 at *
     repeat' (first|refine uN ?_|refine Zu S ?_|(refine uB ?_;intro b)|refine dg S 100 (fun _ _=>?_)|(refine uP ?_ ?_<;>(intro h;((try simp only [zs,zq,reduceCtorEq] at h);try exact zx)))|refine da 101 ?_|fail)
     exact W9 (L':=[]::[]::[(p,.cells ⟨[.pointer none]⟩ 74)]::L) uL ⟨[],_,-1,G,rfl,Zdz (e:=some 4) rfl,fun M hM=>(by cases hM),rfl⟩
    | some M =>
     subst hH hP
     unfold Zd3 Zd4 at *
     obtain ⟨hW1,hM1,hV1,hl1⟩:=hW M rfl
     obtain ⟨an,capn,rfl,hcapn,hRn⟩:=hu.rd Wh
     repeat' (first|refine uN ?_|refine Zu S ?_|(refine uB ?_;intro b)|refine dg S 100 (fun _ _=>?_)|(refine uP ?_ ?_<;>(intro h;((try simp only [zs,zq,reduceCtorEq] at h);try exact zx)))|refine da 101 ?_|fail)
     refine Wq (qLF Tryz.isAgg115) ?_
     repeat' (first|refine uN ?_|refine Zu S ?_|(refine uB ?_;intro b)|refine dg S 100 (fun _ _=>?_)|(refine uP ?_ ?_<;>(intro h;((try simp only [zs,zq,reduceCtorEq] at h);try exact zx)))|refine da 101 ?_|fail)
     refine Q5 (L':=Wa G M::Zx p (pt G.wp 0)::c::[(b,.cells ⟨[bs (Y9 k),.func (.func 142) #[] ⟨[pt bx 0]⟩]⟩ 117)]::((m,.map ⟨es⟩ ck)::(Ux actTab q).reverse)::[(b1,.cells ⟨((w::r).map Zab).flatten⟩ 9)]::L) ?_ uL
     refine gc (doesA T E G M p an capn n (c::[(b,.cells ⟨[bs (Y9 k),.func (.func 142) #[] ⟨[pt bx 0]⟩]⟩ 117)]::((m,.map ⟨es⟩ ck)::(Ux actTab q).reverse)::[(b1,.cells ⟨((w::r).map Zab).flatten⟩ 9)]::L) k bx hk ((((hE.cons _).cons _).cons _).cons _) ((((hS.cons _).cons _).cons _).cons _) hW1 hM1 hV1 hl1 (hRn _) hnl hcapn (Zc (Zc (hbx _)))) ?_
     rintro v L' ⟨c2,fv2,at_,rfl,hf2,G2,e1,hW2,rfl⟩
     repeat' (first|refine uN ?_|refine Zu S ?_|(refine uB ?_;intro b)|refine dg S 100 (fun _ _=>?_)|(refine uP ?_ ?_<;>(intro h;((try simp only [zs,zq,reduceCtorEq] at h);try exact zx)))|refine da 101 ?_|fail)
     exact W9 (L':=c2::Wa G2 (doW k M n).2.2::Zx p (pt G.wp 0)::L) uL ⟨c2,fv2,at_,G2,rfl,hf2,fun M' hM'=>(by cases hM';exact hW2),by unfold Zd4 Zd3 Zx;rw [e1]⟩
  ·repeat' (first|refine uN ?_|refine Zu S ?_|(refine uB ?_;intro b)|refine dg S 100 (fun _ _=>?_)|(refine uP ?_ ?_<;>(intro h;((try simp only [zs,zq,reduceCtorEq] at h);try exact zx)))|refine da 101 ?_|fail)
   refine gc (Zbq _) ?_
   rintro v L' ⟨m,es,ck,q,rfl,hEnt,hq,rfl⟩
   obtain ⟨-,-,bx,h3,h4⟩:=ha q hq
   rw [Nat.sub_zero,Zv7 k hk] at h3 h4
   have hbm : ∀ H:Zb,Has (((m,.map ⟨es⟩ ck)::(Ux actTab q).reverse)::H) m (.map ⟨es⟩ ck):=fun H=>Zh
   have hbx : ∀ H:Zb,Has (((m,.map ⟨es⟩ ck)::(Ux actTab q).reverse)::H) bx (Zi8 (cmdT.getD k ([],[],0)).2.2):=fun H=>Wy (Yo (List.mem_reverse.2 h4))
   repeat' (first|refine uN ?_|refine Zu S ?_|(refine uB ?_;intro b)|refine dg S 100 (fun _ _=>?_)|(refine uP ?_ ?_<;>(intro h;((try simp only [zs,zq,reduceCtorEq] at h);try exact zx)))|refine da 101 ?_|fail)
   refine dqS S 0 hEnt (hbm _) ?_
   rw [h3]
   simp only [Option.getD_some,Option.isSome_some]
   unfold Zd2
   rw [show (cmdT.getD k ([],[],0)).2.1=Y9 k from rfl]
   repeat' (first|refine uN ?_|refine Zu S ?_|(refine uB ?_;intro b)|refine dg S 100 (fun _ _=>?_)|(refine uP ?_ ?_<;>(intro h;((try simp only [zs,zq,reduceCtorEq] at h);try exact zx)))|refine da 101 ?_|fail)
   refine gc (kR (Y9 k) [((m,.map ⟨es⟩ ck)::(Ux actTab q).reverse),[(b,.cells ⟨[bs (Y9 k),.func (.func 142) #[] ⟨[pt bx 0]⟩]⟩ 117)]] hfl) ?_
   rintro v L' ⟨c,u,rfl,hu,rfl⟩
   have hG:=((((((hE.er [1,4]).cons [(p,.cells ⟨[PP]⟩ 74)]).cons PW).cons [(b1,.cells ⟨((w::r).map Zab).flatten⟩ 9)]).cons ([(b,.cells ⟨[bs (Y9 k),.func (.func 142) #[] ⟨[pt bx 0]⟩]⟩ 117)])).cons (((m,.map ⟨es⟩ ck)::(Ux actTab q).reverse))).cons c
   cases hrd:V9 (Y9 k) r with
   | none =>
    rw [hrd] at hu
    repeat' (first|refine uN ?_|refine Zu S ?_|(refine uB ?_;intro b)|refine dg S 100 (fun _ _=>?_)|(refine uP ?_ ?_<;>(intro h;((try simp only [zs,zq,reduceCtorEq] at h);try exact zx)))|refine da 101 ?_|fail)
    subst hH hP
    exact W9 (L':=[]::Zd4 G o::[(p,.cells ⟨[Zd3 G o]⟩ 74)]::L) uL ⟨[],_,-1,G,rfl,Zdz (e:=some 1) rfl,fun M hM=>(hW M hM).1,rfl⟩
   | some n =>
    rw [hrd] at hu
    have hnl:=Zo3 hrd
    cases o with
    | none =>
     subst hH hP
     unfold Zd3 Zd4 at *
     repeat' (first|refine uN ?_|refine Zu S ?_|(refine uB ?_;intro b)|refine dg S 100 (fun _ _=>?_)|(refine uP ?_ ?_<;>(intro h;((try simp only [zs,zq,reduceCtorEq] at h);try exact zx)))|refine da 101 ?_|fail)
     exact W9 (L':=[]::[]::[(p,.cells ⟨[.pointer none]⟩ 74)]::L) uL ⟨[],_,-1,G,rfl,Zdz (e:=some 4) rfl,fun M hM=>(by cases hM),rfl⟩
    | some M =>
     subst hH hP
     unfold Zd3 Zd4 at *
     obtain ⟨hW1,hM1,hV1,hl1⟩:=hW M rfl
     obtain ⟨an,capn,rfl,hcapn,hRn⟩:=hu.rd Wh
     repeat' (first|refine uN ?_|refine Zu S ?_|(refine uB ?_;intro b)|refine dg S 100 (fun _ _=>?_)|(refine uP ?_ ?_<;>(intro h;((try simp only [zs,zq,reduceCtorEq] at h);try exact zx)))|refine da 101 ?_|fail)
     refine Wq (qLF Tryz.isAgg115) ?_
     repeat' (first|refine uN ?_|refine Zu S ?_|(refine uB ?_;intro b)|refine dg S 100 (fun _ _=>?_)|(refine uP ?_ ?_<;>(intro h;((try simp only [zs,zq,reduceCtorEq] at h);try exact zx)))|refine da 101 ?_|fail)
     refine Q5 (L':=Wa G M::Zx p (pt G.wp 0)::c::((m,.map ⟨es⟩ ck)::(Ux actTab q).reverse)::[(b,.cells ⟨[bs (Y9 k),.func (.func 142) #[] ⟨[pt bx 0]⟩]⟩ 117)]::[(b1,.cells ⟨((w::r).map Zab).flatten⟩ 9)]::L) ?_ uL
     refine gc (doesA T E G M p an capn n (c::((m,.map ⟨es⟩ ck)::(Ux actTab q).reverse)::[(b,.cells ⟨[bs (Y9 k),.func (.func 142) #[] ⟨[pt bx 0]⟩]⟩ 117)]::[(b1,.cells ⟨((w::r).map Zab).flatten⟩ 9)]::L) k bx hk ((((hE.cons _).cons _).cons _).cons _) ((((hS.cons _).cons _).cons _).cons _) hW1 hM1 hV1 hl1 (hRn _) hnl hcapn (Zc (hbx _))) ?_
     rintro v L' ⟨c2,fv2,at_,rfl,hf2,G2,e1,hW2,rfl⟩
     repeat' (first|refine uN ?_|refine Zu S ?_|(refine uB ?_;intro b)|refine dg S 100 (fun _ _=>?_)|(refine uP ?_ ?_<;>(intro h;((try simp only [zs,zq,reduceCtorEq] at h);try exact zx)))|refine da 101 ?_|fail)
     exact W9 (L':=c2::Wa G2 (doW k M n).2.2::Zx p (pt G.wp 0)::L) uL ⟨c2,fv2,at_,G2,rfl,hf2,fun M' hM'=>(by cases hM';exact hW2),by unfold Zd4 Zd3 Zx;rw [e1]⟩
 | none =>
  simp only [hfa] at ha
  simp only
  refine Za (fun _ _=>Tryz.call30 _ _) Tryz.func30 rfl Tryz.ntmps30 (Nat.le_of_ble_eq_true rfl) ?_;simp only [Zd,Nat.reduceAdd]
  repeat' (first|refine uN ?_|refine Z2 S ?_|refine Yp S ?_|(refine uB ?_;intro b)|refine dg S 100 (fun _ _=>?_)|(refine uP ?_ ?_<;>(intro h;((try simp only [zs,zq,reduceCtorEq] at h);try exact zx)))|refine da 101 ?_|fail)
  refine gc ksp ?_
  rintro v L' ⟨b1,rfl,rfl⟩
  have hRW:Rd Zab 1 ([(b1,.cells ⟨((w::r).map Zab).flatten⟩ 9)]::PW::[(p,.cells ⟨[PP]⟩ 74)]::L) (some ⟨b1,0,none⟩) (w::r) := .inr ⟨b1,0,_,_,_,rfl,Zh,fun k x hk=>by
   have:=Wx (enc:=Zab) Xo (w::r) [] [] k x hk
   simpa using this⟩
  have hRr:=hRW.drop (l:=1) (cap:=(w::r).length) (Nat.le_refl _)
  have kR:=fun (f:List UInt8) (A:Zb) (hf:f.length≤2)=>Zdd f (cut (some ⟨b1,0,none⟩) (w::r).length 1 1) r.length r (A++([(b1,.cells ⟨((w::r).map Zab).flatten⟩ 9)]::PW::[(p,.cells ⟨[PP]⟩ 74)]::L)) (((((hS.cons _).cons _).cons _)).mono fun _ _ h=>Zif h) (hRr.mono fun _ _ h=>Zif h) (Nat.le_refl _) (by omega) (by omega) (fun x hx=>by have:=hwx x (List.mem_cons_of_mem _ hx);omega)
  repeat' (first|refine uN ?_|refine Zu S ?_|(refine uB ?_;intro b)|refine dg S 100 (fun _ _=>?_)|(refine uP ?_ ?_<;>(intro h;((try simp only [zs,zq,reduceCtorEq] at h);try exact zx)))|refine da 101 ?_|fail)
  refine Zbx ?_ ?_
  ·refine gc (Zbq _) ?_
   rintro v L' ⟨m,es,ck,q,rfl,hEnt,hq,rfl⟩
   have h3:=ha q hq
   have hbm : ∀ H:Zb,Has (((m,.map ⟨es⟩ ck)::(Ux actTab q).reverse)::H) m (.map ⟨es⟩ ck):=fun H=>Zh
   repeat' (first|refine uN ?_|refine Zu S ?_|(refine uB ?_;intro b)|refine dg S 100 (fun _ _=>?_)|(refine uP ?_ ?_<;>(intro h;((try simp only [zs,zq,reduceCtorEq] at h);try exact zx)))|refine da 101 ?_|fail)
   refine dqS S 0 hEnt (hbm _) ?_
   rw [h3]
   simp only [Option.getD_none,Option.isSome_none]
   repeat' (first|refine uN ?_|refine Zu S ?_|(refine uB ?_;intro b)|refine dg S 100 (fun _ _=>?_)|(refine uP ?_ ?_<;>(intro h;((try simp only [zs,zq,reduceCtorEq] at h);try exact zx)))|refine da 101 ?_|fail)
   refine gc (Zhg _) ?_
   rintro v L' ⟨m2,es2,ck2,rfl,hEnt2,rfl⟩
   have hG:=((((((hE.er [1,4]).cons [(p,.cells ⟨[PP]⟩ 74)]).cons PW).cons [(b1,.cells ⟨((w::r).map Zab).flatten⟩ 9)]).cons (((m,.map ⟨es⟩ ck)::(Ux actTab q).reverse))).cons ([(b,.cells ⟨[bs [],.nilFunc]⟩ 117)])).cons ([(m2,.map ⟨es2⟩ ck2)])
   have hb2 : ∀ H:Zb,Has ([(m2,.map ⟨es2⟩ ck2)]::H) m2 (.map ⟨es2⟩ ck2):=fun H=>Zh
   repeat' (first|refine uN ?_|refine Zu S ?_|(refine uB ?_;intro b)|refine dg S 100 (fun _ _=>?_)|(refine uP ?_ ?_<;>(intro h;((try simp only [zs,zq,reduceCtorEq] at h);try exact zx)))|refine da 101 ?_|fail)
   refine dqS S 0 hEnt2 (hb2 _) ?_
   cases hfl2:V7 w lookTab 11 with
   | none =>
    rw [hfl2] at hlk
    rw [show Uq w Zro=none from hlk]
    simp only [Option.getD_none,Option.isSome_none]
    repeat' (first|refine uN ?_|refine Zu S ?_|(refine uB ?_;intro b)|refine dg S 100 (fun _ _=>?_)|(refine uP ?_ ?_<;>(intro h;((try simp only [zs,zq,reduceCtorEq] at h);try exact zx)))|refine da 101 ?_|fail)
    subst hH hP
    exact W9 (L':=[]::Zd4 G o::[(p,.cells ⟨[Zd3 G o]⟩ 74)]::L) uL ⟨[],_,-1,G,rfl,Zdz (e:=some 1) rfl,fun M hM=>(hW M hM).1,rfl⟩
   | some k =>
    rw [hfl2] at hlk
    obtain ⟨hk1,hk2,h4⟩:=hlk
    have hk2:k<18:=by
     have:k-11<7:=hk2
     omega
    have hk : ¬ k<11:=by omega
    rw [Zqk (k-11) (by omega),show k-11+11=k by omega] at h4
    rw [show Uq w Zro=some (.agg ⟨[bs (Y9 k),Zx0 (cmdT.getD k ([],[],0)).2.2]⟩) from h4]
    have hfl:(Y9 k).length≤2:=Zn1 k (by omega)
    clear hG
    simp only [Option.getD_some,Option.isSome_some]
    unfold Zx0
    repeat' (first|refine uN ?_|refine Zu S ?_|(refine uB ?_;intro b)|refine dg S 100 (fun _ _=>?_)|(refine uP ?_ ?_<;>(intro h;((try simp only [zs,zq,reduceCtorEq] at h);try exact zx)))|refine da 101 ?_|fail)
    refine gc (kR (Y9 k) [[(m2,.map ⟨es2⟩ ck2)],[(b,.cells ⟨[bs (Y9 k),.func (.func (cmdT.getD k ([],[],0)).2.2) #[] #[]]⟩ 117)],((m,.map ⟨es⟩ ck)::(Ux actTab q).reverse)] hfl) ?_
    rintro v L' ⟨c,u,rfl,hu,rfl⟩
    have hG:=(((((((hE.er [1,4]).cons [(p,.cells ⟨[PP]⟩ 74)]).cons PW).cons [(b1,.cells ⟨((w::r).map Zab).flatten⟩ 9)]).cons (((m,.map ⟨es⟩ ck)::(Ux actTab q).reverse))).cons ([(b,.cells ⟨[bs (Y9 k),.func (.func (cmdT.getD k ([],[],0)).2.2) #[] #[]]⟩ 117)])).cons ([(m2,.map ⟨es2⟩ ck2)])).cons c
    cases hrd:V9 (Y9 k) r with
    | none =>
     rw [hrd] at hu
     repeat' (first|refine uN ?_|refine Zu S ?_|(refine uB ?_;intro b)|refine dg S 100 (fun _ _=>?_)|(refine uP ?_ ?_<;>(intro h;((try simp only [zs,zq,reduceCtorEq] at h);try exact zx)))|refine da 101 ?_|fail)
     subst hH hP
     exact W9 (L':=[]::Zd4 G o::[(p,.cells ⟨[Zd3 G o]⟩ 74)]::L) uL ⟨[],_,-1,G,rfl,Zdz (e:=some 1) rfl,fun M hM=>(hW M hM).1,rfl⟩
    | some n =>
     rw [hrd] at hu
     have hnl:=Zo3 hrd
     cases o with
     | none =>
      subst hH hP
      unfold Zd3 Zd4 at *
      repeat' (first|refine uN ?_|refine Zu S ?_|(refine uB ?_;intro b)|refine dg S 100 (fun _ _=>?_)|(refine uP ?_ ?_<;>(intro h;((try simp only [zs,zq,reduceCtorEq] at h);try exact zx)))|refine da 101 ?_|fail)
      exact W9 (L':=[]::[]::[(p,.cells ⟨[.pointer none]⟩ 74)]::L) uL ⟨[],_,-1,G,rfl,Zdz (e:=some 4) rfl,fun M hM=>(by cases hM),rfl⟩
     | some M =>
      subst hH hP
      unfold Zd3 Zd4 at *
      obtain ⟨hW1,hM1,hV1,hl1⟩:=hW M rfl
      obtain ⟨an,capn,rfl,hcapn,hRn⟩:=hu.rd Wh
      repeat' (first|refine uN ?_|refine Zu S ?_|(refine uB ?_;intro b)|refine dg S 100 (fun _ _=>?_)|(refine uP ?_ ?_<;>(intro h;((try simp only [zs,zq,reduceCtorEq] at h);try exact zx)))|refine da 101 ?_|fail)
      refine Wq (qLF Tryz.isAgg115) ?_
      repeat' (first|refine uN ?_|refine Zu S ?_|(refine uB ?_;intro b)|refine dg S 100 (fun _ _=>?_)|(refine uP ?_ ?_<;>(intro h;((try simp only [zs,zq,reduceCtorEq] at h);try exact zx)))|refine da 101 ?_|fail)
      refine Q5 (L':=Wa G M::Zx p (pt G.wp 0)::c::[(m2,.map ⟨es2⟩ ck2)]::[(b,.cells ⟨[bs (Y9 k),.func (.func (cmdT.getD k ([],[],0)).2.2) #[] #[]]⟩ 117)]::((m,.map ⟨es⟩ ck)::(Ux actTab q).reverse)::[(b1,.cells ⟨((w::r).map Zab).flatten⟩ 9)]::L) ?_ uL
      refine gc (doesB T E G M p an capn n (c::[(m2,.map ⟨es2⟩ ck2)]::[(b,.cells ⟨[bs (Y9 k),.func (.func (cmdT.getD k ([],[],0)).2.2) #[] #[]]⟩ 117)]::((m,.map ⟨es⟩ ck)::(Ux actTab q).reverse)::[(b1,.cells ⟨((w::r).map Zab).flatten⟩ 9)]::L) k hk hk2 (((((hE.cons _).cons _).cons _).cons _).cons _) (((((hS.cons _).cons _).cons _).cons _).cons _) hW1 hM1 hV1 hl1 (hRn _) hnl hcapn) ?_
      rintro v L' ⟨c2,fv2,at_,rfl,hf2,G2,e1,hW2,rfl⟩
      repeat' (first|refine uN ?_|refine Zu S ?_|(refine uB ?_;intro b)|refine dg S 100 (fun _ _=>?_)|(refine uP ?_ ?_<;>(intro h;((try simp only [zs,zq,reduceCtorEq] at h);try exact zx)))|refine da 101 ?_|fail)
      exact W9 (L':=c2::Wa G2 (doW k M n).2.2::Zx p (pt G.wp 0)::L) uL ⟨c2,fv2,at_,G2,rfl,hf2,fun M' hM'=>(by cases hM';exact hW2),by unfold Zd4 Zd3 Zx;rw [e1]⟩
  ·repeat' (first|refine uN ?_|refine Zu S ?_|(refine uB ?_;intro b)|refine dg S 100 (fun _ _=>?_)|(refine uP ?_ ?_<;>(intro h;((try simp only [zs,zq,reduceCtorEq] at h);try exact zx)))|refine da 101 ?_|fail)
   refine gc (Zbq _) ?_
   rintro v L' ⟨m,es,ck,q,rfl,hEnt,hq,rfl⟩
   have h3:=ha q hq
   have hbm : ∀ H:Zb,Has (((m,.map ⟨es⟩ ck)::(Ux actTab q).reverse)::H) m (.map ⟨es⟩ ck):=fun H=>Zh
   repeat' (first|refine uN ?_|refine Zu S ?_|(refine uB ?_;intro b)|refine dg S 100 (fun _ _=>?_)|(refine uP ?_ ?_<;>(intro h;((try simp only [zs,zq,reduceCtorEq] at h);try exact zx)))|refine da 101 ?_|fail)
   refine dqS S 0 hEnt (hbm _) ?_
   rw [h3]
   simp only [Option.getD_none,Option.isSome_none]
   repeat' (first|refine uN ?_|refine Zu S ?_|(refine uB ?_;intro b)|refine dg S 100 (fun _ _=>?_)|(refine uP ?_ ?_<;>(intro h;((try simp only [zs,zq,reduceCtorEq] at h);try exact zx)))|refine da 101 ?_|fail)
   refine gc (Zhg _) ?_
   rintro v L' ⟨m2,es2,ck2,rfl,hEnt2,rfl⟩
   have hG:=((((((hE.er [1,4]).cons [(p,.cells ⟨[PP]⟩ 74)]).cons PW).cons [(b1,.cells ⟨((w::r).map Zab).flatten⟩ 9)]).cons ([(b,.cells ⟨[bs [],.nilFunc]⟩ 117)])).cons (((m,.map ⟨es⟩ ck)::(Ux actTab q).reverse))).cons ([(m2,.map ⟨es2⟩ ck2)])
   have hb2 : ∀ H:Zb,Has ([(m2,.map ⟨es2⟩ ck2)]::H) m2 (.map ⟨es2⟩ ck2):=fun H=>Zh
   repeat' (first|refine uN ?_|refine Zu S ?_|(refine uB ?_;intro b)|refine dg S 100 (fun _ _=>?_)|(refine uP ?_ ?_<;>(intro h;((try simp only [zs,zq,reduceCtorEq] at h);try exact zx)))|refine da 101 ?_|fail)
   refine dqS S 0 hEnt2 (hb2 _) ?_
   cases hfl2:V7 w lookTab 11 with
   | none =>
    rw [hfl2] at hlk
    rw [show Uq w Zro=none from hlk]
    simp only [Option.getD_none,Option.isSome_none]
    repeat' (first|refine uN ?_|refine Zu S ?_|(refine uB ?_;intro b)|refine dg S 100 (fun _ _=>?_)|(refine uP ?_ ?_<;>(intro h;((try simp only [zs,zq,reduceCtorEq] at h);try exact zx)))|refine da 101 ?_|fail)
    subst hH hP
    exact W9 (L':=[]::Zd4 G o::[(p,.cells ⟨[Zd3 G o]⟩ 74)]::L) uL ⟨[],_,-1,G,rfl,Zdz (e:=some 1) rfl,fun M hM=>(hW M hM).1,rfl⟩
   | some k =>
    rw [hfl2] at hlk
    obtain ⟨hk1,hk2,h4⟩:=hlk
    have hk2:k<18:=by
     have:k-11<7:=hk2
     omega
    have hk : ¬ k<11:=by omega
    rw [Zqk (k-11) (by omega),show k-11+11=k by omega] at h4
    rw [show Uq w Zro=some (.agg ⟨[bs (Y9 k),Zx0 (cmdT.getD k ([],[],0)).2.2]⟩) from h4]
    have hfl:(Y9 k).length≤2:=Zn1 k (by omega)
    clear hG
    simp only [Option.getD_some,Option.isSome_some]
    unfold Zx0
    repeat' (first|refine uN ?_|refine Zu S ?_|(refine uB ?_;intro b)|refine dg S 100 (fun _ _=>?_)|(refine uP ?_ ?_<;>(intro h;((try simp only [zs,zq,reduceCtorEq] at h);try exact zx)))|refine da 101 ?_|fail)
    refine gc (kR (Y9 k) [[(m2,.map ⟨es2⟩ ck2)],((m,.map ⟨es⟩ ck)::(Ux actTab q).reverse),[(b,.cells ⟨[bs (Y9 k),.func (.func (cmdT.getD k ([],[],0)).2.2) #[] #[]]⟩ 117)]] hfl) ?_
    rintro v L' ⟨c,u,rfl,hu,rfl⟩
    have hG:=(((((((hE.er [1,4]).cons [(p,.cells ⟨[PP]⟩ 74)]).cons PW).cons [(b1,.cells ⟨((w::r).map Zab).flatten⟩ 9)]).cons ([(b,.cells ⟨[bs (Y9 k),.func (.func (cmdT.getD k ([],[],0)).2.2) #[] #[]]⟩ 117)])).cons (((m,.map ⟨es⟩ ck)::(Ux actTab q).reverse))).cons ([(m2,.map ⟨es2⟩ ck2)])).cons c
    cases hrd:V9 (Y9 k) r with
    | none =>
     rw [hrd] at hu
     repeat' (first|refine uN ?_|refine Zu S ?_|(refine uB ?_;intro b)|refine dg S 100 (fun _ _=>?_)|(refine uP ?_ ?_<;>(intro h;((try simp only [zs,zq,reduceCtorEq] at h);try exact zx)))|refine da 101 ?_|fail)
     subst hH hP
     exact W9 (L':=[]::Zd4 G o::[(p,.cells ⟨[Zd3 G o]⟩ 74)]::L) uL ⟨[],_,-1,G,rfl,Zdz (e:=some 1) rfl,fun M hM=>(hW M hM).1,rfl⟩
    | some n =>
     rw [hrd] at hu
     have hnl:=Zo3 hrd
     cases o with
     | none =>
      subst hH hP
      unfold Zd3 Zd4 at *
      repeat' (first|refine uN ?_|refine Zu S ?_|(refine uB ?_;intro b)|refine dg S 100 (fun _ _=>?_)|(refine uP ?_ ?_<;>(intro h;((try simp only [zs,zq,reduceCtorEq] at h);try exact zx)))|refine da 101 ?_|fail)
      exact W9 (L':=[]::[]::[(p,.cells ⟨[.pointer none]⟩ 74)]::L) uL ⟨[],_,-1,G,rfl,Zdz (e:=some 4) rfl,fun M hM=>(by cases hM),rfl⟩
     | some M =>
      subst hH hP
      unfold Zd3 Zd4 at *
      obtain ⟨hW1,hM1,hV1,hl1⟩:=hW M rfl
      obtain ⟨an,capn,rfl,hcapn,hRn⟩:=hu.rd Wh
      repeat' (first|refine uN ?_|refine Zu S ?_|(refine uB ?_;intro b)|refine dg S 100 (fun _ _=>?_)|(refine uP ?_ ?_<;>(intro h;((try simp only [zs,zq,reduceCtorEq] at h);try exact zx)))|refine da 101 ?_|fail)
      refine Wq (qLF Tryz.isAgg115) ?_
      repeat' (first|refine uN ?_|refine Zu S ?_|(refine uB ?_;intro b)|refine dg S 100 (fun _ _=>?_)|(refine uP ?_ ?_<;>(intro h;((try simp only [zs,zq,reduceCtorEq] at h);try exact zx)))|refine da 101 ?_|fail)
      refine Q5 (L':=Wa G M::Zx p (pt G.wp 0)::c::[(m2,.map ⟨es2⟩ ck2)]::((m,.map ⟨es⟩ ck)::(Ux actTab q).reverse)::[(b,.cells ⟨[bs (Y9 k),.func (.func (cmdT.getD k ([],[],0)).2.2) #[] #[]]⟩ 117)]::[(b1,.cells ⟨((w::r).map Zab).flatten⟩ 9)]::L) ?_ uL
      refine gc (doesB T E G M p an capn n (c::[(m2,.map ⟨es2⟩ ck2)]::((m,.map ⟨es⟩ ck)::(Ux actTab q).reverse)::[(b,.cells ⟨[bs (Y9 k),.func (.func (cmdT.getD k ([],[],0)).2.2) #[] #[]]⟩ 117)]::[(b1,.cells ⟨((w::r).map Zab).flatten⟩ 9)]::L) k hk hk2 (((((hE.cons _).cons _).cons _).cons _).cons _) (((((hS.cons _).cons _).cons _).cons _).cons _) hW1 hM1 hV1 hl1 (hRn _) hnl hcapn) ?_
      rintro v L' ⟨c2,fv2,at_,rfl,hf2,G2,e1,hW2,rfl⟩
      repeat' (first|refine uN ?_|refine Zu S ?_|(refine uB ?_;intro b)|refine dg S 100 (fun _ _=>?_)|(refine uP ?_ ?_<;>(intro h;((try simp only [zs,zq,reduceCtorEq] at h);try exact zx)))|refine da 101 ?_|fail)
      exact W9 (L':=c2::Wa G2 (doW k M n).2.2::Zx p (pt G.wp 0)::L) uL ⟨c2,fv2,at_,G2,rfl,hf2,fun M' hM'=>(by cases hM';exact hW2),by unfold Zd4 Zd3 Zx;rw [e1]⟩
end Go.HL
end

/-! ScH -/
section
namespace Go.HL
open Go Go.Proofs
def Et (E:Nat→Addr) (L:Zb):Prop := ∀ c,List.elem c all8=true → ∃ b i l t fr,E c=⟨b,i,none⟩∧Has L b (.cells ⟨l⟩ t fr)∧l[i]? = some (bs (W2 c))
theorem Et.mono {E:Nat→Addr} {L L':Zb} (h:Et E L) (hl : ∀ b o,Has L b o→Has L' b o):Et E L':=fun c hc=>by
 obtain ⟨b,i,l,t,fr,h1,h2,h3⟩:=h c hc
 exact ⟨b,i,l,t,fr,h1,hl _ _ h2,h3⟩
theorem Et.cons {E:Nat→Addr} {L:Zb} (h:Et E L) (c:List Zr):Et E (c::L):=h.mono fun _ _ hb=>Zc hb
def Zah (o:Option Wm) (s:List UInt8):List UInt8 × Int × Option Wm:=Za3 o ((Y4 s).headD []) (Y4 s).tail
def Q6 (o:Option Wm) (s:List UInt8):List UInt8 × Option Wm:=(if (Zah o s).2.1=0 then (Zah o s).1 else W2 (Zah o s).2.1.toNat,(Zah o s).2.2)
def Zan:Option Wm→List (List UInt8)→List (List UInt8)
 | _,[]=>[]
 | o,s::r=>(Q6 o s).1::Zan (Q6 o s).2 r
def V0:Option Wm→List (List UInt8)→Option Wm
 | o,[]=>o
 | o,s::r=>V0 (Q6 o s).2 r
theorem Zkt : ∀ (o:Option Wm) (a b:List (List UInt8)),Zan o (a++b)=Zan o a++Zan (V0 o a) b
 | o,[],b=>rfl
 | o,s::a,b=>by simp only [List.cons_append,Zan,V0,Zkt _ a b]
theorem Zfh : ∀ (o:Option Wm) (a b:List (List UInt8)),V0 o (a++b)=V0 (V0 o a) b
 | o,[],b=>rfl
 | o,s::a,b=>by simp only [List.cons_append,V0,Zfh _ a b]
theorem Zku : ∀ (o:Option Wm) (a:List (List UInt8)),(Zan o a).length=a.length
 | o,[]=>rfl
 | o,s::a=>by simp only [Zan,List.length_cons,Zku _ a]
theorem Zqj (n:Int) (xs:List Ev) : ∀ (k i:Nat),k=xs.length-i→match Zcq n xs i with
  | none=>True
  | some (_,c)=>c≠7
 | 0,i,h=>by rw [Zcr (by omega)];trivial
 | k + 1,i,h=>by
  have hi:i<xs.length:=by omega
  cases he:Zjf n xs[i] (xs.take i) with
  | none=>rw [Za6 hi he];exact Zqj n xs k (i+1) (by omega)
  | some c =>
   rw [Zfe hi he]
   unfold Zjf at he
   split at he
   ·cases he;simp
   ·split at he
    ·cases he;simp
    ·split at he
     ·cases he;simp
     ·cases he
theorem Zim {e:Option Nat} (h:okW e):cdN e≠7:=by
 rcases h with rfl|rfl|rfl|rfl|rfl<;>decide
theorem doW_no7 (k:Nat) (M:Wm) (n:List Int):(doW k M n).2.1≠7:=by
 unfold doW
 split
 ·exact Zim (Zn0 k M n)
 split
 ·simp
 ·simp
 ·refine Zim ?_
  unfold Xz
  have:=Zdq M (n.getD 0 0)
  split
  ·rename_i e he;rw [he] at this;exact this
  ·split
   ·exact .inr (.inl rfl)
   ·exact .inl rfl
 ·refine Zim ?_
  unfold Up
  split
  ·exact .inr (.inl rfl)
  ·split<;>exact .inl rfl
 ·simp only
  split
  ·decide
  ·refine Zim ?_
   unfold Zh5
   have:=Zdq M (n.getD 0 0)
   split
   ·rename_i e he;rw [he] at this;exact this
   ·exact .inl rfl
 ·simp
 ·simp only
  unfold Zt1
  split
  ·decide
  ·have:=Zqj M.n.length (M.ev.map Zl1) (M.ev.map Zl1).length 0 (by omega)
   split
   ·decide
   ·rename_i i c hc
    rw [hc] at this
    simp only at this ⊢
    omega
theorem Zym (o:Option Wm) (s:List UInt8):(Zah o s).2.1≠7:=by
 have c1:(1:Int)≠7:=by decide
 unfold Zah Za3
 split
 ·split
  ·exact c1
  ·split
   ·exact (by decide:(0:Int)≠7)
   ·rename_i n hn e he
    simp only
    unfold Ym at he
    repeat' (first|(split at he)|(cases he;decide)|(cases he))
 ·split
  ·exact c1
  ·split
   ·exact c1
   ·split
    ·exact (by decide:(4:Int)≠7)
    ·exact doW_no7 _ _ _
theorem elem8 {c:Nat} (h:List.elem c all9=true) (h7:c≠7):List.elem c all8=true:=by
 have:=List.elem_iff.1 h
 simp [all9] at this
 rcases this with rfl|rfl|rfl|rfl|rfl|rfl|rfl|rfl|rfl<;>first|rfl|exact absurd rfl h7
structure PwOk (o:Option Wm) (k:Nat):Prop where
 ok : ∀ M,o=some M→WI M∧EvW M∧M.l.length≤k
theorem Zv0 : ∀ (k:Nat) {M:Wm},WI M→EvW M→EvW (Ue k M).1
 | 0,M,_,h=>h
 | k+1,M,hI,h=>by
  have h1:=(Qg hI 0).wi
  have h2:=Zjg hI h 0
  rw [Zdj]
  split
  ·exact Zv0 k h1 h2
  ·exact h2
theorem cmdW_ev {M:Wm} (hI:WI M) (h:EvW M) (k:Nat) (n:List Int):EvW (Y3 k M n).1:=by
 have hl : ∀ a b c,EvW (V8 M a b c).1:=fun a b c=>by
  unfold V8
  split
  ·exact h
  ·exact ⟨h.pw,h.rg,h.dn⟩
 unfold Y3
 split
 ·unfold Wv
  split
  ·exact h
  rename_i hb
  split
  ·exact h
  split
  ·exact h
  exact h.lead (by omega) (by omega) _ _
 ·unfold Wo
  split
  ·exact h
  split
  ·exact h
  rename_i hu
  obtain ⟨h0,h1,-⟩:=V5 hu
  exact h.set h0 h1 (by unfold U2;split<;>rfl)
 ·exact ev_tick hI h _
 ·exact Zjg hI h _
 ·unfold Qp
  split
  ·exact h
  ·exact h.setL _
 ·unfold Vw
  split
  ·exact h
  ·exact h.setL _
 ·exact hl _ _ _
 ·exact hl _ _ _
 ·unfold Zct
  split
  ·exact h
  split
  ·exact h
  rename_i hu
  obtain ⟨h0,h1,-⟩:=V5 hu
  exact h.set h0 h1 rfl
 ·unfold Qo
  split
  ·exact h
  rename_i hu
  obtain ⟨h0,h1,-⟩:=V5 hu
  exact h.set h0 h1 rfl
 ·unfold Zpo
  split
  ·exact h
  split
  ·exact h
  rename_i hu _
  obtain ⟨h0,h1⟩:=Y8 hu
  exact h.note hI h0 h1 rfl rfl
theorem Ztz {M:Wm} (hI:WI M) (h:EvW M) (k:Nat) (n:List Int) (h0:n.getD 1 0≤9223372036854775807):StepOk M (doW k M n).2.2 252000∧EvW (doW k M n).2.2:=by
 have hr:StepOk M M 252000 := .refl hI _
 unfold doW
 split
 ·exact ⟨(cmdW_ok hI k n h0).mono (by omega),cmdW_ev hI h k n⟩
 ·split
  ·exact ⟨(Zh9 3000 hI).1.mono (by omega),Zv0 3000 hI h⟩
  all_goals exact ⟨hr,h⟩
theorem Zob {n:List Int} {i:Nat} (h : ∀ x∈n,0≤x∧x≤99999):n.getD i 0≤9223372036854775807:=by
 rw [List.getD_eq_getElem?_getD]
 cases hg:n[i]? with
 | none=>simp
 | some x =>
  have:=(h x (List.mem_of_getElem? hg)).2
  simp only [Option.getD_some]
  omega
theorem rd_small {f:List UInt8} {r:List (List UInt8)} {n:List Int} (h:V9 f r=some n) : ∀ x∈n,0≤x∧x≤99999:=by
 unfold V9 at h
 split at h
 ·rename_i he
  exact (Zbf he h).2
 ·cases h
theorem lineW_ok {o:Option Wm} {k:Nat} (h:PwOk o k) (s:List UInt8):PwOk (Zah o s).2.2 (k+252000):=by
 have hk:PwOk o (k+252000):=⟨fun M hM=>by obtain ⟨a,b,c⟩:=h.ok M hM;exact ⟨a,b,by omega⟩⟩
 unfold Zah Za3
 split
 ·split
  ·exact hk
  ·rename_i n hn
   split
   ·rename_i hc
    exact ⟨fun M hM=>by cases hM;exact ⟨Zuo hc,ev_new n,by show ([]:List Fr).length≤_;simp⟩⟩
   ·exact hk
 ·split
  ·exact hk
  ·split
   ·exact hk
   ·rename_i n hn
    split
    ·exact ⟨fun M hM=>by cases hM⟩
    ·rename_i M
     obtain ⟨a,b,c⟩:=h.ok M rfl
     obtain ⟨h1,h2⟩:=Ztz a b _ n (Zob (rd_small hn))
     exact ⟨fun M' hM=>by cases hM;exact ⟨h1.wi,h2,by have:=h1.len;omega⟩⟩
set_option maxHeartbeats 2000000 attribute [local irreducible] HW HO HQ HD HC QOp Has Upd Zt Gets Z8 Z0 Zo Xm Zz Zj Xp Zy
theorem fv_code {T:Nat} {E:Nat→Addr} {v:Value} {code at_:Int} {c:List Zr} (h:FV T E v code at_ c):code=0∨(1≤code∧List.elem code.toNat all9=true):=by
 have key : ∀ k:Nat,List.elem k all9=true→1≤(k:Int):=fun k hk=>by
  have:=List.elem_iff.1 hk
  simp [all9] at this
  omega
 rcases h with ⟨e,he,-,rfl,-⟩|⟨pb,k,hk,-,rfl,-⟩
 ·cases e with
  | none=>exact .inl rfl
  | some k=>exact .inr ⟨key k he,by simpa [cdN,Zz3] using he⟩
 ·exact .inr ⟨key k hk,by simpa using hk⟩
theorem Zsp (T:Nat) (E:Nat→Addr) (v:Value) (code at_:Int) (c:List Zr) (L:Zb) (hE:Es T E L) (h:FV T E v code at_ c) (h1:1≤code):HC Tryz.prog 31 [v] (c::L) (fun u L'=>u=eV T E (some code.toNat)∧L'=c::L):=by
 have hT:=hE.ty
 rcases h with ⟨e,he,rfl,rfl,-,rfl⟩|⟨pb,k,hk,rfl,rfl,rfl⟩
 ·cases e with
  | none=>simp [cdN] at h1
  | some g =>
   have hA:=fun t L hg=>Zlj (E g) t L hg
   have hgl:=hE.et
   subst hT
   show HC _ _ [.iface 307 (.pointer (some (E g)))] _ (fun u L'=>u = .iface 307 (.pointer (some (E (((g:Nat):Int)).toNat)))∧_)
   rw [Int.toNat_natCast]
   refine Za (fun _ _=>Tryz.call31 _ _) Tryz.func31 rfl Tryz.ntmps31 (Nat.le_of_ble_eq_true rfl) ?_;simp only [Zd,Nat.reduceAdd]
   repeat' (first|refine uN ?_|(refine uB ?_;intro b)|(refine uP ?_ ?_<;>(intro h;((try simp only [zs,zq,reduceCtorEq] at h);try exact zx)))|fail)
   refine gc (hA _ _ hgl.cons.cons) ?_
   rintro v L' ⟨rfl,rfl⟩
   repeat' (first|refine uN ?_|(refine uB ?_;intro b)|(refine uP ?_ ?_<;>(intro h;((try simp only [zs,zq,reduceCtorEq] at h);try exact zx)))|fail)
   exact Z9 (L':=[]::L) uL ⟨rfl,rfl⟩
 ·have hA:=fun b t old L hg=>Znt ⟨pb,0,none⟩ b t old L hg
  have hgl:=hE.et
  rw [Int.toNat_natCast]
  unfold faC
  refine Za (fun _ _=>Tryz.call31 _ _) Tryz.func31 rfl Tryz.ntmps31 (Nat.le_of_ble_eq_true rfl) ?_;simp only [Zd,Nat.reduceAdd]
  repeat' (first|refine uN ?_|(refine uB ?_;intro b)|(refine uP ?_ ?_<;>(intro h;((try simp only [zs,zq,reduceCtorEq] at h);try exact zx)))|fail)
  refine gc (hA _ _ _ _ hgl.cons) ?_
  rintro v L' ⟨rfl,rfl⟩
  repeat' (first|refine uN ?_|(refine uB ?_;intro b)|(refine uP ?_ ?_<;>(intro h;((try simp only [zs,zq,reduceCtorEq] at h);try exact zx)))|fail)
  exact Z9 (L':=[(pb,.cells ⟨[iv at_,eV T E (some k)]⟩ 125)]::L) (LS.c (LS.refl _)) ⟨rfl,rfl⟩
theorem mErr (a:Addr) (w:World):(callMethod (.iface 307 (.pointer (some a))) "Error" #[]).run Tryz.prog w = .ok (.enter 299 #[.pointer (some a)]) w:=by
 have h:(Go.method 449 307 (.pointer (some a)) "Error").run Tryz.prog w = .ok (299,.pointer (some a)) w:=by kernel_rfl
 have hs:(Tryz.prog.types.size+Made.depth)=449:=by kernel_rfl
 unfold callMethod
 simp only [Sem.run_bind,run_program,Result.andThen,hs,h]
 exact Tryz.call299 _ _
theorem Zll (E:Nat→Addr) (c:Nat) (L:Zb) (hX:Et E L) (hc:List.elem c all8=true):HC Tryz.prog 299 [.pointer (some (E c))] L (fun v L'=>v=bs (W2 c)∧L'=L):=by
 obtain ⟨b,i,l,t,fr,he,hb,hl⟩:=hX c hc
 rw [he]
 have hl0:l[i+0]? = some (bs (W2 c)):=hl
 refine Za (fun _ _=>Tryz.call299 _ _) Tryz.func299 rfl Tryz.ntmps299 (Nat.le_of_ble_eq_true rfl) ?_;simp only [Zd,Nat.reduceAdd]
 repeat' (first|refine uN ?_)
 exact Um rfl ⟨rfl,rfl⟩
theorem Zr3 (T:Nat) (E:Nat→Addr) (G:WdG) (o:Option Wm) (p:Nat) (s:List UInt8) (L:Zb) (hE:Es T E L) (hS:Sz L) (hW : ∀ M,o=some M→WdOk G M) (hP:PwOk o 99000000) (hs:s.length≤1000000) :
  HC Tryz.prog 30 [pt p 0,bs s] (Zd4 G o::Zx p (Zd3 G o)::L) (PlayQ T E p L (Zah o s)):=by
 obtain ⟨w,r,hw⟩:=Zvu s
 unfold Zah
 rw [hw]
 by_cases h:w=Xu
 ·subst h
  exact Zr4 T E G o p s r L hE hS hW hs hw
 ·exact Zr2 T E G o p s w r L hE hS (fun M hM=>⟨hW M hM,hP.ok M hM⟩) hs hw h
theorem fv_iface {T:Nat} {E:Nat→Addr} {v:Value} {code at_:Int} {c:List Zr} (h:FV T E v code at_ c) (h1:1≤code) : ∃ t a,v = .iface t (.pointer (some a)):=by
 rcases h with ⟨e,he,rfl,rfl,-⟩|⟨pb,k,hk,rfl,rfl,-⟩
 ·cases e with
  | none=>simp [cdN] at h1
  | some g=>exact ⟨_,_,rfl⟩
 ·exact ⟨_,_,rfl⟩
theorem Zv9 : ∀ (l:List (List UInt8)) {o:Option Wm} {k:Nat},PwOk o k→PwOk (V0 o l) (k+252000*l.length)
 | [],o,k,h=>h
 | s::l,o,k,h=>by
  have h2:=Zv9 l (lineW_ok h s)
  rw [List.length_cons,Nat.mul_add,Nat.mul_one,Nat.add_comm (252000*l.length),← Nat.add_assoc]
  exact h2
theorem Zzf {o:Option Wm} {l:List (List UInt8)} {i:Nat} (h:i<l.length):Zan o (l.take (i+1))=Zan o (l.take i)++[(Q6 (V0 o (l.take i)) l[i]).1]∧V0 o (l.take (i+1))=(Q6 (V0 o (l.take i)) l[i]).2:=by
 rw [Ql h,Zkt,Zfh]
 exact ⟨rfl,rfl⟩
def wd0:WdG:=⟨0,Ys,[],Ys,[],0,[],0,Ys,[],Ys,[],[]⟩
attribute [local irreducible] Wa Zah Zd4 Zd3 Zx
set_option maxRecDepth 20000 in
theorem Zkv (T:Nat) (E:Nat→Addr) (a:Option Addr) (cap:Nat) (l:List (List UInt8)) (L:Zb) (hE:Es T E L) (hS:Sz L) (hX:Et E L) (hR:Rd Zab 1 L a l) (hcap:l.length≤cap) (hl:l.length≤1000) (hs : ∀ x∈l,x.length≤1000000) :
  HC Tryz.prog 11 [.slice a l.length cap] L (fun v L'=>if 100<l.length then v = .tuple ⟨[Ys,eV T E (some 2)]⟩∧L'=L else ∃ c u,v = .tuple ⟨[u,.nilIface]⟩∧Vec 9 1 Zab u (Zan none l) c∧L'=c::L):=by
 have hG:=hE.er [2]
 by_cases h100:100<l.length
 ·simp only [if_pos h100]
  refine Za (fun _ _=>Tryz.call11 _ _) Tryz.func11 rfl Tryz.ntmps11 (Nat.le_of_ble_eq_true rfl) ?_;simp only [Zd,Nat.reduceAdd]
  repeat' (first|refine uN ?_|refine Zu S ?_|(refine uB ?_;intro b)|refine dg S 100 (fun _ _=>?_)|(refine uP ?_ ?_<;>(intro h;((try simp only [zs,zq,reduceCtorEq] at h);try exact zx)))|refine da 101 ?_|fail)
  all_goals first|(exfalso;omega)|exact W9 (LS.refl _) ⟨rfl,rfl⟩
 ·simp only [if_neg h100]
  refine Za (fun _ _=>Tryz.call11 _ _) Tryz.func11 rfl Tryz.ntmps11 (Nat.le_of_ble_eq_true rfl) ?_;simp only [Zd,Nat.reduceAdd]
  repeat' (first|refine uN ?_|refine Zu S ?_|(refine uB ?_;intro b)|refine dg S 100 (fun _ _=>?_)|(refine uP ?_ ?_<;>(intro h;((try simp only [zs,zq,reduceCtorEq] at h);try exact zx)))|refine da 101 ?_|fail)
  obtain ⟨p,rfl⟩ : ∃ p,p=b:=⟨b,rfl⟩
  have hok:=fun i=>Zv9 (l.take i) (o:=none) (k:=0) ⟨fun M hM=>(by cases hM)⟩
  refine W6 (L':=[]::Zd4 wd0 none::Zx p (Zd3 wd0 none)::L) ?_ (by unfold Zd4 Zd3 Zx;exact LS.refl _)
  refine Zp (σ:=Nat × Value × List Zr × WdG) (fun r=>[(4,pt p 0),(5,r.2.1),(16,.slice a l.length cap),(17,iv l.length),(18,iv r.1),(3,.nilIface)])
   (fun r=>r.2.2.1::Zd4 r.2.2.2 (V0 none (l.take r.1))::Zx p (Zd3 r.2.2.2 (V0 none (l.take r.1)))::L)
   (fun r=>r.1≤l.length∧Vec 9 1 Zab r.2.1 (Zan none (l.take r.1)) r.2.2.1 ∧ ∀ M,V0 none (l.take r.1)=some M→WdOk r.2.2.2 M) (fun r=>l.length-r.1) (0,Ys,[],wd0) uS (List.Sublist.refl _) ⟨by simp,Zv,fun M hM=>(by cases hM)⟩ ?_
  rintro ⟨i,u,c,G1⟩ ⟨hi,hu,hW1⟩
  simp only at hi hu hW1 ⊢
  obtain ⟨a5,cap5,rfl,hcap5,-⟩:=hu.rd Xo
  have hrl:=Zku none (l.take i)
  rw [List.length_take] at hrl
  by_cases hit:i<l.length
  ·obtain ⟨b1,bi,q,F,fr,rfl,hb,hg⟩:=hR.at1 (j:=(i:Int)) (by omega) (by omega)
   have eg:l[(i:Int).toNat]'(by omega)=l[i]:=rfl
   rw [eg] at hg
   obtain ⟨t1,t2⟩:=Zzf (o:=none) hit
   have hsi:=hs l[i] (List.getElem_mem _)
   have hPo:=hok i
   have k:=Zr3 T E G1 (V0 none (l.take i)) p l[i] (c::L) (hE.cons c) (hS.cons c) hW1 ⟨fun M hM=>by obtain ⟨x,y,z⟩:=hPo.ok M hM;rw [List.length_take] at z;exact ⟨x,y,by omega⟩⟩ hsi
   unfold Q6 at t1 t2
   simp only at t1 t2
   generalize hD:Zan none (l.take i)=ds at *
   generalize V0 none (l.take i)=o at *
   generalize l[i]=x at *
   clear hok hPo hD
   repeat' (first|refine uN ?_|refine Zu S ?_|(refine uB ?_;intro b)|refine dg S 100 (fun _ _=>?_)|(refine uP ?_ ?_<;>(intro h;((try simp only [zs,zq,reduceCtorEq] at h);try exact zx)))|refine da 101 ?_|fail)
   refine Q5 (L':=Zd4 G1 o::Zx p (Zd3 G1 o)::c::L) ?_ uL
   refine gc k ?_
   rintro v L' ⟨c2,fv,at_,G2,rfl,hf,hW2,rfl⟩
   have hcd:=fv_code hf
   have h7:=Zym o x
   generalize Zah o x=R at *
   obtain ⟨txt,code,o2⟩:=R
   simp only at hf hW2 hcd h7 t1 t2
   by_cases h0:code=0
   ·subst h0
    obtain ⟨rfl,rfl⟩:=hf.zero
    simp only [if_pos] at t1
    repeat' (first|refine uN ?_|refine Zu S ?_|(refine uB ?_;intro b)|refine dg S 100 (fun _ _=>?_)|(refine uP ?_ ?_<;>(intro h;((try simp only [zs,zq,reduceCtorEq] at h);try exact zx)))|refine da 101 ?_|fail)
    refine fo 4 ?_
    refine Zce S txt hu Xo U7 ?_
    intro v' c' hv'
    repeat' (first|refine uN ?_|refine Zu S ?_|(refine uB ?_;intro b)|refine dg S 100 (fun _ _=>?_)|(refine uP ?_ ?_<;>(intro h;((try simp only [zs,zq,reduceCtorEq] at h);try exact zx)))|refine da 101 ?_|fail)
    refine Zg (i+1,v',c',G2) uS ?_ ⟨hit,by simp only [t1];exact hv',by simp only [t2];exact hW2⟩ (by simp only;omega)
    simp only [t2]
    exact uL
   ·have h1:1≤code∧List.elem code.toNat all8=true:=by
     rcases hcd with h|h
     ·exact absurd h h0
     ·exact ⟨h.1,elem8 h.2 (by omega)⟩
    rw [if_neg h0] at t1
    obtain ⟨tf,af,rfl⟩:=fv_iface hf h1.1
    have hT:=hE.ty
    have kb:=fun L hE=>Zsp T E _ code at_ c2 L hE hf h1.1
    repeat' (first|refine uN ?_|refine Zu S ?_|(refine uB ?_;intro b)|refine dg S 100 (fun _ _=>?_)|(refine uP ?_ ?_<;>(intro h;((try simp only [zs,zq,reduceCtorEq] at h);try exact zx)))|refine da 101 ?_|fail)
    refine gc (kb _ ?_) ?_
    ·exact (((hE.cons _).cons _).cons _)
    rintro v L' ⟨rfl,rfl⟩
    subst hT
    repeat' (first|refine uN ?_|refine Zu S ?_|(refine uB ?_;intro b)|refine dg S 100 (fun _ _=>?_)|(refine uP ?_ ?_<;>(intro h;((try simp only [zs,zq,reduceCtorEq] at h);try exact zx)))|refine da 101 ?_|fail)
    refine gi (mErr (E code.toNat)) (Zll E code.toNat _ ?_ h1.2) ?_
    ·exact ((((hX.cons _).cons _).cons _).cons _)
    rintro v L' ⟨rfl,rfl⟩
    repeat' (first|refine uN ?_|refine Zu S ?_|(refine uB ?_;intro b)|refine dg S 100 (fun _ _=>?_)|(refine uP ?_ ?_<;>(intro h;((try simp only [zs,zq,reduceCtorEq] at h);try exact zx)))|refine da 101 ?_|fail)
    refine fo 4 ?_
    refine Zce S (W2 code.toNat) hu Xo U7 ?_
    intro v' c' hv'
    repeat' (first|refine uN ?_|refine Zu S ?_|(refine uB ?_;intro b)|refine dg S 100 (fun _ _=>?_)|(refine uP ?_ ?_<;>(intro h;((try simp only [zs,zq,reduceCtorEq] at h);try exact zx)))|refine da 101 ?_|fail)
    refine Zg (i+1,v',c',G2) uS ?_ ⟨hit,by simp only [t1];exact hv',by simp only [t2];exact hW2⟩ (by simp only;omega)
    simp only [t2]
    exact uL
  ·obtain rfl:i=l.length:=by omega
   rw [List.take_length] at *
   repeat' (first|refine uN ?_|refine Zu S ?_|(refine uB ?_;intro b)|refine dg S 100 (fun _ _=>?_)|(refine uP ?_ ?_<;>(intro h;((try simp only [zs,zq,reduceCtorEq] at h);try exact zx)))|refine da 101 ?_|fail)
   exact W9 (L':=c::L) uL ⟨c,_,rfl,hu,rfl⟩
end Go.HL
end

/-! HLOpen -/
section
namespace Go.HL
open Go Go.ChangeShapes Go.WideShapes Go.ChangeAt Go.RowKit

def kFs (P:Program) (g:Nat→Option (List Nat)):List Field→Nat→Option (List Nat)
 | [],_=>some []
 | f::r,off=>match g f.type with
  | some l=>if f.offset=off∧P.cellsOf f.type=l.length then (match kFs P g r (off+l.length) with
   | some m=>some (l++m)
   | none=>none) else none
  | none=>none
def kT (P:Program):Nat→Nat→Option (List Nat)
 | 0,_=>none
 | d+1,t=>match P.underlying t with
  | some .bool=>some [8]
  | some (.int k)=>some [Zc0 k]
  | some .string=>some [9]
  | some (.struct fs)=>(match kFs P (kT P d) fs.toList 0 with
   | some l=>if P.cellsOf t=l.length then some l else none
   | none=>none)
  | _=>none
def fitV:Nat→Value→Prop
 | 8,.bool _=>True
 | 9,.string s=>s.size≤9223372036854775807
 | k,.int k' n=>Zc0 k'=k∧loE k'≤n∧n≤Zck k'
 | _,_=>False
def FitK:List Nat→List Value→Prop
 | [],[]=>True
 | k::l,v::cs=>fitV k v∧FitK l cs
 | _,_=>False
theorem FitK.append : ∀ {a b:List Nat} {cs:List Value},FitK a (cs.take a.length)→FitK b (cs.drop a.length)→FitK (a++b) cs
 | [],b,cs,_,h=>by simpa using h
 | k::a,b,[],h,_=>by simp [FitK] at h
 | k::a,b,v::cs,h,h2=>⟨h.1,FitK.append h.2 (by simpa using h2)⟩
theorem lit_wf {k:IntKind} {n:Int} (h:(Lit.int k n).wf=true):loE k≤n∧n≤Zck k:=by
 cases k<;>simpa [Lit.wf,IntKind.min,IntKind.max,IntKind.signed,IntKind.bits,loE,Zck] using h
theorem Zwv {H:Type} {enc:TypeId × Value→H} {P:Program} {W:World} {base:Nat} {spare:Nat→Bool} {held:Bool} : ∀ (d t:Nat) (l:List Nat) (n:Nat) (cs:List Value) (x:DataW H × List MemPlace),kT P d t=some l→DataW.trod enc P W base spare held n t cs=some x→FitK l cs
 | 0,t,l,n,cs,x,h,_=>by simp [kT] at h
 | d + 1, t,l,n,cs,x,h,hx=>by
  unfold kT at h
  split at h
  ·rename_i hu
   cases h
   obtain ⟨b,rfl,-⟩:=DataW.trod_bool hu hx
   simp [FitK,fitV]
  ·rename_i k hu
   cases h
   obtain ⟨z,rfl,-,hw⟩:=DataW.trod_int hu hx
   have:=lit_wf hw
   refine ⟨?_,trivial⟩
   cases k<;>simp [fitV,Zc0,loE,Zck] at this ⊢ <;> exact this
  ·rename_i hu
   cases h
   obtain ⟨s,rfl,-,hs⟩:=DataW.trod_string hu hx
   exact ⟨Nat.le_trans hs (by decide),trivial⟩
  ·rename_i fs hu
   split at h
   ·rename_i l' hl
    split at h
    ·rename_i hc
     cases h
     obtain ⟨xs,m,-,-,hlen,hxl,hf⟩:=DataW.trod_struct hu hx
     rw [hc] at hlen
     have key : ∀ (fl:List Field) (j off:Nat) (l2:List Nat),(∀ i f,fl[i]? = some f→fs[j+i]? = some f)→kFs P (kT P d) fl off=some l2→off+l2.length=cs.length→FitK l2 (cs.drop off):=by
      intro fl
      induction fl with
      | nil =>
       intro j off l2 _ h2 ho
       simp [kFs] at h2
       subst h2
       simp at ho
       rw [List.drop_of_length_le (by omega)]
       trivial
      | cons f fl ih =>
       intro j off l2 hi h2 ho
       simp only [kFs] at h2
       split at h2
       ·rename_i lf hlf
        split at h2
        ·rename_i hco
         split at h2
         ·rename_i lr hlr
          cases h2
          obtain ⟨e1,e2⟩:=hco
          have h0:=hi 0 f rfl
          have hxs : ∃ y,xs[j]? = some y:=by
           have:j<fs.size:=(Array.getElem?_eq_some_iff.1 (by simpa using h0)).1
           exact ⟨_,List.getElem?_eq_getElem (by omega)⟩
          obtain ⟨y,hy⟩:=hxs
          have h3:=hf j f (by simpa using h0)
          rw [hy,e2] at h3
          subst e1
          have h4:=Zwv d f.type lf m _ _ hlf h3
          refine FitK.append (by simpa using h4) ?_
          rw [List.drop_drop]
          exact ih (j+1) _ lr (fun i g hg=>by have:=hi (i+1) g (by simpa using hg);rwa [show j+1+i=j+(i+1) by omega]) hlr (by simp at ho;omega)
         ·cases h2
        ·cases h2
       ·cases h2
     have:=key fs.toList 0 0 l (fun i f hif=>by simpa using hif) hl (by omega)
     simpa using this
    ·cases h
   ·cases h
  ·cases h
theorem Zyj (k:IntKind):Zc0 k<8:=by cases k<;>decide
theorem fitT {l:List Nat} {cs:List Value} (h:FitK (9::l) cs) : ∃ s r,cs=bs s::r∧s.length≤9223372036854775807∧FitK l r:=by
 match cs with
 | []=>simp [FitK] at h
 | v::r =>
  obtain ⟨h1,h2⟩:=h
  cases v<;>simp [fitV] at h1
  ·rename_i k n;have:=Zyj k;omega
  rename_i s
  obtain ⟨⟨s⟩⟩:=s
  exact ⟨s,r,rfl,by simpa [ByteArray.size] using h1,h2⟩
theorem fit0 {cs:List Value} (h:FitK [] cs):cs=[]:=by
 match cs with
 | []=>rfl
 | v::r=>simp [FitK] at h
end Go.HL
end

/-! CdFr -/
section
namespace Go.HL
open Go Go.Proofs Go.ChangeShapes Go.WideShapes Go.ChangeAt Go.RowKit
def okI (z:Int):Prop := -9223372036854775808≤z∧z≤9223372036854775807
theorem open_ic {H:Type} {enc:TypeId × Value→H} {W:World} {base:Nat} {spare:Nat→Bool} {held:Bool} (n:Nat) (cs:List Value) (x:DataW H × List MemPlace) (h:DataW.trod enc Tryz.prog W base spare held n 3 cs=some x) :
  ∃ z:Int,cs=ic z∧okI z:=by
 obtain ⟨z,e,-,hw⟩:=DataW.trod_int Tryz.underlying3 h
 exact ⟨z,e,by simpa [okI,Lit.wf,IntKind.min,IntKind.max,IntKind.signed,IntKind.bits] using hw⟩
end Go.HL
end

/-! LayC -/
section
namespace Go.HL
open Go Go.Proofs Go.ChangeShapes Go.WideShapes Go.ChangeAt Go.RowKit
def Zos (n:String) (l:List (String × DataW Unit)):List (String × DataW Unit):=l.filter fun x=>x.1 == n
def errL (l:List (String × DataW Unit)):List (String × DataW Unit):=l.filter fun x=>(Zhu [1,2,3,4,5,6,7,8,9]).any fun y=>y.1 == x.1
theorem Zt5 {W:World} {g:Nat} {v:Value} (h:W.cell? ⟨g,0,none⟩=some v):Gl [Qn W] g v:=by
 unfold World.cell? at h
 simp only at h
 split at h
 ·rename_i c E fr hh
  obtain ⟨c⟩:=c
  exact ⟨c,E,fr,Zag hh,by simpa using h⟩
 ·cases h
theorem Zsq {W:World} {n:String} {text:List UInt8} {g:Nat} (h:laidMet Tryz.prog [(n,.iface "*errors.errorString" (.ptr (.agg [.lit (.string text)])))] W) (hg:Tryz.prog.globalNamed n=some g) (ht:(Tryz.prog.globals[g]?).map (·.type)=some 36) : ∃ t v,Gl [Qn W] g (.iface t v):=by
 obtain ⟨a,c,t,h1,-⟩:=Zju h hg ht
 exact ⟨_,_,h1⟩
theorem sz_of {W:World} {l:List (String × DataW Unit)} {t1 t2:List UInt8} (h:laidMet Tryz.prog l W) (hsh:W.ShapedOpen Tryz.prog)
  (e1:Zos "internal/strconv.uint64pow10" l=[("internal/strconv.uint64pow10",Lib.tabData .u64 Lib.pow10Tab)])
  (e2:Zos "strconv.ErrRange" l=[("strconv.ErrRange",.iface "*errors.errorString" (.ptr (.agg [.lit (.string t1)])))])
  (e3:Zos "strconv.ErrSyntax" l=[("strconv.ErrSyntax",.iface "*errors.errorString" (.ptr (.agg [.lit (.string t2)])))]):Sz [Qn W]:=by
 have h1:=h.filter fun x=>x.1 == "internal/strconv.uint64pow10"
 have h2:=h.filter fun x=>x.1 == "strconv.ErrRange"
 have h3:=h.filter fun x=>x.1 == "strconv.ErrSyntax"
 unfold Zos at e1 e2 e3
 rw [e1] at h1
 rw [e2] at h2
 rw [e3] at h3
 refine ⟨?_,?_,?_,?_⟩
 ·obtain ⟨m,hm⟩:=cell_of_shapedOpen_int (P:=Tryz.prog) (g:=8) (zero := #[.int .i64 0]) (t:=3) hsh (of_decide_eq_true (by kernel_rfl)) (by kernel_rfl) rfl (by kernel_rfl) (by kernel_rfl) Tryz.underlying3
  exact ⟨m,Zt5 hm⟩
 ·have hg:Tryz.prog.globalNamed "internal/strconv.uint64pow10" = some 14:=by kernel_rfl
  have ht:=Lib.tabIs_of_head (t:=303) (e:=199) (n:=20) hg (by kernel_rfl) Tryz.underlying303 Tryz.underlying199 (by kernel_rfl) (by kernel_rfl) h1
  unfold Lib.TabIs World.var? at ht
  rw [hg] at ht
  simp only [Option.bind_some] at ht
  split at ht
  ·rename_i c E fr hh
   have e:=Option.some.inj ht
   subst e
   exact ⟨E,fr,Zag hh⟩
  ·cases ht
 ·exact Zsq h3 (by kernel_rfl) (by kernel_rfl)
 ·exact Zsq h2 (by kernel_rfl) (by kernel_rfl)
theorem est_of {W:World} (hs:laidMet Tryz.prog (Zhu [1,2,3,4,5,6,8,9]) W) (hh:handlesMet Tryz.prog handL W) : ∃ E,Es 307 E [Qn W]∧Et E [Qn W]:=by
 obtain ⟨E,hG,hE⟩:=errs_of hs
 have hmem : ∀ c,List.elem c all8=true→c∈[1,2,3,4,5,6,8,9]:=fun c hc=>List.elem_iff.1 hc
 refine ⟨E,⟨rfl,hG,Zx5 hh⟩,fun c hc=>?_⟩
 obtain ⟨-,h1,-⟩:=hE c (hmem c hc)
 generalize E c=a at *
 obtain ⟨b,i,sp⟩:=a
 unfold World.cell? at h1
 simp only at h1
 split at h1
 ·rename_i cs T fr hh
  split at h1
  ·cases h1
  ·rename_i hsp
   cases sp with
   | some x=>simp at hsp
   | none =>
    obtain ⟨cs⟩:=cs
    exact ⟨b,i,cs,T,fr,rfl,Zag hh,by simpa using h1⟩
 ·cases h1
theorem open_sb {H:Type} {enc:TypeId × Value→H} {W:World} {base:Nat} {spare:Nat→Bool} {held:Bool} (n:Nat) (cs:List Value) (x:DataW H × List MemPlace) (h:DataW.trod enc Tryz.prog W base spare held n 9 cs=some x) : ∃ s:List UInt8,cs=Zab s∧s.length≤9223372036854775807:=by
 have h0:=Zwv 2 9 [9] n cs x (by kernel_rfl) h
 obtain ⟨s,r,rfl,hs,h1⟩:=fitT h0
 obtain rfl:=fit0 h1
 exact ⟨s,rfl,hs⟩
noncomputable def layS (os:Os) (l:List (String × DataW Unit)):World:=(w0H os).layVars Tryz.prog l
theorem layS_os (os:Os) (l:List (String × DataW Unit)):(layS os l).os=os:=World.layVars_os _ _ _
end Go.HL
end

/-! ScI -/
section
namespace Go.HL
open Go Go.Proofs
set_option maxHeartbeats 2000000 attribute [local irreducible] HW HO HQ HD HC QOp Has Upd Zt Gets Z8 Z0 Zo Xm Zz Zj Xp Zy
theorem Zch (a a2:Option Addr) (cap cap2:Nat) (xs ys:List (List UInt8)) (L:Zb) (hR:Rd Zab 1 L a xs) (hR2:Rd Zab 1 L a2 ys) (hl:xs.length≤1000000) :
  HC Tryz.prog 12 [.slice a xs.length cap,.slice a2 ys.length cap2] L (fun v L'=>v = .bool (decide (xs=ys))∧L'=L):=by
 refine Za (fun _ _=>Tryz.call12 _ _) Tryz.func12 rfl Tryz.ntmps12 (Nat.le_of_ble_eq_true rfl) ?_;simp only [Zd,Nat.reduceAdd]
 repeat' (first|refine uN ?_|refine Z2 S ?_|(refine uP ?_ ?_<;>(intro h;((try simp only [zs,zq,reduceCtorEq] at h);try exact zx)))|fail)
 ·exact Z9 (LS.refl _) ⟨by rw [decide_eq_false];intro e;subst e;exact absurd rfl ‹_›,rfl⟩
 refine Zp (σ:=Nat) (fun i=>[(0,.slice a xs.length cap),(1,.slice a2 ys.length cap2),(5,iv i)]) (fun _=>L) (fun i=>i≤xs.length∧xs.take i=ys.take i) (fun i=>xs.length-i) 0 uS (List.Sublist.refl _) ⟨by omega,by simp⟩ ?_
 rintro i ⟨h1,h2⟩
 by_cases hlt:i<xs.length
 ·obtain ⟨b,ia,l,E,fr,rfl,hb,hg⟩:=hR.at1 (j:=(i:Int)) (by omega) (by omega)
  obtain ⟨b2,ia2,l2,E2,fr2,rfl,hb2,hg2⟩:=hR2.at1 (j:=(i:Int)) (by omega) (by omega)
  repeat' (first|refine uN ?_|refine Z2 S ?_|(refine uP ?_ ?_<;>(intro h;((try simp only [zs,zq,reduceCtorEq] at h);try exact zx)))|fail)
  ·refine Z9 (LS.refl _) ⟨?_,rfl⟩
   rw [decide_eq_false]
   intro e
   subst e
   exact h rfl
  ·refine Zq (i+1) uS (List.Sublist.refl _) ⟨by omega,?_⟩ (by omega)
   rw [Zpl hlt (by omega)]
   exact ⟨h2,by simpa using h⟩
 ·repeat' (first|refine uN ?_|refine Z2 S ?_|(refine uP ?_ ?_<;>(intro h;((try simp only [zs,zq,reduceCtorEq] at h);try exact zx)))|fail)
  refine Z9 (LS.refl _) ⟨?_,rfl⟩
  rw [decide_eq_true]
  have e1:xs.take i=xs:=List.take_of_length_le (by omega)
  have e2:ys.take i=ys:=List.take_of_length_le (by omega)
  rw [← e1,h2,e2]
def helloL:List (List UInt8):=[[115,105,116,101,115,32,49,32,49],[98,101,103,105,110,32,48,32,51],[97,108,108],[115,116,97,116,101,32,49,32,51],[101,118,101,110,116,115]]
def Zua:List (List UInt8):=[[111,107],[111,107],[49,48],[99,111,109,109,105,116,116,101,100,32,48,32,48],[48,32,51,32,99,111,109,109,105,116,116,101,100,44,32,49,32,51,32,99,111,109,109,105,116,116,101,100]]
theorem Zx9:Zan none helloL=Zua:=by kernel_rfl
theorem Zr9 {L:Zb} {b:Nat} {l:List (List UInt8)} {c:List Value} {F:Nat} {fr:Nat × Nat} (hb:Has L b (.cells ⟨c⟩ F fr)) (hc:c=(l.map Zab).flatten):Rd Zab 1 L (some ⟨b,0,none⟩) l := .inr ⟨b,0,c,F,fr,rfl,hb,fun k x hk=>by
 subst hc
 have:=Wx (enc:=Zab) Xo l [] [] k x hk
 simpa using this⟩
theorem Zq4 (T:Nat) (E:Nat→Addr) (L:Zb) (hE:Es T E L) (hS:Sz L) (hX:Et E L):HC Tryz.prog 4 [] L (fun v L'=>v = .bool true∧L'=L):=by
 have kr:=fun b (q:List Value) F (hq:q=(helloL.map Zab).flatten)=>Zkv T E (some ⟨b,0,none⟩) 5 helloL ([(b,.cells ⟨q⟩ F)]::L) (hE.cons _) (hS.cons _) (hX.cons _) (Zr9 Zh hq) (by decide) (by decide) (by decide)
 simp only [if_neg (show ¬ 100<helloL.length by decide),Zx9] at kr
 refine Za (fun _ _=>Tryz.call4 _ _) Tryz.func4 rfl Tryz.ntmps4 (Nat.le_of_ble_eq_true rfl) ?_;simp only [Zd,Nat.reduceAdd]
 repeat' (first|refine uN ?_|(refine uB ?_;intro b)|(refine uP ?_ ?_<;>(intro h;((try simp only [zs,zq,reduceCtorEq] at h);try exact zx)))|fail)
 refine gc (kr _ _ _ rfl) ?_
 rintro v L' ⟨c,u,rfl,hu,rfl⟩
 obtain ⟨a1,cap1,rfl,-,hR1⟩:=hu.rd Xo
 repeat' (first|refine uN ?_|(refine uB ?_;intro b)|(refine uP ?_ ?_<;>(intro h;((try simp only [zs,zq,reduceCtorEq] at h);try exact zx)))|fail)
 have ks:=fun L hR hR2=>Zch a1 (some ⟨b,0,none⟩) cap1 5 Zua Zua L hR hR2 (by decide)
 refine gc (ks _ ((hR1 _).cons _) (Zr9 Zh rfl)) ?_
 rintro v L' ⟨rfl,rfl⟩
 repeat' (first|refine uN ?_|(refine uB ?_;intro b)|(refine uP ?_ ?_<;>(intro h;((try simp only [zs,zq,reduceCtorEq] at h);try exact zx)))|fail)
 exact Z9 (L':=L) uL ⟨by first|rfl|simp,rfl⟩
end Go.HL
end

/-! ScJ -/
section
namespace Go.HL
open Go Go.Proofs
def LsN (m:Nd):Prop := ∀ y,some y∈m.leads→y.state≠[]
def LsW (M:Wm):Prop := ∀ m∈M.n,LsN m
theorem LsN.none {m:Nd} (h:m.leads=noLeads):LsN m:=fun y hy=>by
 rw [h] at hy
 simp [noLeads] at hy
theorem LsN.lead {m:Nd} (h:LsN m) {d:Nat} {x:Ld} (hx:x.state≠[]) {m':Nd} (hm:m'.leads=m.leads.set d (some x)):LsN m':=fun y hy=>by
 rw [hm] at hy
 rcases List.mem_or_eq_of_mem_set hy with h2|h2
 ·exact h y h2
 ·cases h2;exact hx
theorem LsN.same {m m':Nd} (h:LsN m) (hm:m'.leads=m.leads):LsN m':=fun y hy=>h y (hm▸hy)
theorem LsW.at {M:Wm} (h:LsW M) (s:Int):LsN (Zf M s):=by
 unfold Zf
 rw [List.getD_eq_getElem?_getD]
 cases hg:M.n[s.toNat]? with
 | none=>exact fun y hy=>by simp at hy
 | some m=>exact h m (List.mem_of_getElem? hg)
theorem LsW.set {M:Wm} (h:LsW M) (s:Int) {m:Nd} (hm:LsN m):LsW (Y0 M s m):=fun x hx=>by
 rcases List.mem_or_eq_of_mem_set hx with h2|h2
 ·exact h x h2
 ·rw [h2];exact hm
theorem LsW.n {M M':Wm} (h:LsW M) (hn:M'.n=M.n):LsW M':=fun x hx=>h x (hn▸hx)
theorem LsW.hear {M:Wm} (h:LsW M) (s:Int) (f:Fr):LsW (Yt M s f).1:=by
 unfold Yt
 refine (h.set s (m:=(Y7 s (Zf M s) M.ev f).1) ?_).n rfl
 unfold Y7
 split
 ·exact h.at s
 ·split
  ·exact LsN.none rfl
  ·exact (h.at s).same rfl
def X9 (w:List UInt8):List UInt8 × Bool:=if w=Xu then ([43],true) else match V7 w cmdT 0 with
 | some k=>(Y9 k,true)
 | none=>([],false)
end Go.HL
end

/-! ScK -/
section
namespace Go.HL
open Go Go.Proofs
set_option maxHeartbeats 2000000 attribute [local irreducible] HW HO HQ HD HC QOp Has Upd Zt Gets Z8 Z0 Zo Xm Zz Zj Xp Zy
set_option maxRecDepth 20000 in
theorem Zoa (w:List UInt8) (L:Zb):HC Tryz.prog 13 [bs w] L (fun v L'=>v = .tuple ⟨[bs (X9 w).1,.bool (X9 w).2]⟩∧L'=L):=by
 refine Za (fun _ _=>Tryz.call13 _ _) Tryz.func13 rfl Tryz.ntmps13 (Nat.le_of_ble_eq_true rfl) ?_;simp only [Zd,Nat.reduceAdd]
 repeat' (first|refine uN ?_|(refine uP ?_ ?_<;>(intro h;((try simp only [zs,zq,reduceCtorEq] at h);try exact zx)))|fail)
 all_goals first
  | (subst_vars;exact Zeb rfl ⟨rfl,rfl⟩)
  | (rw [show X9 w=([],false) by simp [X9,V7,cmdT,actTab,lookTab,Xu, *]];exact Zeb rfl ⟨rfl,rfl⟩)
theorem Vc (c:Int) (L:Zb) (h1:1≤c) (h9:c≤9):HC Tryz.prog 9 [iv c] L (fun v L'=>v=bs (W2 c.toNat)∧L'=L):=by
 rcases (show c=1∨c=2∨c=3∨c=4∨c=5∨c=6∨c=7∨c=8∨c=9 by omega) with rfl|rfl|rfl|rfl|rfl|rfl|rfl|rfl|rfl
 all_goals
  refine Za (fun _ _=>Tryz.call9 _ _) Tryz.func9 rfl Tryz.ntmps9 (Nat.le_of_ble_eq_true rfl) ?_;simp only [Zd,Nat.reduceAdd]
  repeat' (first|refine uN ?_|(refine uB ?_;intro b)|fail)
 all_goals exact Z9 (L':=L) (LS.c (LS.refl _)) ⟨rfl,rfl⟩
theorem u32 {c:UInt8} (h:(c.toNat:Int)=32):c=32:=by
 have:c.toNat=(32:UInt8).toNat:=by rw [show (32:UInt8).toNat=32 from rfl];omega
 exact UInt8.toNat_inj.1 this
attribute [local irreducible] Q6 V0 Zan W2 X9
end Go.HL
end

/-! WrA -/
section
namespace Go.HL
open Go Go.Proofs
def lowB (n:Int):List UInt8:=[bt n 0,bt n 1,bt n 2,bt n 3]
theorem u8_bt (n:Int) (k:Nat):u8 (bt n k) = .int .u8 (n / 2 ^ (8*k) % 256):=by
 unfold u8
 rw [Ztt]
theorem u8_bt0 (n:Int):u8 (bt n 0) = .int .u8 (n % 256):=by
 rw [u8_bt];simp
theorem bt_div (n:Int) (k:Nat):bt (n / 256 ^ k) 0=bt n k:=by
 unfold bt
 congr 2
 simp only [Nat.mul_zero,Int.pow_zero,Int.ediv_one]
 rw [show (256:Int)=2 ^ 8 from rfl,← Int.pow_mul]
theorem bt_mod (n:Int):bt (n % 256) 0=bt n 0:=by
 unfold bt
 simp
def rc (c b k:Nat):Nat:=Zep k (c ^^^ b) ^^^ (b / 2 ^ k)
theorem rc_0 (c b:Nat):rc c b 0=c:=by simp [rc,Zep,Nat.xor_assoc]
theorem rc_8 {c b:Nat} (h:b<256):rc c b 8=Zep 8 (c ^^^ b):=by
 unfold rc
 rw [show b / 2 ^ 8=0 from Nat.div_eq_of_lt h,Nat.xor_zero]
theorem rc_bit (c b k:Nat):(rc c b k ^^^ (b / 2 ^ k)) % 2=Zep k (c ^^^ b) % 2:=by
 unfold rc
 rw [Nat.xor_assoc,Nat.xor_self,Nat.xor_zero]
theorem xor_half (a b:Nat):(a ^^^ b) / 2=a / 2 ^^^ b / 2:=by
 have:=Nat.shiftRight_xor_distrib (a:=a) (b:=b) (i:=1)
 simpa [Nat.shiftRight_eq_div_pow] using this
theorem rc_succ (c b k:Nat):rc c b (k+1)=if Zep k (c ^^^ b) % 2=1 then rc c b k / 2 ^^^ 3988292384 else rc c b k / 2:=by
 unfold rc
 rw [Zl9,xor_half]
 have e:b / 2 ^ (k+1)=b / 2 ^ k / 2:=by rw [Nat.pow_succ,← Nat.div_div_eq_div_mul]
 rw [e]
 unfold Ztw
 split
 ·rename_i h
  rw [h,Nat.mul_one,Nat.xor_assoc,Nat.xor_assoc,Nat.xor_comm 3988292384]
 ·rename_i h
  have h0:Zep k (c ^^^ b) % 2=0:=by omega
  rw [h0,Nat.mul_zero,Nat.xor_zero]
theorem rc_lt {c b k:Nat} (hc:c<4294967296) (hb:b<256):rc c b k<4294967296:=by
 unfold rc
 refine Nat.xor_lt_two_pow (n:=32) (Zn4 (Nat.xor_lt_two_pow (n:=32) hc (by omega))) ?_
 exact Nat.lt_of_le_of_lt (Nat.div_le_self _ _) (by omega)
theorem xor_ones {x:Nat} (h:x<4294967296):x ^^^ 4294967295=4294967295-x:=by
 have h1:((BitVec.allOnes 32) ^^^ BitVec.ofNat 32 x).toNat=(~~~ BitVec.ofNat 32 x).toNat:=by rw [BitVec.allOnes_xor]
 rw [BitVec.toNat_xor,BitVec.toNat_not,BitVec.toNat_allOnes,BitVec.toNat_ofNat,Nat.mod_eq_of_lt h] at h1
 rw [Nat.xor_comm]
 simpa using h1
set_option maxHeartbeats 2000000 attribute [local irreducible] HW HO HQ HD HC QOp Has Upd Zt Gets Z8 Z0 Zo Xm Zz Zj Xp Zy
theorem Qt (n:Int) (L:Zb):HC Tryz.prog 59 [iv n] L (fun v L'=>v=bs [bt n 0]∧L'=L):=by
 have e:([Value.int .u8 (n % 256)]:List Value)=[bt n 0].map u8:=by simp [u8_bt0]
 refine Za (fun _ _=>Tryz.call59 _ _) Tryz.func59 rfl Tryz.ntmps59 (Nat.le_of_ble_eq_true rfl) ?_;simp only [Zd,Nat.reduceAdd]
 repeat' (first|refine uN ?_|(refine uB ?_;intro b)|fail)
 rw [e]
 refine Wq (qtx S (Zkl _ _ _ _) rfl) ?_
 repeat' (first|refine uN ?_|(refine uB ?_;intro b)|fail)
 exact Z9 uZ ⟨rfl,rfl⟩
theorem Qw (n:Int) (many:Nat) (L:Zb) (h0:0≤n) (h1:n≤9223372036854775807) (hm:many≤8):HC Tryz.prog 173 [iv n,iv many] L (fun v L'=>v=bs (Xn n many)∧L'=L):=by
 refine Za (fun _ _=>Tryz.call173 _ _) Tryz.func173 rfl Tryz.ntmps173 (Nat.le_of_ble_eq_true rfl) ?_;simp only [Zd,Nat.reduceAdd]
 repeat' (first|refine uN ?_|(refine uP ?_ ?_<;>(intro h;((try simp only [zs,zq,reduceCtorEq] at h);try exact zx)))|fail)
 refine Zp (σ:=Nat) (fun i=>[(0,iv (n / 256 ^ i)),(1,iv many),(5,bs (Xn n i)),(6,iv i)]) (fun _=>L) (fun i=>i≤many) (fun i=>many-i) 0 ?_ (List.Sublist.refl _) (by omega) ?_
 ·simp only [Int.pow_zero,Int.ediv_one]
  exact uS
 intro i hi
 by_cases hlt:i<many
 ·have hq:0≤n / 256 ^ i∧n / 256 ^ i≤9223372036854775807:=⟨Int.ediv_nonneg h0 (Int.pow_nonneg (by decide)),Int.le_trans (Int.ediv_le_self _ h0) h1⟩
  have kb:=fun L=>Qt (n / 256 ^ i % 256) L
  rw [bt_mod,bt_div] at kb
  have hl:([bt n i].length+(Xn n i).length)≤9223372036854775807:=by simp [Y6];omega
  have e:n / 256 ^ i / 256=n / 256 ^ (i+1):=by rw [Int.pow_succ,Int.ediv_ediv_of_nonneg (Int.pow_nonneg (by decide))]
  repeat' (first|refine uN ?_|refine uC (kb _) ?_|(refine uP ?_ ?_<;>(intro h;((try simp only [zs,zq,reduceCtorEq] at h);try exact zx)))|fail)
  rw [e]
  exact Zg (i+1) uS uL (by omega) (by omega)
 ·have hi2:i=many:=by omega
  subst hi2
  repeat' (first|refine uN ?_|(refine uP ?_ ?_<;>(intro h;((try simp only [zs,zq,reduceCtorEq] at h);try exact zx)))|fail)
  exact Z9 uZ ⟨rfl,rfl⟩
theorem Zu5 (s:List UInt8) (L:Zb) (hs:s.length≤1000000):HC Tryz.prog 174 [bs s] L (fun v L'=>v=iv (Zpw s)∧L'=L):=by
 refine Za (fun _ _=>Tryz.call174 _ _) Tryz.func174 rfl Tryz.ntmps174 (Nat.le_of_ble_eq_true rfl) ?_;simp only [Zd,Nat.reduceAdd]
 repeat' (first|refine uN ?_|(refine uP ?_ ?_<;>(intro h;((try simp only [zs,zq,reduceCtorEq] at h);try exact zx)))|fail)
 refine Zp (σ:=Nat) (fun i=>[(0,bs s),(3,iv (Ug (s.take i))),(4,iv i)]) (fun _=>L) (fun i=>i≤s.length) (fun i=>s.length-i) 0 uS (List.Sublist.refl _) (by omega) ?_
 intro i hi
 have hc:=Zv8 (s.take i)
 by_cases hlt:i<s.length
 ·repeat' (first|refine uN ?_|(refine uP ?_ ?_<;>(intro h;((try simp only [zs,zq,reduceCtorEq] at h);try exact zx)))|fail)
  have hb:(s.getD i 0).toNat<256:=(s.getD i 0).toNat_lt
  have e0:(Ug (s.take i):Int)=((rc (Ug (s.take i)) (s.getD i 0).toNat 0:Nat):Int):=by rw [rc_0]
  rw [e0]
  refine Zp (σ:=Nat) (fun k=>[(0,bs s),(3,iv (rc (Ug (s.take i)) (s.getD i 0).toNat k)),(4,iv i),(5,iv k)]) (fun _=>L) (fun k=>k≤8) (fun k=>8-k) 0 uS (List.Sublist.refl _) (by omega) ?_
  intro k hk
  by_cases hk8:k<8
  ·have hr:=rc_lt (k:=k) hc hb
   have hsu:=rc_succ (Ug (s.take i)) (s.getD i 0).toNat k
   have hbit:=rc_bit (Ug (s.take i)) (s.getD i 0).toNat k
   have hb2:=(s.getD (i:Int).toNat 0).toNat_lt
   have hbk:(s.getD i 0).toNat / 2 ^ k<256:=Nat.lt_of_le_of_lt (Nat.div_le_self _ _) hb
   have eB:(((s.getD (i:Int).toNat 0).toNat:Nat):Int) / 2 ^ (k:Int).toNat=(((s.getD i 0).toNat / 2 ^ k:Nat):Int):=by simp
   have hxl:rc (Ug (s.take i)) (s.getD i 0).toNat k ^^^ ((s.getD i 0).toNat / 2 ^ k)<4294967296:=Nat.xor_lt_two_pow (n:=32) hr (by omega)
   have hx1:rc (Ug (s.take i)) (s.getD i 0).toNat k / 2 ^^^ 3988292384<4294967296:=Nat.xor_lt_two_pow (n:=32) (by omega) (by decide)
   repeat' (first|refine uN ?_|(refine uP ?_ ?_<;>(intro h;((try simp only [zs,zq,reduceCtorEq] at h);try exact zx)))|fail)
   rw [eB]
   generalize hr1:rc (Ug (s.take i)) (s.getD i 0).toNat (k+1)=r1 at hsu
   generalize rc (Ug (s.take i)) (s.getD i 0).toNat k=r0 at *
   generalize (s.getD i 0).toNat / 2 ^ k=bk at *
   generalize Zep k (Ug (s.take i) ^^^ (s.getD i 0).toNat)=cN at *
   have hxt:(((r0:Nat):Int).toNat ^^^ ((bk:Nat):Int).toNat)=r0 ^^^ bk:=by simp
   have hxt2:(((r0:Nat):Int) / 2).toNat ^^^ Int.toNat 3988292384=r0 / 2 ^^^ 3988292384:=by
    rw [show (((r0:Nat):Int) / 2).toNat=r0 / 2 by omega]
    rfl
   rw [← hxt] at hxl hbit
   rw [← hxt2] at hx1
   repeat' (first|refine uN ?_|(refine uP ?_ ?_<;>(intro h;((try simp only [zs,zq,reduceCtorEq] at h);try exact zx)))|fail)
   ·rw [if_pos (by omega)] at hsu
    rw [hxt2,← hsu,← hr1]
    exact Zg (k+1) uS uL (by omega) (by omega)
   ·rw [if_neg (by omega)] at hsu
    have e9:((r0:Nat):Int) / 2=((r1:Nat):Int):=by omega
    rw [e9,← hr1]
    exact Zg (k+1) uS uL (by omega) (by omega)
  ·have hk2:k=8:=by omega
   subst hk2
   repeat' (first|refine uN ?_|(refine uP ?_ ?_<;>(intro h;((try simp only [zs,zq,reduceCtorEq] at h);try exact zx)))|fail)
   rw [rc_8 hb]
   have e:Ug (s.take (i+1))=Zep 8 (Ug (s.take i) ^^^ (s.getD i 0).toNat):=by
    rw [List.take_succ_eq_append_getElem hlt]
    rw [show ∀ l b,Ug (l++[b])=Ztx (Ug l) b from fun l b=>by simp [Ug]]
    simp [Ztx,List.getD,hlt]
   rw [← e]
   exact Zg (i+1) uS uL (by omega) (by omega)
 ·have hi2:i=s.length:=by omega
  subst hi2
  repeat' (first|refine uN ?_|(refine uP ?_ ?_<;>(intro h;((try simp only [zs,zq,reduceCtorEq] at h);try exact zx)))|fail)
  refine Z9 uZ ⟨congrArg iv ?_,rfl⟩
  rw [List.take_length] at hc ⊢
  have:=xor_ones hc
  unfold Zpw
  simp only [Int.toNat_natCast]
  rw [show Int.toNat 4294967295=4294967295 from rfl,this]
end Go.HL
end

/-! ScL -/
section
namespace Go.HL
open Go Go.Proofs
theorem Zjb (u:Nat):Lib.decDigits u=if u<10 then [UInt8.ofNat (48+u)] else Lib.decDigits (u / 10)++[UInt8.ofNat (48+u % 10)]:=by
 rw [Lib.decDigits]
 split<;>rfl
theorem bt_dig (d:Nat) (h:d<10):bt (48 - -(d:Int)) 0=UInt8.ofNat (48+d):=by
 have e:(48 - -(d:Int))=((48+d:Nat):Int):=by omega
 rw [e]
 rcases (show d=0∨d=1∨d=2∨d=3∨d=4∨d=5∨d=6∨d=7∨d=8∨d=9 by omega) with rfl|rfl|rfl|rfl|rfl|rfl|rfl|rfl|rfl|rfl<;>rfl
set_option maxHeartbeats 2000000 attribute [local irreducible] HW HO HQ HD HC QOp Has Upd Zt Gets Z8 Z0 Zo Xm Zz Zj Xp Zy
theorem Zg6 : ∀ (N u:Nat),u<N→u≤9223372036854775807 → ∀ L,HC Tryz.prog 32 [iv (-(u:Int))] L (fun v L'=>v=bs (Lib.decDigits u)∧L'=L)
 | 0,u,h,_,L=>by omega
 | N+1,u,h,hu,L=>by
  have kb:=fun z L=>Qt z L
  have hd:=Zjb u
  by_cases h10:u<10
  ·rw [if_pos h10] at hd
   rw [hd]
   have e:=bt_dig u h10
   refine Za (fun _ _=>Tryz.call32 _ _) Tryz.func32 rfl Tryz.ntmps32 (Nat.le_of_ble_eq_true rfl) ?_;simp only [Zd,Nat.reduceAdd]
   repeat' (first|refine uN ?_|refine uC (kb _ _) ?_|(refine uP ?_ ?_<;>(intro h;((try simp only [zs,zq,reduceCtorEq] at h);try exact zx)))|fail)
   all_goals first|(exfalso;omega)|(rw [e];exact Um rfl ⟨rfl,rfl⟩)
  ·rw [if_neg h10] at hd
   rw [hd]
   have e:=bt_dig (u % 10) (by omega)
   have hl:=Lib.decDigits_length (u / 10)
   have hl2:=Lib.nDigits_le20 (u / 10) (by omega)
   have ih:=Zg6 N (u / 10) (by omega) (by omega) L
   refine Za (fun _ _=>Tryz.call32 _ _) Tryz.func32 rfl Tryz.ntmps32 (Nat.le_of_ble_eq_true rfl) ?_;simp only [Zd,Nat.reduceAdd]
   repeat' (first|refine uN ?_|(refine uP ?_ ?_<;>(intro h;((try simp only [zs,zq,reduceCtorEq] at h);try exact zx)))|fail)
   refine Wq (qQn (m:=10) (by omega) hu) ?_
   repeat' (first|refine uN ?_|refine uC (ih) ?_|(refine uP ?_ ?_<;>(intro h;((try simp only [zs,zq,reduceCtorEq] at h);try exact zx)))|fail)
   refine Wq (qRn (m:=10) (by omega) hu) ?_
   repeat' (first|refine uN ?_|refine uC (kb _ _) ?_|(refine uP ?_ ?_<;>(intro h;((try simp only [zs,zq,reduceCtorEq] at h);try exact zx)))|fail)
   all_goals (rw [e];exact Um rfl ⟨rfl,rfl⟩)
theorem X8 (n:Int) (h0:0≤n) (h1:n≤9223372036854775807) (L:Zb):HC Tryz.prog 14 [iv n] L (fun v L'=>v=bs (Lib.itoa n)∧L'=L):=by
 obtain ⟨u,rfl⟩:=Int.eq_ofNat_of_zero_le h0
 have hb:=Zg6 (u+1) u (by omega) (by omega) L
 have e:Lib.itoa (u:Int)=Lib.decDigits u:=by unfold Lib.itoa;rw [if_neg (by omega)];simp
 rw [e]
 refine Za (fun _ _=>Tryz.call14 _ _) Tryz.func14 rfl Tryz.ntmps14 (Nat.le_of_ble_eq_true rfl) ?_;simp only [Zd,Nat.reduceAdd]
 repeat' (first|refine uN ?_|refine uC (hb) ?_|(refine uP ?_ ?_<;>(intro h;((try simp only [zs,zq,reduceCtorEq] at h);try exact zx)))|fail)
 refine Wq (qNeg (u:=u) (by omega)) ?_
 repeat' (first|refine uN ?_|refine uC (hb) ?_|(refine uP ?_ ?_<;>(intro h;((try simp only [zs,zq,reduceCtorEq] at h);try exact zx)))|fail)
 exact Um rfl ⟨rfl,rfl⟩
def Zc2 (f:List UInt8) (i:Nat):Int:=if f≠[43]∧(f.getD i 0).toNat=100 then 9 else 99999
def Zfx (f:List UInt8) (ns:List Int) (k:Nat):Prop := ∀ j,j<k→0≤ns.getD j 0∧ns.getD j 0≤Zc2 f j
def Zde (ns:List Int):List UInt8:=ns.flatMap fun n=>32::Lib.itoa n
def Zxo (w:List UInt8) (ns:List Int):Prop:=(X9 w).2=false∨((X9 w).1=[43]∧ns.length=0)∨((X9 w).1≠[43]∧ns.length≠(X9 w).1.length)
open Classical in
noncomputable def lineM (w:List UInt8) (ns:List Int):Option (List UInt8):=if Zxo w ns ∨ ¬ Zfx (X9 w).1 ns ns.length then none else some (w++Zde ns)
theorem Znk {ns:List Int} {i:Nat} (h:i<ns.length):Zde (ns.take (i+1))=Zde (ns.take i)++([32]++Lib.itoa ns[i]):=by
 unfold Zde
 rw [Ql h,List.flatMap_append]
 simp
theorem Zk4 {ns:List Int} : ∀ {k:Nat},(∀ j,j<k→0≤ns.getD j 0∧ns.getD j 0≤99999)→k≤ns.length→(Zde (ns.take k)).length≤22*k
 | 0,_,_=>by simp [Zde]
 | k+1,h,hk=>by
  have ih:=Zk4 (k:=k) (fun j hj=>h j (by omega)) (by omega)
  rw [Znk (show k<ns.length by omega)]
  have h1:=h k (by omega)
  have e:ns.getD k 0=ns[k]:=by simp [List.getD,List.getElem?_eq_getElem (show k<ns.length by omega)]
  rw [e] at h1
  have:=Lib.itoa_length_le ns[k] (by omega) (by omega)
  simp only [List.length_append,List.length_cons,List.length_nil]
  omega
theorem Zft (f:List UInt8) (i:Nat):Zc2 f i≤99999:=by unfold Zc2;split<;>omega
attribute [local irreducible] X9
set_option maxRecDepth 20000 in
theorem Zop (w : List UInt8) (a:Option Addr) (cap:Nat) (ns:List Int) (L:Zb) (hR:Rd ic 1 L a ns) (hw:w.length≤60) (hn:ns.length≤12) :
    HC Tryz.prog 5 [.agg ⟨[bs w,.slice a ns.length cap]⟩] L (fun v L'=>v = .tuple ⟨[bs ((lineM w ns).getD []),.bool (lineM w ns).isSome]⟩∧L'=L):=by
  have kf:=fun L=>Zoa w L
  by_cases hb:Zxo w ns
  · have e:lineM w ns=none:=if_pos (.inl hb)
    rw [e]
    unfold Zxo at hb
    generalize X9 w=F at *
    obtain ⟨f,is⟩:=F
    simp only at hb kf
    refine Za (fun _ _=>Tryz.call5 _ _) Tryz.func5 rfl Tryz.ntmps5 (Nat.le_of_ble_eq_true rfl) ?_;simp only [Zd,Nat.reduceAdd]
    repeat' (first|refine uN ?_|refine uC (kf _) ?_|(refine uB ?_;intro b)|(refine uP ?_ ?_<;>(intro h;((try simp only [zs,zq,reduceCtorEq] at h);try exact zx)))|fail)
    all_goals first
      | exact W9 (L':=L) (LS.c (LS.refl _)) ⟨rfl,rfl⟩
      | (exfalso;rcases hb with hb|⟨hb,hb2⟩|⟨hb,hb2⟩<;>first|contradiction|omega|(simp_all;done))
  · unfold Zxo at hb
    have hmo:=fun i=>Zft (X9 w).1 i
    have hin:(X9 w).1=[43]∨ns.length=(X9 w).1.length:=by
      by_cases h:(X9 w).1=[43]
      · exact .inl h
      · exact .inr (Classical.byContradiction fun h2=>hb (.inr (.inr ⟨h,h2⟩)))
    have his:(X9 w).2=true:=by
      cases h:(X9 w).2 with
      | true=>rfl
      | false=>exact absurd (.inl h) hb
    have hz : ¬ ((X9 w).1=[43]∧ns.length=0):=fun h=>hb (.inr (.inl h))
    have hres1:Zfx (X9 w).1 ns ns.length→lineM w ns=some (w++Zde ns):=fun h=>if_neg (fun e=>e.elim hb fun h2=>h2 h)
    have hres2 : ¬ Zfx (X9 w).1 ns ns.length→lineM w ns=none:=fun h=>if_pos (.inr h)
    have hlen:=fun (k:Nat) (hk:k≤ns.length) (ho:Zfx (X9 w).1 ns k)=>Zk4 (ns:=ns) (k:=k) (fun j hj=>by have:=ho j hj;have:=hmo j;omega) hk
    have hsn:=fun i (h:i<ns.length)=>Znk h
    clear hb
    generalize hF:X9 w=F at *
    obtain ⟨f,is⟩:=F
    simp only at hin his hz hlen hmo kf hres1 hres2 ⊢
    subst his
    by_cases hf:f=[43]
    · subst hf
      have hl0 : ¬ (ns.length:Int)=0:=by intro e;exact hz ⟨rfl,by omega⟩
      refine Za (fun _ _=>Tryz.call5 _ _) Tryz.func5 rfl Tryz.ntmps5 (Nat.le_of_ble_eq_true rfl) ?_;simp only [Zd,Nat.reduceAdd]
      repeat' (first|refine uN ?_|refine uC (kf _) ?_|(refine uB ?_;intro b)|(refine uP ?_ ?_<;>(intro h;((try simp only [zs,zq,reduceCtorEq] at h);try exact zx)))|fail)
      refine Zp (σ:=Nat × List UInt8) (fun r=>[(1,pt b 0),(4,bs [43]),(6,bs r.2),(7,iv r.1)]) (fun _=>[(b,.cells ⟨[bs w,.slice a ns.length cap]⟩ 28)]::L) (fun r=>r.1≤ns.length∧Zfx [43] ns r.1∧r.2=w++Zde (ns.take r.1)) (fun r=>ns.length-r.1) (0,w) uS (List.Sublist.refl _) ⟨by simp,fun j hj=>by simp at hj,by simp [Zde]⟩ ?_
      rintro ⟨i,tx⟩ ⟨hi,ho,htx⟩
      simp only at hi ho htx ⊢
      have hti:=hlen i hi ho
      have htl:tx.length≤60+22*i:=by rw [htx,List.length_append];omega
      by_cases hit:i<ns.length
      · obtain ⟨b2,bi,q,F2,fr,rfl,hb2,hg⟩:=hR.at1 (j:=(i:Int)) (by omega) (by omega)
        have eg:ns[(i:Int).toNat]'(by omega)=ns[i]:=rfl
        rw [eg] at hg
        have e0:ns.getD i 0=ns[i]:=by simp [List.getD,List.getElem?_eq_getElem hit]
        have es:=hsn i hit
        have hm:=hmo i
        unfold Zc2 at hm
        have hok:Zfx [43] ns (i+1)↔0≤ns[i]∧ns[i]≤Zc2 [43] i:=by
          rw [← e0]
          exact ⟨fun h=>h i (by omega),fun h j hj=>by
            rcases Nat.lt_succ_iff_lt_or_eq.1 hj with h2|rfl
            · exact ho j h2
            · exact h⟩
        have hno : ¬ Zfx [43] ns (i+1) → ¬ Zfx [43] ns ns.length:=fun h h2=>h fun j hj=>h2 j (by omega)
        generalize ns[i]=x at *
        unfold Zc2 at hok
        have hi2:((i:Nat):Int).toNat=i:=Int.toNat_natCast i
        have kd:=fun h0 h1=>X8 x h0 h1 ([(b,.cells ⟨[bs w,.slice (some ⟨b2,bi,none⟩) ns.length cap]⟩ 28)]::L)
        rw [if_neg (by simp)] at hok
        have hil:=Lib.itoa_length_le x
        repeat' (first|refine uN ?_|(refine uB ?_;intro b)|(refine uP ?_ ?_<;>(intro h;((try simp only [zs,zq,reduceCtorEq] at h);try exact zx)))|fail)
        all_goals first
          | (rw [hres2 (hno fun h=>by have:=hok.1 h;omega)];exact W9 (L':=L) (LS.c (LS.refl _)) ⟨rfl,rfl⟩)
          | (refine gc (kd (by omega) (by omega)) ?_
             rintro v L' ⟨rfl,rfl⟩
             repeat' (first|refine uN ?_|(refine uB ?_;intro b)|(refine uP ?_ ?_<;>(intro h;((try simp only [zs,zq,reduceCtorEq] at h);try exact zx)))|fail)
             exact Zg (i+1,tx++[32]++Lib.itoa x) uS (LS.refl _) ⟨hit,hok.2 (by omega),by rw [es,htx];simp⟩ (by simp only;omega))
      · obtain rfl:i=ns.length:=by omega
        rw [hres1 ho]
        rw [List.take_length] at htx
        subst htx
        repeat' (first|refine uN ?_|(refine uB ?_;intro b)|(refine uP ?_ ?_<;>(intro h;((try simp only [zs,zq,reduceCtorEq] at h);try exact zx)))|fail)
        exact W9 (L':=L) (LS.c (LS.refl _)) ⟨rfl,rfl⟩
    · have hlf : (ns.length:Int)=f.length:=by rcases hin with h|h;exact absurd h hf;omega
      refine Za (fun _ _=>Tryz.call5 _ _) Tryz.func5 rfl Tryz.ntmps5 (Nat.le_of_ble_eq_true rfl) ?_;simp only [Zd,Nat.reduceAdd]
      repeat' (first|refine uN ?_|refine uC (kf _) ?_|(refine uB ?_;intro b)|(refine uP ?_ ?_<;>(intro h;((try simp only [zs,zq,reduceCtorEq] at h);try exact zx)))|fail)
      refine Zp (σ:=Nat × List UInt8) (fun r=>[(1,pt b 0),(4,bs f),(6,bs r.2),(7,iv r.1)]) (fun _=>[(b,.cells ⟨[bs w,.slice a ns.length cap]⟩ 28)]::L) (fun r=>r.1≤ns.length∧Zfx f ns r.1∧r.2=w++Zde (ns.take r.1)) (fun r=>ns.length-r.1) (0,w) uS (List.Sublist.refl _) ⟨by simp,fun j hj=>by simp at hj,by simp [Zde]⟩ ?_
      rintro ⟨i,tx⟩ ⟨hi,ho,htx⟩
      simp only at hi ho htx ⊢
      have hti:=hlen i hi ho
      have htl:tx.length≤60+22*i:=by rw [htx,List.length_append];omega
      by_cases hit:i<ns.length
      · obtain ⟨b2,bi,q,F2,fr,rfl,hb2,hg⟩:=hR.at1 (j:=(i:Int)) (by omega) (by omega)
        have eg:ns[(i:Int).toNat]'(by omega)=ns[i]:=rfl
        rw [eg] at hg
        have e0:ns.getD i 0=ns[i]:=by simp [List.getD,List.getElem?_eq_getElem hit]
        have es:=hsn i hit
        have hm:=hmo i
        unfold Zc2 at hm
        have hok:Zfx f ns (i+1)↔0≤ns[i]∧ns[i]≤Zc2 f i:=by
          rw [← e0]
          exact ⟨fun h=>h i (by omega),fun h j hj=>by
            rcases Nat.lt_succ_iff_lt_or_eq.1 hj with h2|rfl
            · exact ho j h2
            · exact h⟩
        have hno : ¬ Zfx f ns (i+1) → ¬ Zfx f ns ns.length:=fun h h2=>h fun j hj=>h2 j (by omega)
        generalize ns[i]=x at *
        unfold Zc2 at hok
        have hi2:((i:Nat):Int).toNat=i:=Int.toNat_natCast i
        have kd:=fun h0 h1=>X8 x h0 h1 ([(b,.cells ⟨[bs w,.slice (some ⟨b2,bi,none⟩) ns.length cap]⟩ 28)]::L)
        by_cases hd:(f.getD i 0).toNat=100
        · rw [if_pos ⟨hf,hd⟩] at hok
          have hd2:((f.getD ((i:Nat):Int).toNat 0).toNat:Int)=100:=by rw [hi2];omega
          have hil:=Lib.itoa_length_le x
          repeat' (first|refine uN ?_|(refine uB ?_;intro b)|(refine uP ?_ ?_<;>(intro h;((try simp only [zs,zq,reduceCtorEq] at h);try exact zx)))|fail)
          all_goals first
            | (rw [hres2 (hno fun h=>by have:=hok.1 h;omega)];exact W9 (L':=L) (LS.c (LS.refl _)) ⟨rfl,rfl⟩)
            | (refine gc (kd (by omega) (by omega)) ?_
               rintro v L' ⟨rfl,rfl⟩
               repeat' (first|refine uN ?_|(refine uB ?_;intro b)|(refine uP ?_ ?_<;>(intro h;((try simp only [zs,zq,reduceCtorEq] at h);try exact zx)))|fail)
               exact Zg (i+1,tx++[32]++Lib.itoa x) uS (LS.refl _) ⟨hit,hok.2 (by omega),by rw [es,htx];simp⟩ (by simp only;omega))
        · rw [if_neg (fun h=>hd h.2)] at hok
          have hd2 : ¬ ((f.getD ((i:Nat):Int).toNat 0).toNat:Int)=100:=by rw [hi2];omega
          have hil:=Lib.itoa_length_le x
          repeat' (first|refine uN ?_|(refine uB ?_;intro b)|(refine uP ?_ ?_<;>(intro h;((try simp only [zs,zq,reduceCtorEq] at h);try exact zx)))|fail)
          all_goals first
            | (rw [hres2 (hno fun h=>by have:=hok.1 h;omega)];exact W9 (L':=L) (LS.c (LS.refl _)) ⟨rfl,rfl⟩)
            | (refine gc (kd (by omega) (by omega)) ?_
               rintro v L' ⟨rfl,rfl⟩
               repeat' (first|refine uN ?_|(refine uB ?_;intro b)|(refine uP ?_ ?_<;>(intro h;((try simp only [zs,zq,reduceCtorEq] at h);try exact zx)))|fail)
               exact Zg (i+1,tx++[32]++Lib.itoa x) uS (LS.refl _) ⟨hit,hok.2 (by omega),by rw [es,htx];simp⟩ (by simp only;omega))
      · obtain rfl:i=ns.length:=by omega
        rw [hres1 ho]
        rw [List.take_length] at htx
        subst htx
        repeat' (first|refine uN ?_|(refine uB ?_;intro b)|(refine uP ?_ ?_<;>(intro h;((try simp only [zs,zq,reduceCtorEq] at h);try exact zx)))|fail)
        exact W9 (L':=L) (LS.c (LS.refl _)) ⟨rfl,rfl⟩
end Go.HL
end

/-! ScM -/
section
namespace Go.HL
open Go Go.Proofs
structure Ln where
 w:List UInt8
 a:Option Addr
 cap:Nat
 ns:List Int
def lnc (x:Ln):List Value:=[bs x.w,.slice x.a x.ns.length x.cap]
def LnIn (L:Zb) (l:List Ln):Prop := ∀ x∈l,Rd ic 1 L x.a x.ns
theorem LnIn.cons {L:Zb} {l:List Ln} (h:LnIn L l) (c:List Zr):LnIn (c::L) l:=fun x hx=>(h x hx).cons c
set_option maxHeartbeats 2000000 attribute [local irreducible] HW HO HQ HD HC QOp Has Upd Zt Gets Z8 Z0 Zo Xm Zz Zj Xp Zy
theorem Zyl {w:List UInt8} {ns:List Int} {s:List UInt8} (h:lineM w ns=some s) (hw:w.length≤60) (hn:ns.length≤12):s.length≤1000:=by
 unfold lineM at h
 split at h
 ·cases h
 ·rename_i hb
  cases h
  have ho:Zfx (X9 w).1 ns ns.length:=Classical.byContradiction fun h2=>hb (.inr h2)
  have:=Zk4 (ns:=ns) (k:=ns.length) (fun j hj=>by have h1:=ho j hj;have h2:=Zft (X9 w).1 j;omega) (Nat.le_refl _)
  rw [List.take_length] at this
  rw [List.length_append]
  omega
attribute [local irreducible] Zan lineM
end Go.HL
end

/-! CdLn -/
section
namespace Go.HL
set_option maxRecDepth 100000
open Go Go.Proofs Go.ChangeShapes Go.WideShapes Go.ChangeAt Go.RowKit
theorem open_rdc {H:Type} {enc:TypeId × Value→H} {P:Program} {W:World} {spare:Nat→Bool} {held:Bool} {t e:TypeId} {α:Type} {encV:α→List Value} {sz:Nat} {fuel:Nat} {cs:List Value} {x:DataW H × List MemPlace}
  (ht:P.underlying t=some (.slice e)) (hsz:P.cellsOf e=sz) (hpos:0<sz) (hf:DataW.trod enc P W 0 spare held fuel t cs=some x)
  (good:α→Prop) (one : ∀ n cs x,DataW.trod enc P W 0 spare held n e cs=some x → ∃ s,cs=encV s∧good s) :
  ∃ a cap,∃ xs:List α,cs=[.slice a xs.length cap]∧Rd encV sz [Qn W] a xs∧(∀ x∈xs,good x)∧xs.length≤cap:=by
 rcases Deep.open_slice ht hf with ⟨rfl,-⟩|⟨a',len,cap,m,n,D,Pl,rfl,-,hl,-,hm,-,hx⟩
 ·exact ⟨none,0,[],rfl,Rd.nil,by simp,by simp⟩
 ·have hlm:len≤m:=by rw [hm];split<;>omega
  have : ∀ i,i<len → ∃ s,W.cells? 0 (a'.add (i*sz)) sz=some (encV s)∧good s:=fun i hi=>by
   obtain ⟨cs,h1,h2⟩:=hx i (by omega)
   obtain ⟨s,rfl,hg⟩:=one _ _ _ h2
   rw [hsz] at h1
   exact ⟨s,h1,hg⟩
  by_cases h0:len=0
  ·subst h0
   exact ⟨some a',cap,[],rfl,Rd.nil,by simp,by simp⟩
  ·have : ∃ V:_root_.Fin len→α,∀ i,W.cells? 0 (a'.add (i.1*sz)) sz=some (encV (V i))∧good (V i):=⟨fun i=>(this i.1 i.2).choose,fun i=>(this i.1 i.2).choose_spec⟩
   obtain ⟨V,hV⟩:=this
   obtain ⟨-,-,hc⟩:=World.cells?_some (hV ⟨0,by omega⟩).1
   have hlen:=(World.cells?_some (hV ⟨0,by omega⟩).1).2.1
   have h00:=hc 0 hpos
   have hs : ∃ x,W.cell? a'=some x:=by
    simp [Addr.add] at h00
    exact ⟨_,h00.trans (List.getElem?_eq_getElem (by omega))⟩
   obtain ⟨x,hx0⟩:=hs
   obtain ⟨b,off,spot⟩:=a'
   have hblk : ∃ c E fr,W.heap[b]? = some (.cells c E fr)∧spot=none:=by
    unfold World.cell? at hx0
    simp only at hx0
    split at hx0
    ·rename_i c E fr he
     refine ⟨c,E,fr,he,?_⟩
     cases spot with
     | none=>rfl
     | some k=>simp at hx0
    ·cases hx0
   obtain ⟨c,E,fr,he,rfl⟩:=hblk
   refine ⟨some ⟨b,off,none⟩,cap,List.ofFn V,by simp,.inr ⟨b,off,c.toList,E,fr,rfl,Zag (by simpa using he),fun k x hk=>?_⟩,?_,by simpa using hl⟩
   ·have hkl:k<len:=by
     have:=(List.getElem?_eq_some_iff.1 hk).1
     simpa using this
    have hx:V ⟨k,hkl⟩=x:=by
     rw [List.getElem?_ofFn] at hk
     simpa [hkl] using hk
    obtain ⟨-,hl2,hc2⟩:=World.cells?_some (hV ⟨k,hkl⟩).1
    rw [hx] at hl2 hc2
    intro j v hj
    have hjl:=(List.getElem?_eq_some_iff.1 hj).1
    have:=hc2 j (by omega)
    rw [hj] at this
    rw [← this]
    have e:(Addr.add ⟨b,off,none⟩ (k*sz))=⟨b,off+k*sz,none⟩:=by
     unfold Addr.add;split
     ·rename_i h;simp [h]
     ·rfl
    show c.toList[off+k*sz+j]? = _
    simp only [e]
    rw [Zd8 he]
    simp
   ·intro x hx
    obtain ⟨i,rfl⟩:=List.mem_ofFn.1 hx
    exact (hV i).2
theorem Zyn : ∃ f0 f1:Field,Tryz.prog.underlying 28=some (.struct #[f0,f1])∧f0.type=9∧f1.type=26∧f0.offset=0∧f1.offset=1:=⟨_,_,Tryz.underlying28,rfl,rfl,rfl,rfl⟩
theorem open_ln {H:Type} {enc:TypeId × Value→H} {W:World} {spare:Nat→Bool} {held:Bool} (n:Nat) (cs:List Value) (x:DataW H × List MemPlace) (h:DataW.trod enc Tryz.prog W 0 spare held n 28 cs=some x) : ∃ s:Ln,cs=lnc s∧(Rd ic 1 [Qn W] s.a s.ns∧s.ns.length≤s.cap ∧ ∀ z∈s.ns,okI z):=by
 obtain ⟨f0,f1,hu,t0,t1,o0,o1⟩:=Zyn
 obtain ⟨y0,y1,m,-,hl,h0,h1⟩:=trod_struct2 hu h
 rw [t0,o0,show Tryz.prog.cellsOf 9=1 by kernel_rfl] at h0
 rw [t1,o1,show Tryz.prog.cellsOf 26=1 by kernel_rfl] at h1
 rw [show Tryz.prog.cellsOf 28=2 by kernel_rfl] at hl
 obtain ⟨s,e0,-⟩:=open_sb _ _ _ h0
 obtain ⟨a,cap,ns,e1,hR,hz,hc⟩:=open_rdc Tryz.underlying26 (sz:=1) (by kernel_rfl) (by decide) h1 okI open_ic
 match cs,hl with
 | [c0,c1],_ =>
  simp only [List.drop_zero,List.take_succ_cons,List.take_zero,List.drop_succ_cons] at e0 e1
  unfold Zab at e0
  cases e0
  cases e1
  exact ⟨⟨s,a,cap,ns⟩,rfl,hR,hc,hz⟩
end Go.HL
end

/-! RlA -/
section
namespace Go.HL
open Go Go.Proofs
def Zz4 (aw:Option Addr) (capw:Nat) (hv:Value) (m:Ld):List Value:=[iv m.id,iv m.deal,iv m.att,.slice aw m.w.length capw,bs m.state,iv m.wait,hv,iv m.phase,iv m.seen]
def U3 (lp:Nat) (aw:Option Addr) (capw:Nat) (hv:Value) (hc:List Zr) (m:Ld):List Zr:=(lp,.cells ⟨Zz4 aw capw hv m⟩ 93)::hc
def W5 (hs:List Fr) (i:Int):Option Fr:=hs.find? fun f=>decide (f.fr=i)
theorem Zx2 {hs:List Fr} {i:Int} {k:Nat} (h:W5 (hs.take k) i=none) (hk:k<hs.length) (hn:(hs[k]).fr≠i):W5 (hs.take (k+1)) i=none:=by
 unfold W5 at *
 rw [List.take_succ_eq_append_getElem hk,List.find?_append,h]
 simp [hn]
theorem from_hit {hs:List Fr} {i:Int} {k:Nat} (h:W5 (hs.take k) i=none) (hk:k<hs.length) (hn:(hs[k]).fr=i):W5 hs i=some hs[k]:=by
 unfold W5 at *
 have e:hs.take k++hs.drop k=hs:=List.take_append_drop _ _
 have e2:(hs.take k++hs.drop k).find? (fun f=>decide (f.fr=i))=some hs[k]:=by
  rw [List.find?_append,h,List.drop_eq_getElem_cons hk,List.find?_cons_of_pos (by simp [hn])]
  rfl
 rwa [e] at e2
set_option maxHeartbeats 2000000 attribute [local irreducible] HW HO HQ HD HC QOp Has Upd Zt Gets Z8 Z0 Zo Xm Zz Zj Xp Zy
theorem Qu (lp:Nat) (aw:Option Addr) (capw:Nat) (hv:Value) (hc:List Zr) (m:Ld) (kind phase:Int) (its:Bool) (L:Zb) (hw:m.w.length≤7) (hits:its=decide (kind≠3)):HC Tryz.prog 39 [pt lp 0,iv kind,iv phase,.bool its] (U3 lp aw capw hv hc m::L)
  (fun v L' => ∃ c,Z7 v (Zci m kind phase) c∧L'=c::U3 lp aw capw hv hc m::L):=by
 refine Za (fun _ _=>Tryz.call39 _ _) Tryz.func39 rfl Tryz.ntmps39 (Nat.le_of_ble_eq_true rfl) ?_;simp only [Zd,Nat.reduceAdd]
 repeat' (first|refine uN ?_|refine Z2 S ?_|refine Yp S ?_|(refine uB ?_;intro b)|(refine uP ?_ ?_<;>(intro h;((try simp only [zs,zq,reduceCtorEq] at h);try exact zx)))|refine da 101 ?_|fail)
 refine Zih ?_
 refine Zp (σ:=Nat × Value × List Zr) (fun q=>[(0,pt lp 0),(1,iv kind),(2,iv phase),(3,.bool its),(9,q.2.1),(10,iv q.1)]) (fun q=>q.2.2::U3 lp aw capw hv hc m::L) (fun q=>q.1≤m.w.length∧Z7 q.2.1 ((List.range q.1).flatMap (Zaz m kind phase)) q.2.2) (fun q=>m.w.length-q.1) (0,Ys,[]) uS (List.Sublist.refl _) ⟨by simp,Zv⟩ ?_
 rintro ⟨i,v,c⟩ ⟨hi,hv'⟩
 simp only at hi hv' ⊢
 have hle:=Un (Zaz m kind phase) (Ze9 m kind phase) i
 have step : ∀ x,Zaz m kind phase i=x→(List.range (i+1)).flatMap (Zaz m kind phase)=(List.range i).flatMap (Zaz m kind phase)++x:=fun x hx=>by rw [Ze1,hx]
 by_cases hlt:i<m.w.length
 ·by_cases hid:kind=3∧(i:Int)=m.id
  ·have e:Zaz m kind phase i=[]:=if_neg (by omega)
   obtain rfl:its=false:=by rw [hits];simp [hid.1]
   repeat' (first|refine uN ?_|refine Zu S ?_|(refine uB ?_;intro b)|(refine uP ?_ ?_<;>(intro h;((try simp only [zs,zq,reduceCtorEq] at h);try exact zx)))|refine da 101 ?_|fail)
   refine Zq (i+1,v,c) uS (List.Sublist.refl _) ⟨by simp only;omega,?_⟩ (by simp only;omega)
   simp only
   rw [step _ e,List.append_nil]
   exact hv'
  ·have e:Zaz m kind phase i=[⟨m.id,i,m.deal,kind,m.att,false,⟨phase,0,0⟩⟩]:=if_pos (by omega)
   by_cases hid2:(i:Int)=m.id
   ·obtain rfl:its=true:=by rw [hits];simp;omega
    repeat' (first|refine uN ?_|refine Zu S ?_|(refine uB ?_;intro b)|(refine uP ?_ ?_<;>(intro h;((try simp only [zs,zq,reduceCtorEq] at h);try exact zx)))|refine da 101 ?_|fail)
    all_goals refine fo 1 ?_
    all_goals refine Zce S ⟨m.id,i,m.deal,kind,m.att,false,⟨phase,0,0⟩⟩ hv' Zl Wr ?_
    all_goals intro v' c' hv2
    all_goals repeat' (first|refine uN ?_|refine Zu S ?_|(refine uB ?_;intro b)|(refine uP ?_ ?_<;>(intro h;((try simp only [zs,zq,reduceCtorEq] at h);try exact zx)))|refine da 101 ?_|fail)
    all_goals refine Zg (i+1,v',c') uS uL ⟨by simp only;omega,?_⟩ (by simp only;omega)
    all_goals simp only
    all_goals rw [step _ e]
    all_goals exact hv2
   ·repeat' (first|refine uN ?_|refine Zu S ?_|(refine uB ?_;intro b)|(refine uP ?_ ?_<;>(intro h;((try simp only [zs,zq,reduceCtorEq] at h);try exact zx)))|refine da 101 ?_|fail)
    all_goals refine fo 1 ?_
    all_goals refine Zce S ⟨m.id,i,m.deal,kind,m.att,false,⟨phase,0,0⟩⟩ hv' Zl Wr ?_
    all_goals intro v' c' hv2
    all_goals repeat' (first|refine uN ?_|refine Zu S ?_|(refine uB ?_;intro b)|(refine uP ?_ ?_<;>(intro h;((try simp only [zs,zq,reduceCtorEq] at h);try exact zx)))|refine da 101 ?_|fail)
    all_goals refine Zg (i+1,v',c') uS uL ⟨by simp only;omega,?_⟩ (by simp only;omega)
    all_goals simp only
    all_goals rw [step _ e]
    all_goals exact hv2
 ·repeat' (first|refine uN ?_|refine Zu S ?_|(refine uB ?_;intro b)|(refine uP ?_ ?_<;>(intro h;((try simp only [zs,zq,reduceCtorEq] at h);try exact zx)))|refine da 101 ?_|fail)
  have hi2:i=m.w.length:=by omega
  subst hi2
  exact Z9 (LS.refl _) ⟨c,hv',rfl⟩
theorem Vs (lp:Nat) (aw:Option Addr) (capw:Nat) (hv:Value) (hc:List Zr) (m:Ld) (hs:List Fr) (i:Int) (L:Zb) (hH:Z7 hv hs hc) (hl:hs.length≤7):HC Tryz.prog 61 [pt lp 0,iv i] (U3 lp aw capw hv hc m::L)
  (fun v L'=>v = .tuple ⟨[.agg ⟨fc ((W5 hs i).getD Yv)⟩,.bool (W5 hs i).isSome]⟩∧L'=U3 lp aw capw hv hc m::L):=by
 obtain ⟨ah,caph,rfl,hcap,hR⟩:=Vec.rd hH Zl
 refine Za (fun _ _=>Tryz.call61 _ _) Tryz.func61 rfl Tryz.ntmps61 (Nat.le_of_ble_eq_true rfl) ?_;simp only [Zd,Nat.reduceAdd]
 repeat' (first|refine uN ?_|(refine uB ?_;intro b)|(refine uP ?_ ?_<;>(intro h;((try simp only [zs,zq,reduceCtorEq] at h);try exact zx)))|fail)
 generalize b=b4
 refine Zp (σ:=Nat) (fun k=>[(0,pt lp 0),(1,iv i),(4,pt b4 0),(6,iv k)]) (fun _=>[(b4,.cells ⟨fc Yv⟩ 97)]::U3 lp aw capw (.slice ah hs.length caph) hc m::L) (fun k=>k≤hs.length∧W5 (hs.take k) i=none) (fun k=>hs.length-k) 0 uS (List.Sublist.refl _) ⟨by omega,rfl⟩ ?_
 rintro k ⟨hk,hn⟩
 by_cases hlt:k<hs.length
 ·obtain ⟨bh,ih,lh,Eh,frh,hah,hbh,hgh⟩:=((hR L).inn (lp,.cells ⟨Zz4 aw capw (.slice ah hs.length caph) m⟩ 93)).at (j:=(k:Int)) (by omega) (by omega)
  subst hah
  have hg0:Gets lh (ih+(k:Int).toNat*9) (fc hs[k]):=hgh
  by_cases hi:(hs[k]).fr=i
  ·rw [from_hit hn hlt hi]
   generalize hs[k]=x at *
   repeat' (first|refine uN ?_|(refine uB ?_;intro b)|(refine uP ?_ ?_<;>(intro h;((try simp only [zs,zq,reduceCtorEq] at h);try exact zx)))|fail)
   exact W9 (L':=U3 lp aw capw (.slice (some ⟨bh,ih,none⟩) hs.length caph) hc m::L) uL ⟨rfl,rfl⟩ (hx:=Xy S (hg:=Xw _))
  ·have hn2:=Zx2 hn hlt hi
   generalize hs[k]=x at *
   repeat' (first|refine uN ?_|(refine uB ?_;intro b)|(refine uP ?_ ?_<;>(intro h;((try simp only [zs,zq,reduceCtorEq] at h);try exact zx)))|fail)
   exact Zg (k+1) uS uL ⟨by omega,hn2⟩ (by omega)
 ·rw [List.take_of_length_le (by omega)] at hn
  rw [hn]
  repeat' (first|refine uN ?_|(refine uB ?_;intro b)|(refine uP ?_ ?_<;>(intro h;((try simp only [zs,zq,reduceCtorEq] at h);try exact zx)))|fail)
  exact W9 (L':=U3 lp aw capw (.slice ah hs.length caph) hc m::L) uL ⟨rfl,rfl⟩ (hx:=Xy S (hg:=Xw _))
end Go.HL
end

/-! RlB -/
section
namespace Go.HL
open Go Go.Proofs
def Zlk (h:Nat):Nat→Nat
 | 0=>0
 | n+1=>Zlk h n+h / 2 ^ n % 2
theorem cnt_full : ∀ n<8,∀ h<2 ^ n,Zlk h n=n↔h=2 ^ n-1:=by decide +kernel
theorem cnt_or : ∀ n<8,∀ h<2 ^ n,∀ k<n,h / 2 ^ k % 2=0→Zlk (h ||| 2 ^ k) n=Zlk h n+1:=by decide +kernel
theorem rbit_or : ∀ h<128,∀ k<7,∀ i<7,(h ||| 2 ^ k) / 2 ^ i % 2=if i=k then 1 else h / 2 ^ i % 2:=by decide +kernel
theorem Zql : ∀ n,Zlk 0 n=0
 | 0=>rfl
 | n+1=>by simp [Zlk,Zql n]
structure RelH (m:Ld) (hs:List Fr):Prop where
 w7:m.w.length≤7
 tl:m.told.length=7
 lt:m.heard<2 ^ m.w.length
 bit : ∀ i<m.w.length,m.heard / 2 ^ i % 2=1↔(W5 hs i).isSome=true
 told : ∀ i<m.w.length,∀ f,W5 hs i=some f→m.told.getD i W4=f.s
 cnt:hs.length=Zlk m.heard m.w.length
theorem RelH.of {m m':Ld} {hs:List Fr} (h:RelH m hs) (e1:m'.w=m.w) (e2:m'.told=m.told) (e3:m'.heard=m.heard):RelH m' hs:=by
 obtain ⟨a,b,c,d,e,f⟩:=h
 exact ⟨by rw [e1];exact a,by rw [e2];exact b,by rw [e1,e3];exact c,by rw [e1,e3];exact d,by rw [e1,e2];exact e,by rw [e1,e3];exact f⟩
theorem RelH.new {m:Ld} (h7:m.w.length≤7) (ht:m.told.length=7) (h0:m.heard=0):RelH m []:=by
 refine ⟨h7,ht,by rw [h0];exact Nat.two_pow_pos _,fun i _=>?_,fun i _ f h=>by simp [W5] at h,by rw [h0,Zql];rfl⟩
 rw [h0];simp [W5]
theorem RelH.prep {m:Ld} {hs:List Fr} (h:RelH m hs) (p:Int):RelH (Qe m p) []:=RelH.new h.w7 h.tl rfl
theorem RelH.le7 {m:Ld} {hs:List Fr} (h:RelH m hs):hs.length≤m.w.length:=by
 have key : ∀ n h,Zlk h n≤n:=by
  intro n h
  induction n with
  | zero=>simp [Zlk]
  | succ n ih=>simp only [Zlk];omega
 rw [h.cnt];exact key _ _
theorem Zhb (hs:List Fr) (f:Fr) (i:Int):W5 (hs++[f]) i=(W5 hs i).or (if f.fr=i then some f else none):=by
 unfold W5
 rw [List.find?_append]
 by_cases h:f.fr=i<;>simp [h]
theorem RelH.m2 {m:Ld} {hs:List Fr} {f:Fr} (h:RelH m hs) (hf:X2 m f):RelH (Qm m f) (hs++[f]):=by
 obtain ⟨h1,h2,h3,h4,h5,h6,h7⟩:=hf
 obtain ⟨k,hk⟩:=Int.eq_ofNat_of_zero_le h5
 rw [hk] at h6 h7
 have hkl:k<m.w.length:=by omega
 simp only [Int.toNat_natCast] at h7
 have hw:(Qm m f).w=m.w:=by unfold Qm Q8;split<;>rfl
 have hh:(Qm m f).heard=m.heard ||| 2 ^ k:=by show m.heard ||| 2 ^ f.fr.toNat=_;rw [hk];rfl
 have ht:(Qm m f).told=m.told.set k f.s:=by show m.told.set f.fr.toNat f.s=_;rw [hk];rfl
 have h128:m.heard<128:=Nat.lt_of_lt_of_le h.lt (by have:=Nat.pow_le_pow_right (n:=2) (by decide) h.w7;simpa using this)
 have hno:W5 hs k=none:=by
  have:=(h.bit k hkl)
  cases hq:W5 hs k with
  | none=>rfl
  | some g=>rw [hq] at this;have:=this.2 rfl;omega
 refine ⟨by rw [hw];exact h.w7,by rw [ht];simp [h.tl],by rw [hw,hh];exact Zfo h.lt hkl,fun i hi=>?_,fun i hi g hg=>?_,?_⟩
 ·rw [hw] at hi
  rw [hh,rbit_or m.heard h128 k (by have:=h.w7;omega) i (by have:=h.w7;omega),Zhb,hk]
  by_cases hik:i=k
  ·subst hik;simp
  ·rw [if_neg hik,if_neg (by omega),h.bit i hi]
   simp
 ·rw [hw] at hi
  rw [Zhb,hk] at hg
  rw [ht]
  by_cases hik:i=k
  ·subst hik
   rw [hno] at hg
   simp at hg
   subst hg
   have:=h.tl
   have:=h.w7
   simp [List.getD,h.tl,show i<7 by omega]
  ·rw [if_neg (by omega)] at hg
   have:=h.told i hi g (by simpa using hg)
   simp only [List.getD] at this ⊢
   rw [List.getElem?_set_ne (by omega)]
   exact this
 ·rw [hw,hh,cnt_or m.w.length (by have:=h.w7;omega) m.heard h.lt k hkl h7,List.length_append,h.cnt]
  rfl
def Xq (m:Ld) (hs:List Fr):List Fr:=
 if m.wait=2∧m.heard=2 ^ m.w.length-1 then [] else
 if m.wait=2∨(Xv m.w m.heard).1=false then hs else
 if m.wait=6 then hs else
 if (Yl (Xg m)).2 then hs else []
def Qd (m:Ld) (hs:List Fr) (f:Fr):List Fr:=
 if m.wait=0 ∨ ¬ X2 m f then hs else
 if f.yes=false then hs else Xq (Qm m f) (hs++[f])
theorem RelH.done {m:Ld} {hs:List Fr} (h:RelH m hs):RelH (Vo m) hs:=h.of rfl rfl rfl
theorem RelH.count {m:Ld} {hs:List Fr} (h:RelH m hs):RelH (Yf m).1 (Xq m hs):=by
 unfold Yf Xq
 split
 ·exact h.prep _
 split
 ·exact h
 split
 ·exact h.done
 split
 ·exact h.done
 ·exact h.prep _
theorem RelH.hear {m:Ld} {hs:List Fr} (h:RelH m hs) (f:Fr):RelH (Zw m f).1 (Qd m hs f):=by
 unfold Zw Qd
 split
 ·exact h
 ·rename_i hw
  have hfit:X2 m f:=Decidable.not_not.1 fun h0=>hw (.inr h0)
  split
  ·unfold Zz2
   have h1:RelH (Q8 m f) hs:=by unfold Q8;split;exact h;exact h.of rfl rfl rfl
   split
   ·exact h1.done
   ·exact h1.of rfl rfl rfl
  ·exact (h.m2 hfit).count
set_option maxHeartbeats 2000000 attribute [local irreducible] HW HO HQ HD HC QOp Has Upd Zt Gets Z8 Z0 Zo Xm Zz Zj Xp Zy
theorem Zf7 (lp:Nat) (aw:Option Addr) (capw:Nat) (hv:Value) (hc:List Zr) (m:Ld) (L:Zb) (hw:m.w.length≤7):HC Tryz.prog 37 [pt lp 0] (U3 lp aw capw hv hc m::L)
  (fun v L' => ∃ c,Z7 v (Xk m) c∧L'=c::U3 lp aw capw hv hc m::L):=by
 unfold Xk
 refine Za (fun _ _=>Tryz.call37 _ _) Tryz.func37 rfl Tryz.ntmps37 (Nat.le_of_ble_eq_true rfl) ?_;simp only [Zd,Nat.reduceAdd]
 repeat' (first|refine uN ?_|(refine uP ?_ ?_<;>(intro h;((try simp only [zs,zq,reduceCtorEq] at h);try exact zx)))|fail)
 ·refine gc (Qu lp aw capw hv hc m 1 0 true L hw rfl) ?_
  rintro v L' ⟨c,hv2,rfl⟩
  repeat' (first|refine uN ?_|(refine uP ?_ ?_<;>(intro h;((try simp only [zs,zq,reduceCtorEq] at h);try exact zx)))|fail)
  exact Z9 (LS.refl _) ⟨c,by rw [if_pos h];exact hv2,rfl⟩
 ·refine gc (Qu lp aw capw hv hc m 3 0 false L hw rfl) ?_
  rintro v L' ⟨c,hv2,rfl⟩
  repeat' (first|refine uN ?_|(refine uP ?_ ?_<;>(intro h;((try simp only [zs,zq,reduceCtorEq] at h);try exact zx)))|fail)
  exact Z9 (LS.refl _) ⟨c,by rw [if_neg h];exact hv2,rfl⟩
theorem Za1 (lp:Nat) (aw:Option Addr) (capw:Nat) (hv:Value) (hc:List Zr) (m:Ld) (phase:Int) (L:Zb) (hw:m.w.length≤7):HC Tryz.prog 62 [pt lp 0,iv phase] (U3 lp aw capw hv hc m::L)
  (fun v L' => ∃ c,Z7 v (Zci (Vo m) 7 phase) c∧L'=c::U3 lp aw capw hv hc (Vo m)::L):=by
 refine Za (fun _ _=>Tryz.call62 _ _) Tryz.func62 rfl Tryz.ntmps62 (Nat.le_of_ble_eq_true rfl) ?_;simp only [Zd,Nat.reduceAdd]
 repeat' (first|refine uN ?_)
 refine gc (Qu lp aw capw hv hc (Vo m) 7 phase true L hw rfl) ?_
 rintro v L' ⟨c,hv2,rfl⟩
 repeat' (first|refine uN ?_)
 exact Z9 (LS.refl _) ⟨c,hv2,rfl⟩
theorem Zam (lp:Nat) (aw:Option Addr) (capw:Nat) (hv:Value) (hc:List Zr) (m:Ld) (hs:List Fr) (phase:Int) (L:Zb) (hw:m.w.length≤7) (hH:Z7 hv hs hc):HC Tryz.prog 64 [pt lp 0,iv phase] (U3 lp aw capw hv hc m::L)
  (fun v L' => ∃ c,Z7 v (Zci (Qe m phase) 5 phase) c∧L'=c::U3 lp aw capw Ys [] (Qe m phase)::L):=by
 obtain ⟨ah,caph,rfl,hcap,hR⟩:=Vec.rd hH Zl
 refine Za (fun _ _=>Tryz.call64 _ _) Tryz.func64 rfl Tryz.ntmps64 (Nat.le_of_ble_eq_true rfl) ?_;simp only [Zd,Nat.reduceAdd]
 repeat' (first|refine uN ?_)
 refine Q5 (L':=U3 lp aw capw Ys [] (Qe m phase)::L) ?_ (LS.both _ (LS.skips hc (LS.refl _)))
 refine gc (Qu lp aw capw Ys [] (Qe m phase) 5 phase true L hw rfl) ?_
 rintro v L' ⟨c,hv2,rfl⟩
 repeat' (first|refine uN ?_)
 exact Z9 (LS.refl _) ⟨c,hv2,rfl⟩
end Go.HL
end

/-! RlC -/
section
namespace Go.HL
open Go Go.Proofs
theorem Zfn {m:Ld} {hs:List Fr} {f:Fr} (h:RelH m hs) (h0:0≤f.fr) (h1:f.fr<m.w.length):(W5 hs f.fr).isSome=decide (m.heard / 2 ^ f.fr.toNat % 2=1):=by
 obtain ⟨k,hk⟩:=Int.eq_ofNat_of_zero_le h0
 rw [hk] at h1 ⊢
 have:=h.bit k (by omega)
 simp only [Int.toNat_natCast]
 by_cases hb:m.heard / 2 ^ k % 2=1
 ·rw [decide_eq_true hb,this.1 hb]
 ·rw [decide_eq_false hb]
  cases hq:(W5 hs k).isSome with
  | false=>rfl
  | true=>exact absurd (this.2 hq) hb
def Zqv (m:Ld) (f:Fr):Prop:=f.kd=m.wait∧f.dl=m.deal∧f.att=m.att∧f.to=m.id∧0≤f.fr∧f.fr<m.w.length
theorem LS.rl {x:Zr} {c:List Zr} {L:Zb}:LS (c::[x]::L).flatten ((x::c)::L).flatten:=LS.of_perm (by simp only [List.flatten_cons,List.cons_append,List.nil_append];exact List.perm_middle)
theorem LS.lr {x:Zr} {c:List Zr} {L:Zb}:LS ((x::c)::L).flatten (c::[x]::L).flatten:=LS.of_perm (by simp only [List.flatten_cons,List.cons_append,List.nil_append];exact List.perm_middle.symm)
theorem ho_rl {P:Program} {n:Nat} {ops l:List Oper} {Q:Exit→Z5→Zb→Prop} {ρ:Z5} {x:Zr} {c:List Zr} {L:Zb} (h:HO P n ops Q l ρ (c::[x]::L)):HO P n ops Q l ρ ((x::c)::L):=Q5 h LS.rl
theorem hw_lr {P:Program} {n:Nat} {k:Code} {Q:Exit→Z5→Zb→Prop} {ρ:Z5} {x:Zr} {c:List Zr} {L:Zb} (h:HW P n k Q ρ ((x::c)::L)):HW P n k Q ρ (c::[x]::L):=W6 h LS.lr
set_option maxHeartbeats 2000000 attribute [local irreducible] HW HO HQ HD HC QOp Has Upd Zt Gets Z8 Z0 Zo Xm Zz Zj Xp Zy
set_option maxHeartbeats 2000000 in
theorem Zse (lp:Nat) (aw:Option Addr) (capw:Nat) (hv:Value) (hc:List Zr) (m:Ld) (hs:List Fr) (f:Fr) (L:Zb) (hR:Rd ic 1 L aw m.w) (hck:Ym m.w=none) (hH:Z7 hv hs hc) (rel:RelH m hs) (hq:m.wait=0 ∨ ¬ X2 m f∨f.yes=false) :
  HC Tryz.prog 41 [pt lp 0,.agg ⟨fc f⟩] (U3 lp aw capw hv hc m::L) (fun v L' => ∃ c hv' hc',Z7 v (Zw m f).2 c∧Z7 hv' (Qd m hs f) hc'∧L'=c::U3 lp aw capw hv' hc' (Zw m f).1::L):=by
 have hw7:=rel.w7
 have hl7:=rel.le7
 by_cases h0:m.wait=0 ∨ ¬ Zqv m f
 ·have hn:m.wait=0 ∨ ¬ X2 m f:=h0.imp_right fun h hf=>h ⟨hf.1,hf.2.1,hf.2.2.1,hf.2.2.2.1,hf.2.2.2.2.1,hf.2.2.2.2.2.1⟩
  have e1:Zw m f=(m,[]):=if_pos hn
  have e2:Qd m hs f=hs:=if_pos hn
  rw [e1,e2]
  unfold Zqv at h0
  refine Za (fun _ _=>Tryz.call41 _ _) Tryz.func41 rfl Tryz.ntmps41 (Nat.le_of_ble_eq_true rfl) ?_;simp only [Zd,Nat.reduceAdd]
  repeat' (first|refine uN ?_|refine Z2 S ?_|refine Yp S ?_|(refine uB ?_;intro b)|(refine uP ?_ ?_<;>(intro h;((try simp only [zs,zq,reduceCtorEq] at h);try exact zx)))|refine da 101 ?_|fail)
  all_goals first|exact Z9 (L':=[]::U3 lp aw capw hv hc m::L) uL ⟨[],hv,hc,Zv,hH,rfl⟩|(exfalso;omega)
 have hw0 : ¬ m.wait=0:=fun h=>h0 (.inl h)
 have hf0:Zqv m f:=Classical.not_not.1 fun h=>h0 (.inr h)
 clear h0
 have kf:=fun L=>Vs lp aw capw hv hc m hs f.fr L hH (by omega)
 have hfb:=Zfn rel hf0.2.2.2.2.1 hf0.2.2.2.2.2
 rw [hfb] at kf
 by_cases hb:m.heard / 2 ^ f.fr.toNat % 2=1
 ·have hn:m.wait=0 ∨ ¬ X2 m f := .inr fun hf=>by have:=hf.2.2.2.2.2.2;omega
  have e1:Zw m f=(m,[]):=if_pos hn
  have e2:Qd m hs f=hs:=if_pos hn
  rw [e1,e2]
  rw [decide_eq_true hb] at kf
  unfold Zqv at hf0
  refine Za (fun _ _=>Tryz.call41 _ _) Tryz.func41 rfl Tryz.ntmps41 (Nat.le_of_ble_eq_true rfl) ?_;simp only [Zd,Nat.reduceAdd]
  repeat' (first|refine uN ?_|refine Z2 S ?_|refine Yp S ?_|refine Wq (qC (Yw kf 1)) ?_|refine Qr (qC (Yw kf 1)) ?_|refine Yb (fun _=>Yw kf 1) ?_|refine Yc (fun _=>Yw kf 1) ?_|refine Yd (fun _=>Yw kf 1) ?_|refine Ye (fun _=>Yw kf 1) ?_|(refine uB ?_;intro b)|(refine uP ?_ ?_<;>(intro h;((try simp only [zs,zq,reduceCtorEq] at h);try exact zx)))|refine da 101 ?_|fail)
  exact Z9 (L':=[]::U3 lp aw capw hv hc m::L) uL ⟨[],hv,hc,Zv,hH,rfl⟩
 have hfit:X2 m f:=⟨hf0.1,hf0.2.1,hf0.2.2.1,hf0.2.2.2.1,hf0.2.2.2.2.1,hf0.2.2.2.2.2,by omega⟩
 rw [decide_eq_false hb] at kf
 have hn : ¬ (m.wait=0 ∨ ¬ X2 m f):=fun h=>h.elim hw0 (fun h=>h hfit)
 unfold Zqv at hf0
 unfold Zw Qd
 rw [if_neg hn,if_neg hn]
 by_cases hy:f.yes=false
 ·rw [if_pos hy,if_pos hy]
  have hm1w:(Q8 m f).w=m.w:=by unfold Q8;split<;>rfl
  unfold Zz2
  by_cases hk2:f.kd=2
  ·have e1:Q8 m f=m:=if_pos hk2
   rw [e1,if_pos (by omega)]
   have kd:=fun L=>Za1 lp aw capw hv hc m 3 L hw7
   refine Za (fun _ _=>Tryz.call41 _ _) Tryz.func41 rfl Tryz.ntmps41 (Nat.le_of_ble_eq_true rfl) ?_;simp only [Zd,Nat.reduceAdd]
   repeat' (first|refine uN ?_|refine Z2 S ?_|refine Yp S ?_|refine Wq (qC (Yw kf 1)) ?_|refine Qr (qC (Yw kf 1)) ?_|refine Yb (fun _=>Yw kf 1) ?_|refine Yc (fun _=>Yw kf 1) ?_|refine Yd (fun _=>Yw kf 1) ?_|refine Ye (fun _=>Yw kf 1) ?_|(refine uB ?_;intro b)|(refine uP ?_ ?_<;>(intro h;((try simp only [zs,zq,reduceCtorEq] at h);try exact zx)))|refine da 101 ?_|fail)
   all_goals (try exact absurd (hy.symm.trans (by assumption:f.yes=true)) (by decide))
   refine fo 2 ?_
   refine gc (kd _) ?_
   rintro v L' ⟨c,hv2,rfl⟩
   repeat' (first|refine uN ?_|refine Z2 S ?_|refine Yp S ?_|(refine uB ?_;intro b)|(refine uP ?_ ?_<;>(intro h;((try simp only [zs,zq,reduceCtorEq] at h);try exact zx)))|refine da 101 ?_|fail)
   exact Z9 (L':=c::U3 lp aw capw hv hc (Vo m)::L) uL ⟨c,hv,hc,hv2,hH,rfl⟩
  ·have hw2 : ¬ (Q8 m f).wait=2:=by unfold Q8;rw [if_neg hk2];show ¬ m.wait=2;omega
   rw [if_neg hw2]
   by_cases hgt:m.seen<f.s.pr
   ·have e1:Q8 m f={ m with seen:=f.s.pr }:=by unfold Q8;rw [if_neg hk2,show max m.seen f.s.pr=f.s.pr by omega]
    rw [e1]
    refine Za (fun _ _=>Tryz.call41 _ _) Tryz.func41 rfl Tryz.ntmps41 (Nat.le_of_ble_eq_true rfl) ?_;simp only [Zd,Nat.reduceAdd]
    repeat' (first|refine uN ?_|refine Z2 S ?_|refine Yp S ?_|refine Wq (qC (Yw kf 1)) ?_|refine Qr (qC (Yw kf 1)) ?_|refine Yb (fun _=>Yw kf 1) ?_|refine Yc (fun _=>Yw kf 1) ?_|refine Yd (fun _=>Yw kf 1) ?_|refine Ye (fun _=>Yw kf 1) ?_|(refine uB ?_;intro b)|(refine uP ?_ ?_<;>(intro h;((try simp only [zs,zq,reduceCtorEq] at h);try exact zx)))|refine da 101 ?_|fail)
    all_goals (try exact absurd (hy.symm.trans (by assumption:f.yes=true)) (by decide))
    exact Z9 (L':=[]::U3 lp aw capw hv hc { m with state:=Qx,wait:=0,seen:=f.s.pr }::L) uL ⟨[],hv,hc,Zv,hH,rfl⟩
   ·have e1:Q8 m f=m:=by unfold Q8;rw [if_neg hk2,show max m.seen f.s.pr=m.seen by omega]
    rw [e1]
    refine Za (fun _ _=>Tryz.call41 _ _) Tryz.func41 rfl Tryz.ntmps41 (Nat.le_of_ble_eq_true rfl) ?_;simp only [Zd,Nat.reduceAdd]
    repeat' (first|refine uN ?_|refine Z2 S ?_|refine Yp S ?_|refine Wq (qC (Yw kf 1)) ?_|refine Qr (qC (Yw kf 1)) ?_|refine Yb (fun _=>Yw kf 1) ?_|refine Yc (fun _=>Yw kf 1) ?_|refine Yd (fun _=>Yw kf 1) ?_|refine Ye (fun _=>Yw kf 1) ?_|(refine uB ?_;intro b)|(refine uP ?_ ?_<;>(intro h;((try simp only [zs,zq,reduceCtorEq] at h);try exact zx)))|refine da 101 ?_|fail)
    all_goals (try exact absurd (hy.symm.trans (by assumption:f.yes=true)) (by decide))
    exact Z9 (L':=[]::U3 lp aw capw hv hc { m with state:=Qx,wait:=0 }::L) uL ⟨[],hv,hc,Zv,hH,rfl⟩
 ·exact absurd (hq.elim (fun h=>absurd (.inl h) hn) (fun h=>h.elim (fun h=>absurd (.inr h) hn) id)) hy
end Go.HL
end

/-! RlD -/
section
namespace Go.HL
open Go Go.Proofs
theorem Zj5 (h i:Nat):h % 2 ^ (i+1)=h % 2 ^ i+2 ^ i*(h / 2 ^ i % 2):=by
 rw [Nat.pow_succ,Nat.mod_mul]
set_option maxHeartbeats 2000000 attribute [local irreducible] HW HO HQ HD HC QOp Has Upd Zt Gets Z8 Z0 Zo Xm Zz Zj Xp Zy
set_option maxHeartbeats 2000000 in
theorem Zvb (lp:Nat) (aw:Option Addr) (capw:Nat) (hv:Value) (hc:List Zr) (m:Ld) (hs:List Fr) (f:Fr) (L:Zb) (hR:Rd ic 1 L aw m.w) (hck:Ym m.w=none) (hH:Z7 hv hs hc) (rel:RelH m hs) (hw:m.wait≠0) (hfit:X2 m f) (hy:f.yes=true) (hkd:f.kd=2) :
  HC Tryz.prog 41 [pt lp 0,.agg ⟨fc f⟩] (U3 lp aw capw hv hc m::L) (fun v L' => ∃ c hv' hc',Z7 v (Zw m f).2 c∧Z7 hv' (Qd m hs f) hc'∧L'=c::U3 lp aw capw hv' hc' (Zw m f).1::L):=by
 have rel2:=rel.m2 hfit
 have hl2:=rel2.le7
 have hw72:=rel2.w7
 have e0:Q8 m f=m:=if_pos hkd
 have hm2:Qm m f={ m with heard:=m.heard ||| 2 ^ f.fr.toNat,told:=m.told.set f.fr.toNat f.s }:=by unfold Qm;rw [e0]
 have eh:Zw m f=Yf (Qm m f):=by unfold Zw;rw [if_neg (fun h=>h.elim hw (fun h=>h hfit)),if_neg (by rw [hy];decide)]
 have eh2:Qd m hs f=Xq (Qm m f) (hs++[f]):=by unfold Qd;rw [if_neg (fun h=>h.elim hw (fun h=>h hfit)),if_neg (by rw [hy];decide)]
 rw [eh,eh2]
 have kf:=fun L=>Vs lp aw capw hv hc m hs f.fr L hH (by have:=rel.le7;have:=rel.w7;omega)
 rw [Zfn rel hfit.2.2.2.2.1 hfit.2.2.2.2.2.1,decide_eq_false (by have:=hfit.2.2.2.2.2.2;omega)] at kf
 have hf0:=hfit
 unfold X2 at hf0
 have hw7:=rel.w7
 have hl7:=rel.le7
 generalize hM:Qm m f=m2 at *
 have em : ∀ v' c',U3 lp aw capw v' c' m2=(lp,.cells ⟨Zz4 aw capw v' m⟩ 93)::c':=fun v' c'=>by rw [hm2];rfl
 have ew:m2.w=m.w:=by rw [hm2]
 have ek:m2.wait=2:=by rw [hm2];show m.wait=2;omega
 refine Za (fun _ _=>Tryz.call41 _ _) Tryz.func41 rfl Tryz.ntmps41 (Nat.le_of_ble_eq_true rfl) ?_;simp only [Zd,Nat.reduceAdd]
 repeat apply Zjo
 apply Zbb
 refine wb (fun b3=>?_)
 repeat' (first|refine uN ?_|refine Z2 S ?_|refine Yp S ?_|refine Wq (qC (Yw kf 1)) ?_|refine Qr (qC (Yw kf 1)) ?_|refine Yb (fun _=>Yw kf 1) ?_|refine Yc (fun _=>Yw kf 1) ?_|refine Yd (fun _=>Yw kf 1) ?_|refine Ye (fun _=>Yw kf 1) ?_|(refine uB ?_;intro b)|(refine uP ?_ ?_<;>(intro h;((try simp only [zs,zq,reduceCtorEq] at h);try exact zx)))|refine da 101 ?_|fail)
 all_goals (try exact absurd ((by assumption:f.yes=false).symm.trans hy) (by decide))
 refine fo 3 ?_
 refine ho_rl ?_
 refine Zce S f hH Zl Wr ?_
 intro v1 c1 hv1
 obtain ⟨a1,p1,rfl,-,-⟩:=Vec.rd hv1 Zl
 repeat' (first|refine uN ?_|refine Z2 S ?_|refine Yp S ?_|(refine uB ?_;intro b)|(refine uP ?_ ?_<;>(intro h;((try simp only [zs,zq,reduceCtorEq] at h);try exact zx)))|refine da 101 ?_|fail)
 refine W6 (L':=c1::[(lp,.cells ⟨Zz4 aw capw (.slice a1 (hs++[f]).length p1) m⟩ 93)]::[]::[(b3,.cells ⟨fc f⟩ 97)]::L) ?_ uL
 refine hw_lr ?_
 rw [← em]
 generalize hvv:Value.slice a1 (hs++[f]).length p1=v1 at *
 have kf2:=fun i L=>Vs lp aw capw v1 c1 m2 (hs++[f]) i L hv1 (by omega)
 refine W6 (L':=[]::U3 lp aw capw v1 c1 m2::[(b3,.cells ⟨fc f⟩ 97)]::L) ?_ uL
 refine Zp (σ:=Nat × Value × List Zr) (fun q=>[(0,pt lp 0),(3,pt b3 0),(8,iv ((m2.heard % 2 ^ q.1:Nat):Int)),(9,q.2.1),(10,iv q.1)]) (fun q=>q.2.2::U3 lp aw capw v1 c1 m2::[(b3,.cells ⟨fc f⟩ 97)]::L) (fun q=>q.1≤m2.w.length∧Vec 69 3 sc q.2.1 ((List.range q.1).flatMap (Wt m2)) q.2.2) (fun q=>m2.w.length-q.1) (0,Ys,[]) ?_ (List.Sublist.refl _) ⟨by simp,Zv⟩ ?_
 ·simp only [Nat.pow_zero,Nat.mod_one]
  exact uS
 rintro ⟨i,vS,cS⟩ ⟨hi,hS⟩
 simp only at hi hS ⊢
 have hle:=Wk (Wt m2) (Zb9 m2) i
 have hms:=Zj5 m2.heard i
 have hmlt:m2.heard % 2 ^ i<2 ^ i:=Nat.mod_lt _ (Nat.two_pow_pos i)
 by_cases hlt:i<m2.w.length
 ·have kt:=fun L=>Zbm i (by omega) L
  have et:(2:Int) ^ i=((2 ^ i:Nat):Int):=by simp
  rw [et] at kt
  have hp7:2 ^ i≤128:=by
   have:=Nat.pow_le_pow_right (n:=2) (by decide) (show i≤7 by omega)
   simpa using this
  have hbi:=rel2.bit i hlt
  by_cases hb:m2.heard / 2 ^ i % 2=1
  ·obtain ⟨g,hg⟩:=Option.isSome_iff_exists.1 (hbi.1 hb)
   have hgs:=rel2.told i hlt g hg
   have kfi:=fun L=>kf2 i L
   rw [hg] at kfi
   have e1:Wt m2 i=[g.s]:=by unfold Wt;rw [if_pos hb,hgs]
   have e2:(List.range (i+1)).flatMap (Wt m2)=(List.range i).flatMap (Wt m2)++[g.s]:=by rw [Wn,e1]
   rw [hb,Nat.mul_one] at hms
   generalize 2 ^ i=z at *
   simp only [Option.getD_some,Option.isSome_some] at kfi
   repeat' (first|refine uN ?_|refine Z2 S ?_|refine Yp S ?_|refine Wq (qC (Yw kfi 1)) ?_|refine Qr (qC (Yw kfi 1)) ?_|refine uC (kt _) ?_|refine Yb (fun _=>Yw kfi 1) ?_|refine Yc (fun _=>Yw kfi 1) ?_|refine Yd (fun _=>Yw kfi 1) ?_|refine Ye (fun _=>Yw kfi 1) ?_|refine Yb (fun _=>kt _) ?_|refine Yc (fun _=>kt _) ?_|refine Yd (fun _=>kt _) ?_|refine Ye (fun _=>kt _) ?_|(refine uB ?_;intro b)|(refine uP ?_ ?_<;>(intro h;((try simp only [zs,zq,reduceCtorEq] at h);try exact zx)))|refine da 101 ?_|fail)
   refine fo 2 ?_
   refine Zce S g.s hS Zao Zpg ?_
   intro v' c' hv'
   rw [← e2] at hv'
   repeat' (first|refine uN ?_|refine Z2 S ?_|refine Yp S ?_|(refine uB ?_;intro b)|(refine uP ?_ ?_<;>(intro h;((try simp only [zs,zq,reduceCtorEq] at h);try exact zx)))|refine da 101 ?_|fail)
   refine Zg (i+1,v',c') ?_ uL ⟨by simp only;omega,hv'⟩ (by simp only;omega)
   simp only
   rw [hms,Int.natCast_add]
   exact uS
  ·have hno:W5 (hs++[f]) i=none:=by
    cases hq:W5 (hs++[f]) i with
    | none=>rfl
    | some g=>exact absurd (hbi.2 (by rw [hq];rfl)) hb
   have kfi:=fun L=>kf2 i L
   rw [hno] at kfi
   have e1:Wt m2 i=[]:=by unfold Wt;rw [if_neg hb]
   have e2:(List.range (i+1)).flatMap (Wt m2)=(List.range i).flatMap (Wt m2):=by rw [Wn,e1,List.append_nil]
   rw [show m2.heard / 2 ^ i % 2=0 by omega,Nat.mul_zero,Nat.add_zero] at hms
   simp only [Option.getD_none,Option.isSome_none] at kfi
   repeat' (first|refine uN ?_|refine Z2 S ?_|refine Yp S ?_|refine Wq (qC (Yw kfi 1)) ?_|refine Qr (qC (Yw kfi 1)) ?_|refine uC (kt _) ?_|refine Yb (fun _=>Yw kfi 1) ?_|refine Yc (fun _=>Yw kfi 1) ?_|refine Yd (fun _=>Yw kfi 1) ?_|refine Ye (fun _=>Yw kfi 1) ?_|refine Yb (fun _=>kt _) ?_|refine Yc (fun _=>kt _) ?_|refine Yd (fun _=>kt _) ?_|refine Ye (fun _=>kt _) ?_|(refine uB ?_;intro b)|(refine uP ?_ ?_<;>(intro h;((try simp only [zs,zq,reduceCtorEq] at h);try exact zx)))|refine da 101 ?_|fail)
   refine Zg (i+1,vS,cS) ?_ uL ⟨by simp only;omega,by simp only;rw [e2];exact hS⟩ (by simp only;omega)
   simp only
   rw [hms]
   exact uS
 ·obtain rfl:i=m2.w.length:=by omega
  subst hvv
  have hcn:=cnt_full m2.w.length (by omega) m2.heard rel2.lt
  rw [← rel2.cnt] at hcn
  by_cases hfull:m2.heard=2 ^ m2.w.length-1
  ·have ec:Yf m2=Zlr m2 4:=by unfold Yf;rw [if_pos ⟨ek,hfull⟩]
   have ec2:Xq m2 (hs++[f])=[]:=by unfold Xq;rw [if_pos ⟨ek,hfull⟩]
   rw [ec,ec2]
   have hle2:=hcn.2 hfull
   have kp:=fun L=>Zam lp aw capw _ c1 m2 (hs++[f]) 4 L (by omega) hv1
   repeat' (first|refine uN ?_|refine Z2 S ?_|refine Yp S ?_|(refine uB ?_;intro b)|(refine uP ?_ ?_<;>(intro h;((try simp only [zs,zq,reduceCtorEq] at h);try exact zx)))|refine da 101 ?_|fail)
   refine fo 1 ?_
   refine gc (kp _) ?_
   rintro v L' ⟨c,hv2,rfl⟩
   repeat' (first|refine uN ?_|refine Z2 S ?_|refine Yp S ?_|(refine uB ?_;intro b)|(refine uP ?_ ?_<;>(intro h;((try simp only [zs,zq,reduceCtorEq] at h);try exact zx)))|refine da 101 ?_|fail)
   exact Z9 (L':=c::U3 lp aw capw Ys [] (Qe m2 4)::L) uL ⟨c,Ys,[],hv2,Zv,rfl⟩
  ·have ec:Yf m2=(m2,[]):=by unfold Yf;rw [if_neg (fun h=>hfull h.2),if_pos (.inl ek)]
   have ec2:Xq m2 (hs++[f])=hs++[f]:=by unfold Xq;rw [if_neg (fun h=>hfull h.2),if_pos (.inl ek)]
   rw [ec,ec2]
   have hle2:(hs++[f]).length≠m2.w.length:=fun h=>hfull (hcn.1 h)
   repeat' (first|refine uN ?_|refine Z2 S ?_|refine Yp S ?_|(refine uB ?_;intro b)|(refine uP ?_ ?_<;>(intro h;((try simp only [zs,zq,reduceCtorEq] at h);try exact zx)))|refine da 101 ?_|fail)
   exact Z9 (L':=[]::U3 lp aw capw _ c1 m2::L) uL ⟨[],_,c1,Zv,hv1,rfl⟩
end Go.HL
end
