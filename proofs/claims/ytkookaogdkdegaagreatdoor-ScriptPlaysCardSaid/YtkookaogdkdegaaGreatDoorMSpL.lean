/- Texts laid into one, without what the claim does not use. Conditions: none. -/
import Derived.Test.YtkookaogdkdegaaGreatDoorMSpJ
set_option linter.unusedVariables false
set_option linter.unusedSimpArgs false
/-! ScP -/
section
namespace Go.HL
open Go Go.Proofs
theorem Zl7 (n:Int) (xs:List Ev) : ∀ (k i:Nat),k=xs.length-i→match Zcq n xs i with
  | none=>True
  | some (_,c)=>1≤c∧c≤9
 | 0,i,h=>by rw [Zcr (by omega)];trivial
 | k + 1,i,h=>by
  have hi:i<xs.length:=by omega
  cases he:Zjf n xs[i] (xs.take i) with
  | none=>rw [Za6 hi he];exact Zl7 n xs k (i+1) (by omega)
  | some c =>
   rw [Zfe hi he]
   unfold Zjf at he
   split at he
   ·cases he;simp
   ·split at he
    ·cases he;simp
    ·split at he
     ·cases he;simp
     ·cases he
theorem Zqm (n:Int) (xs:List Ev):0≤(Zt1 n xs).1∧(Zt1 n xs).1≤9:=by
 unfold Zt1
 split
 ·simp
 ·have:=Zl7 n xs xs.length 0 (by omega)
  split
  ·simp
  ·rename_i i c hc
   rw [hc] at this
   simp only at this ⊢
   omega
theorem Zjr : ∀ (l:List (List UInt8)) (x:List UInt8),Vi (l++[x])=if l=[] then x else Vi l++[44,32]++x
 | [],x=>rfl
 | [y],x=>by simp [Vi]
 | y::z::r,x=>by
  have ih:=Zjr (z::r) x
  rw [if_neg (by simp)] at ih ⊢
  simp only [List.cons_append,Vi] at ih ⊢
  rw [ih]
  simp
theorem joinM_ne {l:List (List UInt8)} (h:l≠[]) (hx : ∀ x∈l,x≠[]):Vi l≠[]:=by
 cases l with
 | nil=>exact absurd rfl h
 | cons x r =>
  have h1:=hx x List.mem_cons_self
  cases r with
  | nil=>exact h1
  | cons y r=>simp [Vi,h1]
set_option maxHeartbeats 2000000 attribute [local irreducible] HW HO HQ HD HC QOp Has Upd Zt Gets Z8 Z0 Zo Xm Zz Zj Xp Zy
attribute [local irreducible] Q3 Ya Zuv Ue Zn
section
variable (D:RwG) (M:Wm) (a:Option Addr) (cap:Nat) (ns:List Int) (X:Zb)
set_option maxRecDepth 20000 in
theorem Ziy (hRw:Rd ic 1 X D.aw M.w) (hD:RwOk D M) (hM:WI M) (hl:M.l.length≤99000000) :
  HC Tryz.prog 10 [pt D.wp 0,.agg ⟨[bs [97,108,108],.slice a ns.length cap]⟩] (Q3 D M::X) (fun v L'=>v=bs (Lib.itoa (Ue 3000 M).2)∧RwQ D (Ue 3000 M).1 X L'):=by
 have hok:=fun i=>Zh9 i hM
 have kI:=fun (j:Nat) (hj:j≤3000) (H:Zb)=>X8 (j:Int) (by omega) (by omega) H
 refine Za (fun _ _=>Tryz.call10 _ _) Tryz.func10 rfl Tryz.ntmps10 (Nat.le_of_ble_eq_true rfl) ?_;simp only [Zd,Nat.reduceAdd]
 repeat' (first|refine uN ?_|refine Z2 S ?_|refine Yp S ?_|(refine uB ?_;intro b)|(refine uP ?_ ?_<;>(intro h;((try simp only [zs,zq,reduceCtorEq] at h);try exact zx)))|refine da 101 ?_|fail)
 refine Zp (σ:=Nat × RwG × Wm) (fun r=>[(0,pt D.wp 0),(5,iv r.1)])
  (fun r=>[(b,.cells ⟨[bs [97,108,108],.slice a ns.length cap]⟩ 28)]::Q3 r.2.1 r.2.2::X)
  (fun r=>r.1≤3000∧RwS D r.2.1∧RwOk r.2.1 r.2.2∧StepOk M r.2.2 (84*r.1)∧(Ue 3000 M).1=(Ue (3000-r.1) r.2.2).1∧(Ue 3000 M).2=(Ue (3000-r.1) r.2.2).2+r.1) (fun r=>3000-r.1) (0,D,M) uS (List.Sublist.refl _) ⟨by simp,.refl D,hD,.refl hM _,rfl,rfl⟩ ?_
 rintro ⟨i,D1,M1⟩ ⟨hi,eS,hD1,⟨hM1,hsame,hlen⟩,e1,e2⟩
 simp only at hi eS hD1 hM1 hsame hlen e1 e2 ⊢
 have k:=fun c=>HC.shutD (V:=fun v=>v=iv (cdN (Ya M1 0).2)) (Zc9 D1 M1 0 (c::X) (by rw [eS.aw,hsame.w];exact hRw.cons c) hD1 hM1 (by omega))
 have hd:=(Qg hM1 0).mono (show _≤84 by omega)
 have hdw:=(Zma M1 0).ok
 rw [eS.wp] at k
 by_cases hi3:i<3000
 ·have es:=Zdj (3000-i-1) M1
  rw [show 3000-i-1+1=3000-i by omega] at es
  rw [es] at e1 e2
  clear es
  generalize Ya M1 0=R at *
  obtain ⟨M2,e⟩:=R
  simp only at k hd hdw e1 e2
  cases e with
  | none =>
   simp only [if_pos] at e1 e2
   simp only [cdN] at k
   repeat' (first|refine uN ?_|refine Z2 S ?_|refine Yp S ?_|(refine uB ?_;intro b)|(refine uP ?_ ?_<;>(intro h;((try simp only [zs,zq,reduceCtorEq] at h);try exact zx)))|refine da 101 ?_|fail)
   refine fo 1 ?_
   refine gc (k _) ?_
   rintro v L' ⟨rfl,D2,f1,hD2,rfl⟩
   repeat' (first|refine uN ?_|refine Z2 S ?_|refine Yp S ?_|(refine uB ?_;intro b)|(refine uP ?_ ?_<;>(intro h;((try simp only [zs,zq,reduceCtorEq] at h);try exact zx)))|refine da 101 ?_|fail)
   exact Zg (i+1,D2,M2) uS uL ⟨by simp only;omega,eS.trans f1,hD2,⟨hd.wi,hsame.trans hd.same,by have:=hd.len;simp only;omega⟩,by simp only;rw [e1,show 3000-(i+1)=3000-i-1 by omega],by simp only;rw [e2,show 3000-(i+1)=3000-i-1 by omega];omega⟩ (by simp only;omega)
  | some g =>
   simp only [reduceCtorEq,if_false] at e1 e2
   have hg:cdN (some g)≠0:=by
    have:=List.elem_iff.1 (show List.elem g all9=true from hdw)
    simp [all9] at this
    show (g:Int)≠0
    omega
   generalize cdN (some g)=z at *
   repeat' (first|refine uN ?_|refine Z2 S ?_|refine Yp S ?_|(refine uB ?_;intro b)|(refine uP ?_ ?_<;>(intro h;((try simp only [zs,zq,reduceCtorEq] at h);try exact zx)))|refine da 101 ?_|fail)
   refine fo 1 ?_
   refine gc (k _) ?_
   rintro v L' ⟨rfl,D2,f1,hD2,rfl⟩
   have kJ:=kI i hi
   rw [e1,show (Ue 3000 M).2=i by omega]
   repeat' (first|refine uN ?_|refine Z2 S ?_|refine Yp S ?_|refine uC (kJ _) ?_|refine Yb (fun _=>kJ _) ?_|refine Yc (fun _=>kJ _) ?_|refine Yd (fun _=>kJ _) ?_|refine Ye (fun _=>kJ _) ?_|(refine uB ?_;intro b)|(refine uP ?_ ?_<;>(intro h;((try simp only [zs,zq,reduceCtorEq] at h);try exact zx)))|refine da 101 ?_|fail)
   exact Z9 uL ⟨rfl,D2,eS.trans f1,hD2,rfl⟩
 ·obtain rfl:i=3000:=by omega
  rw [show (3000:Nat)-3000=0 from rfl,Zl4] at e1 e2
  have kJ:=kI 3000 hi
  rw [e1,show (Ue 3000 M).2=3000 by simp only at e2;omega]
  repeat' (first|refine uN ?_|refine Z2 S ?_|refine Yp S ?_|refine uC (kJ _) ?_|refine Yb (fun _=>kJ _) ?_|refine Yc (fun _=>kJ _) ?_|refine Yd (fun _=>kJ _) ?_|refine Ye (fun _=>kJ _) ?_|(refine uB ?_;intro b)|(refine uP ?_ ?_<;>(intro h;((try simp only [zs,zq,reduceCtorEq] at h);try exact zx)))|refine da 101 ?_|fail)
  all_goals first|(exfalso;omega)|exact Z9 uL ⟨rfl,D1,eS,hD1,rfl⟩
theorem Zgw (hD:RwOk D M):RwIn (Q3 D M::X) D M:=(Zf9 hD X).mono fun b o hb=>lsD.has hb
theorem rwC_ev (hD:RwOk D M) : ∃ a cap,D.ev = .slice a M.ev.length cap∧Rd ec 3 (Q3 D M::X) a M.ev:=by
 obtain ⟨ae,cape,hev,-,hRe⟩:=hD.ev.rd U0
 refine ⟨ae,cape,hev,(hRe []).mono fun b o hb=>lsD.has ?_⟩
 unfold Has at *
 simp only [Wj,Zei,List.flatten_cons,List.flatten_nil,List.append_nil,List.cons_append,List.nil_append] at hb ⊢
 simp [hb]
theorem Ziz (hD:RwOk D M) (hl:M.l.length≤99998000) :
  HC Tryz.prog 10 [pt D.wp 0,.agg ⟨[bs [102,108,121],.slice a ns.length cap]⟩] (Q3 D M::X) (fun v L'=>v=bs (Lib.itoa M.l.length)∧L'=Q3 D M::X):=by
 have hI:=Zgw D M X hD
 obtain ⟨al,capl,hlv,-⟩:=hI.ls
 have hw:=hI.wp
 unfold Vt at hw
 rw [hlv] at hw
 have kI:=fun H=>X8 (M.l.length:Int) (by omega) (by omega) H
 generalize Q3 D M::X=H at *
 refine Za (fun _ _=>Tryz.call10 _ _) Tryz.func10 rfl Tryz.ntmps10 (Nat.le_of_ble_eq_true rfl) ?_;simp only [Zd,Nat.reduceAdd]
 repeat' (first|refine uN ?_|refine Z2 S ?_|refine Yp S ?_|refine uC (kI _) ?_|refine Yb (fun _=>kI _) ?_|refine Yc (fun _=>kI _) ?_|refine Yd (fun _=>kI _) ?_|refine Ye (fun _=>kI _) ?_|(refine uB ?_;intro b)|(refine uP ?_ ?_<;>(intro h;((try simp only [zs,zq,reduceCtorEq] at h);try exact zx)))|refine da 101 ?_|fail)
 exact Z9 (L':=H) uL ⟨rfl,rfl⟩
theorem Zi4 (hD:RwOk D M) (hM:WI M) :
  HC Tryz.prog 10 [pt D.wp 0,.agg ⟨[bs [99,104,101,99,107],.slice a ns.length cap]⟩] (Q3 D M::X) (fun v L'=>v=bs (Zuv (Zt1 M.n.length (M.ev.map Zl1)).1)∧L'=Q3 D M::X):=by
 have hel:=hM.evl
 have hI:=Zgw D M X hD
 obtain ⟨an,capn,hnv,-⟩:=hI.ns
 obtain ⟨ae,cape,hev,hER⟩:=rwC_ev D M X hD
 have hw:=hI.wp
 unfold Vt at hw
 rw [hnv,hev] at hw
 have kE:=fun H hR=>Zfk ae cape (M.ev.map Zl1) M.n.length H hR (by rw [List.length_map];omega)
 rw [List.length_map] at kE
 have kO:=fun H=>Zey (Zt1 M.n.length (M.ev.map Zl1)).1 H (Zqm _ _).1 (Zqm _ _).2
 generalize Q3 D M::X=H at *
 refine Za (fun _ _=>Tryz.call10 _ _) Tryz.func10 rfl Tryz.ntmps10 (Nat.le_of_ble_eq_true rfl) ?_;simp only [Zd,Nat.reduceAdd]
 repeat' (first|refine uN ?_|refine Zu S ?_|(refine uB ?_;intro b)|(refine uP ?_ ?_<;>(intro h;((try simp only [zs,zq,reduceCtorEq] at h);try exact zx)))|refine da 101 ?_|fail)
 refine Zbx ?_ ?_
 ·refine gc (kE _ (rd_ev (hER.cons _))) ?_
  rintro v L' ⟨rfl,rfl⟩
  repeat' (first|refine uN ?_|refine Zu S ?_|refine uC (kO _) ?_|refine Yb (fun _=>kO _) ?_|refine Yc (fun _=>kO _) ?_|refine Yd (fun _=>kO _) ?_|refine Ye (fun _=>kO _) ?_|(refine uB ?_;intro b)|(refine uP ?_ ?_<;>(intro h;((try simp only [zs,zq,reduceCtorEq] at h);try exact zx)))|refine da 101 ?_|fail)
  exact Z9 (L':=H) uL ⟨rfl,rfl⟩
 ·repeat' (first|refine uN ?_|refine Zu S ?_|(refine uB ?_;intro b)|(refine uP ?_ ?_<;>(intro h;((try simp only [zs,zq,reduceCtorEq] at h);try exact zx)))|refine da 101 ?_|fail)
  refine gc (kE _ (rd_ev ((hER.cons _).cons _))) ?_
  rintro v L' ⟨rfl,rfl⟩
  repeat' (first|refine uN ?_|refine Zu S ?_|refine uC (kO _) ?_|refine Yb (fun _=>kO _) ?_|refine Yc (fun _=>kO _) ?_|refine Yd (fun _=>kO _) ?_|refine Ye (fun _=>kO _) ?_|(refine uB ?_;intro b)|(refine uP ?_ ?_<;>(intro h;((try simp only [zs,zq,reduceCtorEq] at h);try exact zx)))|refine da 101 ?_|fail)
  exact Z9 (L':=H) uL ⟨rfl,rfl⟩
theorem Zi3 (hD:RwOk D M) (hM:WI M) (hV:EvW M) :
  HC Tryz.prog 10 [pt D.wp 0,.agg ⟨[bs [101,118,101,110,116,115],.slice a ns.length cap]⟩] (Q3 D M::X) (fun v L'=>v=bs (evsT M.ev)∧L'=Q3 D M::X):=by
 have hel:=hM.evl
 have hwl:=hM.wl
 have hrg:=hV.rg
 have hI:=Zgw D M X hD
 obtain ⟨ae,cape,hev,hER⟩:=rwC_ev D M X hD
 have hw:=hI.wp
 unfold Vt at hw
 rw [hev] at hw
 have hel1 : ∀ x∈M.ev.map Zmc,x≠[]∧x.length≤65:=fun x hx=>by
  obtain ⟨e,he,rfl⟩:=List.mem_map.1 hx
  obtain ⟨r1,r2,r3,r4,r5⟩:=hrg e he
  have l1:=Lib.itoa_length_le e.site (by omega) (by omega)
  have l2:=Lib.itoa_length_le e.deal (by omega) (by omega)
  have l3:=Zdp e.ph (by unfold fin at r5;omega) (by unfold fin at r5;omega)
  unfold Zmc
  refine ⟨by simp,?_⟩
  simp only [List.length_append,List.length_cons,List.length_nil]
  omega
 have hjl : ∀ i,(Vi ((M.ev.map Zmc).take i)).length≤100000:=fun i=>by
  have h1:=Zjq 65 ((M.ev.map Zmc).take i) fun x hx=>(hel1 x (List.mem_of_mem_take hx)).2
  have h2:=Nat.mul_le_mul_right (65+2) hel
  have h3:((M.ev.map Zmc).take i).length≤M.ev.length:=by rw [List.length_take,List.length_map];omega
  have h4:=Nat.mul_le_mul_right (65+2) h3
  omega
 generalize Q3 D M::X=H at *
 refine Za (fun _ _=>Tryz.call10 _ _) Tryz.func10 rfl Tryz.ntmps10 (Nat.le_of_ble_eq_true rfl) ?_;simp only [Zd,Nat.reduceAdd]
 repeat' (first|refine uN ?_|refine Z2 S ?_|refine Yp S ?_|(refine uB ?_;intro b)|(refine uP ?_ ?_<;>(intro h;((try simp only [zs,zq,reduceCtorEq] at h);try exact zx)))|refine da 101 ?_|fail)
 refine Zp (σ:=Nat × List UInt8) (fun r=>[(0,pt D.wp 0),(7,bs r.2),(8,iv r.1)]) (fun _=>[(b,.cells ⟨[bs [101,118,101,110,116,115],.slice a ns.length cap]⟩ 28)]::H) (fun r=>r.1≤M.ev.length∧r.2=Vi ((M.ev.map Zmc).take r.1)) (fun r=>M.ev.length-r.1) (0,[]) uS (List.Sublist.refl _) ⟨by simp,rfl⟩ ?_
 rintro ⟨i,tx⟩ ⟨hi,htx⟩
 simp only at hi htx ⊢
 by_cases hit:i<M.ev.length
 ·obtain ⟨b1,bi,l,F,fr,rfl,hb,hg⟩:=hER.at (j:=(i:Int)) (by omega) (by omega)
  have eg:M.ev[(i:Int).toNat]'(by omega)=M.ev[i]:=rfl
  rw [eg] at hg
  obtain ⟨r1,r2,r3,r4,r5⟩:=hrg M.ev[i] (List.getElem_mem _)
  have hs:Vi ((M.ev.map Zmc).take (i+1))=if i=0 then Zmc M.ev[i] else tx++[44,32]++Zmc M.ev[i]:=by
   rw [Ql (by rw [List.length_map];exact hit),Zjr,List.getElem_map,htx]
   have e:((M.ev.map Zmc).take i=[])=(i=0):=by
    refine propext ⟨fun h=>?_,fun h=>by rw [h];rfl⟩
    have:=congrArg List.length h
    rw [List.length_take,List.length_map,List.length_nil] at this
    omega
   simp only [e]
  have hjt:=hjl i
  rw [← htx] at hjt
  have h00:i=0→tx=[]:=fun h=>by rw [htx,h];rfl
  unfold ec at hg
  generalize M.ev[i]=e at *
  obtain ⟨es,ed,ep⟩:=e
  simp only at hs hg r1 r2 r3 r4 r5
  have kN:=fun H=>Zf5 ep (by unfold fin at r5;omega) (by unfold fin at r5;omega) H
  have kP:=fun H=>X8 es (by omega) (by omega) H
  have kA:=fun H=>X8 ed (by omega) (by omega) H
  have l1:=Zdp ep (by unfold fin at r5;omega) (by unfold fin at r5;omega)
  have l2:=Lib.itoa_length_le es (by omega) (by omega)
  have l3:=Lib.itoa_length_le ed (by omega) (by omega)
  clear htx
  by_cases hi0:i=0
  ·rw [if_pos hi0] at hs
   have h0:=h00 hi0
   subst hi0 h0
   repeat' (first|refine uN ?_|refine Zu S ?_|refine uC (kP _) ?_|refine uC (kA _) ?_|refine uC (kN _) ?_|refine Yb (fun _=>kP _) ?_|refine Yc (fun _=>kP _) ?_|refine Yd (fun _=>kP _) ?_|refine Ye (fun _=>kP _) ?_|refine Yb (fun _=>kA _) ?_|refine Yc (fun _=>kA _) ?_|refine Yd (fun _=>kA _) ?_|refine Ye (fun _=>kA _) ?_|refine Yb (fun _=>kN _) ?_|refine Yc (fun _=>kN _) ?_|refine Yd (fun _=>kN _) ?_|refine Ye (fun _=>kN _) ?_|(refine uB ?_;intro b)|(refine uP ?_ ?_<;>(intro h;((try simp only [zs,zq,reduceCtorEq] at h);try exact zx)))|refine da 101 ?_|fail)
   all_goals first|(exfalso;omega)|exact Zg (0+1,[]++Lib.itoa es++[32]++Lib.itoa ed++[32]++Zz1 ep) uS uL ⟨hit,by simp only [hs];rfl⟩ (by simp only;omega)
  ·rw [if_neg hi0] at hs
   clear h00
   repeat' (first|refine uN ?_|refine Zu S ?_|refine uC (kP _) ?_|refine uC (kA _) ?_|refine uC (kN _) ?_|refine Yb (fun _=>kP _) ?_|refine Yc (fun _=>kP _) ?_|refine Yd (fun _=>kP _) ?_|refine Ye (fun _=>kP _) ?_|refine Yb (fun _=>kA _) ?_|refine Yc (fun _=>kA _) ?_|refine Yd (fun _=>kA _) ?_|refine Ye (fun _=>kA _) ?_|refine Yb (fun _=>kN _) ?_|refine Yc (fun _=>kN _) ?_|refine Yd (fun _=>kN _) ?_|refine Ye (fun _=>kN _) ?_|(refine uB ?_;intro b)|(refine uP ?_ ?_<;>(intro h;((try simp only [zs,zq,reduceCtorEq] at h);try exact zx)))|refine da 101 ?_|fail)
   all_goals first|(exfalso;omega)|exact Zg (i+1,tx++[44,32]++Lib.itoa es++[32]++Lib.itoa ed++[32]++Zz1 ep) uS uL ⟨hit,by simp only [hs];simp only [Zmc,List.append_assoc]⟩ (by simp only;omega)
 ·obtain rfl:i=M.ev.length:=by omega
  rw [List.take_of_length_le (by rw [List.length_map];omega)] at htx
  unfold evsT
  by_cases he:M.ev=[]
  ·rw [if_pos he]
   have h0:tx=[]:=by rw [htx,he];rfl
   subst h0
   repeat' (first|refine uN ?_|refine Zu S ?_|(refine uB ?_;intro b)|(refine uP ?_ ?_<;>(intro h;((try simp only [zs,zq,reduceCtorEq] at h);try exact zx)))|refine da 101 ?_|fail)
   all_goals first|exact Z9 (L':=H) uL ⟨rfl,rfl⟩|(exfalso;contradiction)
  ·rw [if_neg he]
   have h0:tx≠[]:=by rw [htx];exact joinM_ne (by simpa using he) fun x hx=>(hel1 x hx).1
   rw [← htx]
   repeat' (first|refine uN ?_|refine Zu S ?_|(refine uB ?_;intro b)|(refine uP ?_ ?_<;>(intro h;((try simp only [zs,zq,reduceCtorEq] at h);try exact zx)))|refine da 101 ?_|fail)
   all_goals first|exact Z9 (L':=H) uL ⟨rfl,rfl⟩|(exfalso;contradiction)
end
end Go.HL
end

/-! ScQ -/
section
namespace Go.HL
open Go Go.Proofs
set_option maxHeartbeats 2000000 attribute [local irreducible] HW HO HQ HD HC QOp Has Upd Zt Gets Z8 Z0 Zo Xm Zz Zj Xp Zy
attribute [local irreducible] Q3 Zuv Zn
section
variable (D:RwG) (M:Wm) (a:Option Addr) (cap:Nat) (ns:List Int) (X:Zb)
theorem Zi2 (hD:RwOk D M) (hM:WI M) (hR:Rd ic 1 X a ns) (hn:ns.length=1) (hcap:ns.length≤cap) (h0:0≤ns.getD 0 0) :
  HC Tryz.prog 10 [pt D.wp 0,.agg ⟨[bs [105,115],.slice a ns.length cap]⟩] (Q3 D M::X) (fun v L'=>v=bs (if (Zh5 M (ns.getD 0 0)).2=none then (if (Zh5 M (ns.getD 0 0)).1 then [117,112] else [100,111,119,110]) else W2 2)∧L'=Q3 D M::X):=by
 obtain ⟨b1,i1,q1,F1,f1,rfl,hb1,hg1,hg2⟩:=Zpx hR (by omega)
 clear hg2
 have hb1:=(Zc hb1:Has (Q3 D M::X) _ _)
 have hI:=Zgw D M X hD
 have hN:=fun s h0 h1=>(lsD.has (Zds hD.ndl (s:=s) h0 h1 X):Has (Q3 D M::X) _ _)
 obtain ⟨an,capn,hnv,-⟩:=hI.ns
 have hw:=hI.wp
 unfold Vt at hw
 rw [hnv] at hw
 have ke:=fun H=>Vc 2 H (by decide) (by decide)
 generalize ns.getD 0 0=s at *
 generalize Q3 D M::X=H at *
 by_cases hs:(M.n.length:Int)≤s
 ·have e:Zh5 M s=(false,some 2):=by unfold Zh5;rw [show Xs M s=some 2 from if_pos (.inr hs)]
  rw [e]
  simp only [reduceCtorEq,if_false]
  refine Za (fun _ _=>Tryz.call10 _ _) Tryz.func10 rfl Tryz.ntmps10 (Nat.le_of_ble_eq_true rfl) ?_;simp only [Zd,Nat.reduceAdd]
  repeat' (first|refine uN ?_|refine Z2 S ?_|refine Yp S ?_|refine uC (ke _) ?_|refine Yb (fun _=>ke _) ?_|refine Yc (fun _=>ke _) ?_|refine Yd (fun _=>ke _) ?_|refine Ye (fun _=>ke _) ?_|(refine uB ?_;intro b)|(refine uP ?_ ?_<;>(intro h;((try simp only [zs,zq,reduceCtorEq] at h);try exact zx)))|refine da 101 ?_|fail)
  all_goals first|(exfalso;omega)|exact Z9 (L':=H) uL ⟨rfl,rfl⟩
 ·have e:Zh5 M s=((Zf M s).site.isSome,none):=by unfold Zh5;rw [Zka (by omega) (by omega)]
  rw [e]
  simp only [if_true]
  have hNi:=hN s h0 (by omega)
  obtain ⟨b9,bi,l,F,fr,cap2,e7,hb,hg2⟩:=Zkz hI hD.ndl (s:=s) h0 (by omega)
  rw [hnv] at e7
  obtain ⟨rfl,-,rfl⟩:=Value.slice.inj e7
  unfold Zbg at hNi
  rcases hss:(Zf M s).site with _|⟨j,ref⟩
  all_goals
   rw [hss] at hNi
   simp only [Zd7,Option.isSome_none,Option.isSome_some] at hNi ⊢
   refine Za (fun _ _=>Tryz.call10 _ _) Tryz.func10 rfl Tryz.ntmps10 (Nat.le_of_ble_eq_true rfl) ?_;simp only [Zd,Nat.reduceAdd]
   repeat' (first|refine uN ?_|refine Z2 S ?_|refine Yp S ?_|refine uC (ke _) ?_|refine Yb (fun _=>ke _) ?_|refine Yc (fun _=>ke _) ?_|refine Yd (fun _=>ke _) ?_|refine Ye (fun _=>ke _) ?_|(refine uB ?_;intro b)|(refine uP ?_ ?_<;>(intro h;((try simp only [zs,zq,reduceCtorEq] at h);try exact zx)))|refine da 101 ?_|fail)
  all_goals first|(exfalso;omega)|exact Z9 (L':=H) uL ⟨rfl,rfl⟩
theorem Zi1 (hD:RwOk D M) (hM:WI M) (hR:Rd ic 1 X a ns) (hn:ns.length=2) (hcap:ns.length≤cap) (h0:0≤ns.getD 0 0) (h1:0≤ns.getD 1 0) :
  HC Tryz.prog 10 [pt D.wp 0,.agg ⟨[bs [108,101,97,100],.slice a ns.length cap]⟩] (Q3 D M::X) (fun v L'=>v=bs (if (Up M (ns.getD 0 0) (ns.getD 1 0)).2=none then (Up M (ns.getD 0 0) (ns.getD 1 0)).1 else W2 2)∧L'=Q3 D M::X):=by
 obtain ⟨b1,i1,q1,F1,f1,rfl,hb1,hg1,hg2⟩:=Zpx hR (by omega)
 have hg2:=hg2 (by omega)
 have hb1:=(Zc hb1:Has (Q3 D M::X) _ _)
 have hI:=Zgw D M X hD
 obtain ⟨an,capn,hnv,-⟩:=hI.ns
 have hw:=hI.wp
 unfold Vt at hw
 rw [hnv] at hw
 have ke:=fun H=>Vc 2 H (by decide) (by decide)
 have kL:=fun c s d h0 h1 hd=>HC.ro (V:=fun v=>v=bs (Up M s ((d:Nat):Int)).1) (H':=c::Q3 D M::X) (LS.trans lsD uL) (LS.trans (b:=(Q3 D M::c::X:Zb).flatten) uL lsD') (Zlu D M s d (c::X) hD hM h0 h1 hd)
 generalize ns.getD 0 0=s at *
 generalize ns.getD 1 0=d at *
 generalize Q3 D M::X=H at *
 by_cases hs:(M.n.length:Int)≤s∨6≤d
 ·have e:Up M s d=([],some 2):=if_pos (by omega)
  rw [e]
  simp only [reduceCtorEq,if_false]
  refine Za (fun _ _=>Tryz.call10 _ _) Tryz.func10 rfl Tryz.ntmps10 (Nat.le_of_ble_eq_true rfl) ?_;simp only [Zd,Nat.reduceAdd]
  repeat' (first|refine uN ?_|refine Z2 S ?_|refine Yp S ?_|refine uC (ke _) ?_|refine Yb (fun _=>ke _) ?_|refine Yc (fun _=>ke _) ?_|refine Yd (fun _=>ke _) ?_|refine Ye (fun _=>ke _) ?_|(refine uB ?_;intro b)|(refine uP ?_ ?_<;>(intro h;((try simp only [zs,zq,reduceCtorEq] at h);try exact zx)))|refine da 101 ?_|fail)
  all_goals first|(exfalso;omega)|exact Z9 (L':=H) uL ⟨rfl,rfl⟩
 ·obtain ⟨k,rfl⟩:=Int.eq_ofNat_of_zero_le h1
  have e:(Up M s ((k:Nat):Int)).2=none:=by
   unfold Up
   rw [if_neg (by omega)]
   split<;>rfl
  rw [e]
  simp only [if_true]
  have kL:=fun c=>kL c s k h0 (by omega) (by omega)
  generalize (Up M s ((k:Nat):Int)).1=tx at *
  refine Za (fun _ _=>Tryz.call10 _ _) Tryz.func10 rfl Tryz.ntmps10 (Nat.le_of_ble_eq_true rfl) ?_;simp only [Zd,Nat.reduceAdd]
  repeat' (first|refine uN ?_|refine Z2 S ?_|refine Yp S ?_|refine uC (kL _) ?_|refine Yb (fun _=>kL _) ?_|refine Yc (fun _=>kL _) ?_|refine Yd (fun _=>kL _) ?_|refine Ye (fun _=>kL _) ?_|(refine uB ?_;intro b)|(refine uP ?_ ?_<;>(intro h;((try simp only [zs,zq,reduceCtorEq] at h);try exact zx)))|refine da 101 ?_|fail)
  all_goals first|(exfalso;omega)|exact Z9 (L':=H) uL ⟨rfl,rfl⟩
theorem Zi0 (hD:RwOk D M) (hM:WI M) (hR:Rd ic 1 X a ns) (hn:ns.length=2) (hcap:ns.length≤cap) (h0:0≤ns.getD 0 0) (h1:0≤ns.getD 1 0) :
  HC Tryz.prog 10 [pt D.wp 0,.agg ⟨[bs [115,116,97,116,101],.slice a ns.length cap]⟩] (Q3 D M::X) (fun v L'=>v=bs (if Xz M (ns.getD 0 0) (ns.getD 1 0)=none then stT (U8 M (ns.getD 0 0) (ns.getD 1 0)) else W2 2)∧L'=Q3 D M::X):=by
 obtain ⟨b1,i1,q1,F1,f1,rfl,hb1,hg1,hg2⟩:=Zpx hR (by omega)
 have hg2:=hg2 (by omega)
 have hb1:=(Zc hb1:Has (Q3 D M::X) _ _)
 have hI:=Zgw D M X hD
 have hN:=fun s h0 h1=>(lsD.has (Zds hD.ndl (s:=s) h0 h1 X):Has (Q3 D M::X) _ _)
 have hP:=fun s h0 h1 p hp=>(lsD.has (rw_hasP hD.ndl (s:=s) h0 h1 X p hp):Has (Q3 D M::X) _ _)
 obtain ⟨an,capn,hnv,-⟩:=hI.ns
 have hw:=hI.wp
 unfold Vt at hw
 rw [hnv] at hw
 have ke:=fun H=>Vc 2 H (by decide) (by decide)
 have ho:=fun d=>Zno hM (ns.getD 0 0) d
 generalize ns.getD 0 0=s at *
 generalize ns.getD 1 0=d at *
 generalize Q3 D M::X=H at *
 by_cases hs:(M.n.length:Int)≤s∨6≤d
 ·have e:Xz M s d=some 2:=by
   unfold Xz Xs
   by_cases h:(M.n.length:Int)≤s
   ·rw [if_pos (by omega)]
   ·rw [if_neg (by omega)]
    simp only
    rw [if_pos (by omega)]
  rw [e]
  simp only [reduceCtorEq,if_false]
  refine Za (fun _ _=>Tryz.call10 _ _) Tryz.func10 rfl Tryz.ntmps10 (Nat.le_of_ble_eq_true rfl) ?_;simp only [Zd,Nat.reduceAdd]
  repeat' (first|refine uN ?_|refine Z2 S ?_|refine Yp S ?_|refine uC (ke _) ?_|refine Yb (fun _=>ke _) ?_|refine Yc (fun _=>ke _) ?_|refine Yd (fun _=>ke _) ?_|refine Ye (fun _=>ke _) ?_|(refine uB ?_;intro b)|(refine uP ?_ ?_<;>(intro h;((try simp only [zs,zq,reduceCtorEq] at h);try exact zx)))|refine da 101 ?_|fail)
  all_goals first|(exfalso;omega)|exact Z9 (L':=H) uL ⟨rfl,rfl⟩
 ·obtain ⟨k,rfl⟩:=Int.eq_ofNat_of_zero_le h1
  have e:Xz M s ((k:Nat):Int)=none:=by
   unfold Xz
   rw [Zka (by omega) (by omega)]
   simp only
   rw [if_neg (by omega)]
  have e2:U8 M s ((k:Nat):Int)=Xf (Zf M s).pl ((k:Nat):Int):=by unfold U8;rw [e]
  have ho:=ho ((k:Nat):Int)
  rw [e2] at ho
  rw [e,e2]
  simp only [if_true]
  clear e e2
  have kS2:=fun (c c2:List Zr)=>Zb5 D M s k (c::c2::H) (hI.mono fun b o hb=>Zc (Zc hb)) hD.ndl h0 (by omega) (by omega) (Wu hM h0 (by omega)).b512 (Zc (Zc (hN s h0 (by omega)))) (fun p hp=>Zc (Zc (hP s h0 (by omega) p hp)))
  have kS:=fun (c:List Zr)=>Zb5 D M s k (c::H) (hI.mono fun b o hb=>Zc hb) hD.ndl h0 (by omega) (by omega) (Wu hM h0 (by omega)).b512 (Zc (hN s h0 (by omega))) (fun p hp=>Zc (hP s h0 (by omega) p hp))
  unfold stT
  generalize Xf (Zf M s).pl ((k:Nat):Int)=s0 at *
  obtain ⟨ph,pr,att⟩:=s0
  obtain ⟨o1,o2,o3,o4,o5⟩:=ho
  simp only [sc] at *
  have kN:=fun H=>Zf5 ph o1 (by omega) H
  have kP:=fun H=>X8 pr (by omega) (by omega) H
  have kA:=fun H=>X8 att (by omega) (by omega) H
  have l1:=Zdp ph (by omega) (by omega)
  have l2:=Lib.itoa_length_le pr (by omega) (by omega)
  have l3:=Lib.itoa_length_le att (by omega) (by omega)
  refine Za (fun _ _=>Tryz.call10 _ _) Tryz.func10 rfl Tryz.ntmps10 (Nat.le_of_ble_eq_true rfl) ?_;simp only [Zd,Nat.reduceAdd]
  repeat' (first|refine uN ?_|refine Zu S ?_|(refine uB ?_;intro b)|(refine uP ?_ ?_<;>(intro h;((try simp only [zs,zq,reduceCtorEq] at h);try exact zx)))|refine da 101 ?_|fail)
  refine Zbx ?_ ?_
  ·refine gc (kS _) ?_
   rintro v L' ⟨rfl,rfl⟩
   repeat' (first|refine uN ?_|refine Zu S ?_|refine uC (kN _) ?_|refine uC (kP _) ?_|refine uC (kA _) ?_|refine Yb (fun _=>kN _) ?_|refine Yc (fun _=>kN _) ?_|refine Yd (fun _=>kN _) ?_|refine Ye (fun _=>kN _) ?_|refine Yb (fun _=>kP _) ?_|refine Yc (fun _=>kP _) ?_|refine Yd (fun _=>kP _) ?_|refine Ye (fun _=>kP _) ?_|refine Yb (fun _=>kA _) ?_|refine Yc (fun _=>kA _) ?_|refine Yd (fun _=>kA _) ?_|refine Ye (fun _=>kA _) ?_|(refine uB ?_;intro b)|(refine uP ?_ ?_<;>(intro h;((try simp only [zs,zq,reduceCtorEq] at h);try exact zx)))|refine da 101 ?_|fail)
   exact Z9 (L':=H) uL ⟨rfl,rfl⟩
  ·repeat' (first|refine uN ?_|refine Zu S ?_|(refine uB ?_;intro b)|(refine uP ?_ ?_<;>(intro h;((try simp only [zs,zq,reduceCtorEq] at h);try exact zx)))|refine da 101 ?_|fail)
   refine gc (kS2 _ _) ?_
   rintro v L' ⟨rfl,rfl⟩
   repeat' (first|refine uN ?_|refine Zu S ?_|refine uC (kN _) ?_|refine uC (kP _) ?_|refine uC (kA _) ?_|refine Yb (fun _=>kN _) ?_|refine Yc (fun _=>kN _) ?_|refine Yd (fun _=>kN _) ?_|refine Ye (fun _=>kN _) ?_|refine Yb (fun _=>kP _) ?_|refine Yc (fun _=>kP _) ?_|refine Yd (fun _=>kP _) ?_|refine Ye (fun _=>kP _) ?_|refine Yb (fun _=>kA _) ?_|refine Yc (fun _=>kA _) ?_|refine Yd (fun _=>kA _) ?_|refine Ye (fun _=>kA _) ?_|(refine uB ?_;intro b)|(refine uP ?_ ?_<;>(intro h;((try simp only [zs,zq,reduceCtorEq] at h);try exact zx)))|refine da 101 ?_|fail)
   exact Z9 (L':=H) uL ⟨rfl,rfl⟩
theorem Znq (k:Nat) (hk:k<18) (hRw:Rd ic 1 X D.aw M.w) (hD:RwOk D M) (hM:WI M) (hV:EvW M) (hl:M.l.length≤99000000) (hnum : ∀ s,Zco M s=none → ∀ k j ref,k<6→(Zf (Wg s M k).1 s).site=some (j,ref)→(j.l.getD k Zm).n+1<4294967296)
  (hR:Rd ic 1 X a ns) (hn:ns.length=(Y9 k).length) (hcap:ns.length≤cap) (hx : ∀ x∈ns,0≤x∧x≤99999) :
  HC Tryz.prog 10 [pt D.wp 0,.agg ⟨[bs (cmdT.getD k ([],[],0)).1,.slice a ns.length cap]⟩] (Q3 D M::X) (fun v L'=>v=bs (Zh3 k M ns)∧RwQ D (doW k M ns).2.2 X L'):=by
 have hg : ∀ i,0≤ns.getD i 0:=fun i=>by
  rw [List.getD_eq_getElem?_getD]
  cases he:ns[i]? with
  | none=>simp
  | some x=>exact (hx x (List.mem_of_getElem? he)).1
 by_cases h11:k<11
 ·exact Zli D M a cap ns X k h11 hRw hD hM hl hnum hR hn hcap
 have hs : ∀ {k:Nat} {t:List UInt8},Zh3 k M ns=t→(doW k M ns).2.2=M → ∀ v L',v=bs t∧L'=Q3 D M::X→v=bs (Zh3 k M ns)∧RwQ D (doW k M ns).2.2 X L':=fun h1 h2 v L' h=>by
  obtain ⟨rfl,rfl⟩:=h
  rw [h1,h2]
  exact ⟨rfl,D,.refl D,hD,rfl⟩
 have hc : ∀ (e:Option Nat) (t:List UInt8),Zz3 e→(e=none∨e=some 2)→(if cdN e=0 then t else W2 (cdN e).toNat)=if e=none then t else W2 2:=fun e t _ h=>by
  rcases h with rfl|rfl<;>rfl
 rcases (show k=11∨k=12∨k=13∨k=14∨k=15∨k=16∨k=17 by omega) with rfl|rfl|rfl|rfl|rfl|rfl|rfl
 ·exact Ziy D M a cap ns X hRw hD hM hl
 ·exact HC.mono (Ziz D M a cap ns X hD (by omega)) (hs rfl rfl)
 ·refine HC.mono (Zi0 D M a cap ns X hD hM hR hn hcap (hg 0) (hg 1)) (hs ?_ rfl)
  refine hc _ _ (Zw6 M _ _) ?_
  unfold Xz Xs
  split
  ·rename_i e he
   split at he
   ·cases he;exact .inr rfl
   ·cases he
  ·split
   ·exact .inr rfl
   ·exact .inl rfl
 ·refine HC.mono (Zi1 D M a cap ns X hD hM hR hn hcap (hg 0) (hg 1)) (hs ?_ rfl)
  refine hc _ _ (Zna M _ _) ?_
  unfold Up
  split
  ·exact .inr rfl
  ·split<;>exact .inl rfl
 ·refine HC.mono (Zi2 D M a cap ns X hD hM hR hn hcap (hg 0)) (hs ?_ rfl)
  unfold Zh3
  rw [show doW 15 M ns=(if (Zh5 M (ns.getD 0 0)).1 then [117,112] else [100,111,119,110],if (Zh5 M (ns.getD 0 0)).1 then 0 else cdN (Zh5 M (ns.getD 0 0)).2,M) from rfl]
  unfold Zh5 Xs
  split
  ·rename_i e he
   split at he
   ·cases he;rfl
   ·cases he
  ·cases (Zf M (ns.getD 0 0)).site<;>rfl
 ·exact HC.mono (Zi3 D M a cap ns X hD hM hV) (hs rfl rfl)
 ·exact HC.mono (Zi4 D M a cap ns X hD hM) (hs (by unfold Zh3 Zuv;rfl) rfl)
end
end Go.HL
end

/-! ScR -/
section
namespace Go.HL
open Go Go.Proofs
noncomputable def playL (x:Ln):List (List UInt8):=(lineM x.w x.ns).toList
theorem Zy3 (x:Ln):(playL x).length≤1:=by
 unfold playL
 cases lineM x.w x.ns<;>simp
theorem Zm3 : ∀ l:List Ln,(l.flatMap playL).length≤l.length
 | []=>by simp
 | x::l=>by
  have:=Zy3 x
  have:=Zm3 l
  simp only [List.flatMap_cons,List.length_append,List.length_cons]
  omega
def rwX (D:RwG):Option Wm→List Zr
 | none=>[]
 | some M=>Q3 D M
def Zsn (D:RwG):Option Wm→Value
 | none => .pointer none
 | some _=>pt D.wp 0
def PlyOk (D:RwG) (o:Option Wm) (L:Zb):Prop := ∀ M,o=some M→RwOk D M∧Rd ic 1 L D.aw M.w
def rw0:RwG:=⟨0,none,0,0,Ys,[],Ys,[],[],Ys,[],Ys,[],[]⟩
theorem Zqn : ∀ (l:List Ln) (o:Option Wm) (i:Nat),BndO o i→BndO (V0 o (l.flatMap playL)) (i+l.length)
 | [],o,i,h=>by simpa [V0] using h
 | x :: l,o,i,h=>by
  rw [List.flatMap_cons,Zfh]
  have h2:BndO (V0 o (playL x)) (i+1):=by
   unfold playL
   cases hs:lineM x.w x.ns with
   | none=>exact h.mono (by omega)
   | some s =>
    simp only [Option.toList_some,V0]
    by_cases hw:x.w=Xu
    ·rw [hw] at hs
     rw [Zk3 hs o]
     cases hc:Ym x.ns with
     | none=>exact .new hc _
     | some e=>exact h.mono (by omega)
    ·obtain ⟨k,hk,-,-,hx,h1,h2⟩:=Zsw hs hw
     cases o with
     | none=>rw [h2];exact fun M hM=>by cases hM
     | some M=>rw [h1 M];exact h.do k hx
  have:=Zqn l _ (i+1) h2
  rw [List.length_cons,show i+(l.length+1)=i+1+l.length by omega]
  exact this
theorem Zze (o:Option Wm) (l:List (List UInt8)) (s:List UInt8):Zan o (l++[s])=Zan o l++[(Q6 (V0 o l) s).1]∧V0 o (l++[s])=(Q6 (V0 o l) s).2:=by
 rw [Zkt,Zfh]
 exact ⟨rfl,rfl⟩
theorem cdNq_eq (e:Option Nat):cdN' e=cdN e:=by cases e<;>rfl
theorem orT_some (e:Nat):Zuv (cdN (some e))=if (e:Int)=0 then [111,107] else W2 e:=by
 unfold Zuv cdN
 simp only [Int.toNat_natCast]
set_option maxHeartbeats 2000000 attribute [local irreducible] HW HO HQ HD HC QOp Has Upd Zt Gets Z8 Z0 Zo Xm Zz Zj Xp Zy
attribute [local irreducible] Zan V0 lineM Q6 Zh3 Zuv Q3
set_option maxRecDepth 20000 in
theorem Zr5 (T:Nat) (E:Nat→Addr) (a:Option Addr) (cap:Nat) (l:List Ln) (L:Zb) (hE:Es T E L) (hS:Sz L) (hX:Et E L) (hR:Rd lnc 2 L a l) (hN:LnIn L l) (hNc : ∀ x∈l,x.ns.length≤x.cap) (hcap:l.length≤cap) :
  HC Tryz.prog 3 [.slice a l.length cap] L (fun v L'=>v = .bool true∧L'=L):=by
 have kh:=Zq4 T E L hE hS hX
 refine Za (fun _ _=>Tryz.call3 _ _) Tryz.func3 rfl Tryz.ntmps3 (Nat.le_of_ble_eq_true rfl) ?_;simp only [Zd,Nat.reduceAdd]
 repeat' (first|refine uN ?_|refine uC (kh) ?_|(refine uB ?_;intro b)|(refine uP ?_ ?_<;>(intro h;((try simp only [zs,zq,reduceCtorEq] at h);try exact zx)))|fail)
 ·exact Z9 (LS.refl _) ⟨rfl,rfl⟩
 have hr0:Zan none []=[]:=by unfold Zan;rfl
 have he0:V0 none []=none:=by unfold V0;rfl
 refine W6 (L':=[]::[]::rwX rw0 none::L) ?_ (LS.refl _)
 refine Zp (σ:=Nat × (Value × List Zr) × (Value × List Zr) × RwG) (fun r=>[(0,.slice a l.length cap),(3,.bool true),(4,r.2.1.1),(5,r.2.2.1.1),(6,Zsn r.2.2.2 (V0 none ((l.take r.1).flatMap playL))),(7,iv r.1)])
  (fun r=>r.2.1.2::r.2.2.1.2::rwX r.2.2.2 (V0 none ((l.take r.1).flatMap playL))::L)
  (fun r=>r.1≤l.length∧Vec 9 1 Zab r.2.1.1 ((l.take r.1).flatMap playL) r.2.1.2∧Vec 9 1 Zab r.2.2.1.1 (Zan none ((l.take r.1).flatMap playL)) r.2.2.1.2∧PlyOk r.2.2.2 (V0 none ((l.take r.1).flatMap playL)) L∧(∀ s∈(l.take r.1).flatMap playL,s.length≤1000))
  (fun r=>l.length-r.1) (0,(Ys,[]),(Ys,[]),rw0) (by simp only [List.take_zero,List.flatMap_nil,he0,Zsn];exact uS) (by simp only [List.take_zero,List.flatMap_nil,he0];exact List.Sublist.refl _) ⟨by simp,Zv,by simp only [List.take_zero,List.flatMap_nil,hr0];exact Zv,by simp only [List.take_zero,List.flatMap_nil,he0];exact fun M hM=>(by cases hM),by simp⟩ ?_
 rintro ⟨i,⟨u,c⟩,⟨v,d⟩,D⟩ ⟨hi,hu,hv,hP,hsl⟩
 simp only at hi hu hv hP hsl ⊢
 obtain ⟨a5,cap5,rfl,hcap5,hR5⟩:=hu.rd Xo
 obtain ⟨a6,cap6,rfl,hcap6,hR6⟩:=hv.rd Xo
 have hal:=Zm3 (l.take i)
 rw [List.length_take] at hal
 have hB:=Zqn (l.take i) none 0 (fun M hM=>(by cases hM))
 rw [List.length_take,Nat.zero_add] at hB
 have hrl:=Zku none ((l.take i).flatMap playL)
 by_cases hit:i<l.length
 ·obtain ⟨b1,bi,q,F,fr,rfl,hb,hg⟩:=hR.at (j:=(i:Int)) (by omega) (by omega)
  have eg:l[(i:Int).toNat]'(by omega)=l[i]:=rfl
  rw [eg] at hg
  have hRx:=hN l[i] (List.getElem_mem _)
  have hxc:=hNc l[i] (List.getElem_mem _)
  have et:(l.take (i+1)).flatMap playL=(l.take i).flatMap playL++playL l[i]:=by rw [Ql hit,List.flatMap_append];simp
  generalize l[i]=x at *
  obtain ⟨w,xa,xc,ns⟩:=x
  unfold lnc at hg
  simp only at hg hRx hxc
  by_cases hbig:12<ns.length∨60<w.length
  ·generalize rwX D (V0 none ((l.take i).flatMap playL))=W0 at *
   repeat' (first|refine uN ?_|(refine uB ?_;intro b)|(refine uP ?_ ?_<;>(intro h;((try simp only [zs,zq,reduceCtorEq] at h);try exact zx)))|fail)
   all_goals first
    | exact Z9 (L':=L) uL ⟨rfl,rfl⟩
    | (exfalso;omega)
  ·have e0:playL ⟨w,xa,xc,ns⟩=(lineM w ns).toList:=rfl
   rw [e0] at et
   have kl:=fun A B C=>Zop w xa xc ns (A::B::C::L) (((hRx.cons C).cons B).cons A) (by omega) (by omega)
   have h1 : ¬ (12:Int)<ns.length:=by omega
   have h2 : ¬ (60:Int)<w.length:=by omega
   cases hlm:lineM w ns with
   | none =>
    rw [hlm] at kl et
    simp only [Option.toList_none,List.append_nil] at et
    simp only [Option.getD_none,Option.isSome_none] at kl
    rw [← et] at hu hv hP hsl
    repeat' (first|refine uN ?_|refine uC (kl _ _ _) ?_|(refine uB ?_;intro b)|(refine uP ?_ ?_<;>(intro h;((try simp only [zs,zq,reduceCtorEq] at h);try exact zx)))|fail)
    exact Zg (i+1,(.slice a5 _ cap5,c),(.slice a6 _ cap6,d),D) (by simp only [et];exact uS) (by simp only [et];exact LS.refl _) ⟨hit,hu,hv,hP,hsl⟩ (by simp only;omega)
   | some s =>
    have hslen:=Zyl hlm (by omega) (by omega)
    rw [hlm] at kl et
    simp only [Option.toList_some] at et
    simp only [Option.getD_some,Option.isSome_some] at kl
    obtain ⟨er,ee⟩:=Zze none ((l.take i).flatMap playL) s
    rw [← et] at er ee
    generalize hX1:(l.take (i+1)).flatMap playL=X1 at *
    generalize (l.take i).flatMap playL=X0 at *
    generalize V0 none X0=o at *
    generalize Zan none X0=rs at *
    subst et
    have hsl2 : ∀ y∈X0++[s],y.length≤1000:=fun y hy=>by
     rcases List.mem_append.1 hy with h|h
     ·exact hsl y h
     ·rw [List.mem_singleton.1 h];exact hslen
    by_cases hw:w=Xu
    ·subst hw
     have hst:=Zk3 hlm o
     rw [hst] at er ee
     clear hst
     have kwe:=fun A B C E=>Ze8 xa xc ns (A::B::C::E::L) ((((hRx.cons E).cons C).cons B).cons A)
     simp only [cdNq_eq] at kwe
     have kO:=fun H=>Zey (cdN (Ym ns)) H (Zib (Zeo ns)).1 (Zib (Zeo ns)).2
     unfold Xu at *
     cases hc:Ym ns with
     | none =>
      rw [hc] at er ee kwe kO
      simp only at er ee
      have kn:=fun H=>Zh7 ns xa xc H (Vn hc).2.1
      repeat' (first|refine uN ?_|refine uC (kl _ _ _) ?_|(refine uB ?_;intro b)|(refine uP ?_ ?_<;>(intro h;((try simp only [zs,zq,reduceCtorEq] at h);try exact zx)))|fail)
      refine fo 1 ?_
      refine Zce S s hu Xo U7 ?_ (hby:=by omega) (hmax:=by omega)
      intro u' c' hu'
      repeat' (first|refine uN ?_|refine uC (kwe _ _ _ _) ?_|(refine uB ?_;intro b)|(refine uP ?_ ?_<;>(intro h;((try simp only [zs,zq,reduceCtorEq] at h);try exact zx)))|fail)
      refine gc (kn _) ?_
      rintro v2 L2 ⟨Ga,rfl,ha1,ha2,hGa,rfl⟩
      refine Q5 (L':=Q3 Ga (Ve ns)::c'::d::L) ?_ (LS.trans (b:=(Q3 Ga (Ve ns)::c'::_::d::rwX D o::L:Zb).flatten) uL lsD')
      repeat' (first|refine uN ?_|refine uC (kO _) ?_|(refine uB ?_;intro b)|(refine uP ?_ ?_<;>(intro h;((try simp only [zs,zq,reduceCtorEq] at h);try exact zx)))|fail)
      refine fo 3 ?_
      refine Zce S (Zuv (cdN none)) hv Xo U7 ?_ (hby:=by omega) (hmax:=by omega)
      intro v' d' hv'
      rw [show Zuv (cdN none)=[111,107] by unfold Zuv;rfl] at hv'
      repeat' (first|refine uN ?_|refine uC (kO _) ?_|(refine uB ?_;intro b)|(refine uP ?_ ?_<;>(intro h;((try simp only [zs,zq,reduceCtorEq] at h);try exact zx)))|fail)
      exact Zg (i+1,(u',c'),(v',d'),Ga) (by simp only [hX1,ee,Zsn];exact uS) (by simp only [hX1,ee,rwX];exact uL) ⟨hit,by simp only [hX1];exact hu',by simp only [hX1,er];exact hv',by simp only [hX1,ee];exact fun M hM=>(by cases hM;exact ⟨hGa,by rw [ha1];exact hRx⟩),by simp only [hX1];exact hsl2⟩ (by simp only;omega)
     | some e =>
      rw [hc] at er ee kwe kO
      simp only at er ee
      rw [← orT_some] at er
      have hpos:=okE_pos (hc▸Zeo ns)
      have he0 : ¬ cdN (some e)=0:=by
       show ¬ (e:Int)=0
       omega
      generalize cdN (some e)=z at *
      repeat' (first|refine uN ?_|refine uC (kl _ _ _) ?_|(refine uB ?_;intro b)|(refine uP ?_ ?_<;>(intro h;((try simp only [zs,zq,reduceCtorEq] at h);try exact zx)))|fail)
      refine fo 1 ?_
      refine Zce S s hu Xo U7 ?_ (hby:=by omega) (hmax:=by omega)
      intro u' c' hu'
      repeat' (first|refine uN ?_|refine uC (kwe _ _ _ _) ?_|refine uC (kO _) ?_|(refine uB ?_;intro b)|(refine uP ?_ ?_<;>(intro h;((try simp only [zs,zq,reduceCtorEq] at h);try exact zx)))|fail)
      refine fo 3 ?_
      refine Zce S (Zuv z) hv Xo U7 ?_ (hby:=by omega) (hmax:=by omega)
      intro v' d' hv'
      repeat' (first|refine uN ?_|refine uC (kO _) ?_|(refine uB ?_;intro b)|(refine uP ?_ ?_<;>(intro h;((try simp only [zs,zq,reduceCtorEq] at h);try exact zx)))|fail)
      exact Zg (i+1,(u',c'),(v',d'),D) (by simp only [hX1,ee];exact uS) (by simp only [hX1,ee];exact uL) ⟨hit,by simp only [hX1];exact hu',by simp only [hX1,er];exact hv',by simp only [hX1,ee];exact hP,by simp only [hX1];exact hsl2⟩ (by simp only;omega)
    ·obtain ⟨k,hk,hwk,hnk,hx,hs1,hs0⟩:=Zsw hlm hw
     have hn2 : ¬ w=[115,105,116,101,115]:=hw
     cases o with
     | none =>
      rw [hs0] at er ee
      simp only [Zsn,rwX] at er ee kl ⊢
      have ke:=fun H=>Vc 4 H (by decide) (by decide)
      repeat' (first|refine uN ?_|refine uC (kl _ _ _) ?_|(refine uB ?_;intro b)|(refine uP ?_ ?_<;>(intro h;((try simp only [zs,zq,reduceCtorEq] at h);try exact zx)))|fail)
      refine fo 1 ?_
      refine Zce S s hu Xo U7 ?_ (hby:=by omega) (hmax:=by omega)
      intro u' c' hu'
      repeat' (first|refine uN ?_|refine uC (ke _) ?_|(refine uB ?_;intro b)|(refine uP ?_ ?_<;>(intro h;((try simp only [zs,zq,reduceCtorEq] at h);try exact zx)))|fail)
      refine fo 3 ?_
      refine Zce S (W2 4) hv Xo U7 ?_ (hby:=by omega) (hmax:=by omega)
      intro v' d' hv'
      repeat' (first|refine uN ?_|refine uC (ke _) ?_|(refine uB ?_;intro b)|(refine uP ?_ ?_<;>(intro h;((try simp only [zs,zq,reduceCtorEq] at h);try exact zx)))|fail)
      exact Zg (i+1,(u',c'),(v',d'),D) (by simp only [hX1,ee,Zsn];exact uS) (by simp only [hX1,ee,rwX];exact uL) ⟨hit,by simp only [hX1];exact hu',by simp only [hX1,er];exact hv',by simp only [hX1,ee];exact hP,by simp only [hX1];exact hsl2⟩ (by simp only;omega)
     | some M =>
      rw [hs1 M] at er ee
      obtain ⟨hD,hRw⟩:=hP M rfl
      obtain ⟨hM,hV,hl,hBn⟩:=hB M rfl
      have ka:=fun A B C=>Znq D M xa xc ns (A::B::C::L) k hk (((hRw.cons C).cons B).cons A) hD hM hV (by omega) (fun s hu k j ref hk hsi=>num_of hBn hM (by omega) s hu k j ref hk hsi) (((hRx.cons C).cons B).cons A) hnk hxc hx
      rw [← hwk] at ka
      simp only [Zsn,rwX] at er ee kl ⊢
      repeat' (first|refine uN ?_|refine uC (kl _ _ _) ?_|(refine uB ?_;intro b)|(refine uP ?_ ?_<;>(intro h;((try simp only [zs,zq,reduceCtorEq] at h);try exact zx)))|fail)
      refine fo 1 ?_
      refine Zce S s hu Xo U7 ?_ (hby:=by omega) (hmax:=by omega)
      intro u' c' hu'
      repeat' (first|refine uN ?_|(refine uB ?_;intro b)|(refine uP ?_ ?_<;>(intro h;((try simp only [zs,zq,reduceCtorEq] at h);try exact zx)))|fail)
      refine fo 3 ?_
      refine gc (ka _ _ _) ?_
      rintro v2 L2 ⟨rfl,D2,f1,hD2,rfl⟩
      repeat' (first|refine uN ?_|(refine uB ?_;intro b)|(refine uP ?_ ?_<;>(intro h;((try simp only [zs,zq,reduceCtorEq] at h);try exact zx)))|fail)
      refine fo 4 ?_
      refine Zce S (Zh3 k M ns) hv Xo U7 ?_ (hby:=by omega) (hmax:=by omega)
      intro v' d' hv'
      repeat' (first|refine uN ?_|(refine uB ?_;intro b)|(refine uP ?_ ?_<;>(intro h;((try simp only [zs,zq,reduceCtorEq] at h);try exact zx)))|fail)
      exact Zg (i+1,(u',c'),(v',d'),D2) (by simp only [hX1,ee,Zsn,f1.wp];exact uS) (by simp only [hX1,ee,rwX];exact uL) ⟨hit,by simp only [hX1];exact hu',by simp only [hX1,er];exact hv',by simp only [hX1,ee];exact fun M2 hM2=>(by cases hM2;exact ⟨hD2,by rw [f1.aw,((Ztz hM hV k ns (Zob hx)).1).same.w];exact hRw⟩),by simp only [hX1];exact hsl2⟩ (by simp only;omega)
 ·obtain rfl:i=l.length:=by omega
  rw [List.take_length] at *
  generalize l.flatMap playL=X0 at *
  generalize rwX D (V0 none X0)=W0 at *
  generalize Zsn D (V0 none X0)=z0 at *
  have kr:=Zkv T E a5 cap5 X0 (c::d::W0::L) (((hE.cons _).cons _).cons _) (((hS.cons _).cons _).cons _) (((hX.cons _).cons _).cons _) (hR5 _) hcap5 (by omega) (fun y hy=>by have:=hsl y hy;omega)
  simp only [if_neg (show ¬ 100<X0.length by omega)] at kr
  generalize Zan none X0=rs at *
  repeat' (first|refine uN ?_|(refine uB ?_;intro b)|(refine uP ?_ ?_<;>(intro h;((try simp only [zs,zq,reduceCtorEq] at h);try exact zx)))|fail)
  refine gc kr ?_
  rintro v2 L2 ⟨co,u2,rfl,ho,rfl⟩
  obtain ⟨a7,cap7,rfl,hcap7,hR7⟩:=ho.rd Xo
  have ks:=Zch a7 a6 cap7 cap6 rs rs (co::c::d::W0::L) (hR7 _) (((hR6 (W0::L)).cons c).cons co) (by omega)
  simp only [decide_true] at ks
  repeat' (first|refine uN ?_|refine uC (ks) ?_|(refine uB ?_;intro b)|(refine uP ?_ ?_<;>(intro h;((try simp only [zs,zq,reduceCtorEq] at h);try exact zx)))|fail)
  all_goals exact Z9 (L':=L) uL ⟨rfl,rfl⟩
end Go.HL
end

