/- Texts laid into one, without what the claim does not use. Conditions: none. -/
import Derived.Test.YtkookaogdkdegacGreatDoorMSaC
set_option linter.unusedVariables false
set_option linter.unusedSimpArgs false
/-! PlA -/
section
namespace Go.HL
open Go Go.Proofs

structure Pl where
 b:List UInt8
 off:Bool
 cut:Int
def Yo (bp ba:Nat) (m:Pl):List Zm:=[(bp,.cells ⟨[sl ba 0 m.b.length m.b.length,.bool m.off,iv m.cut]⟩ 181),(ba,.cells ⟨m.b.map u8⟩ 5)]
def Z4 (n:Nat):List UInt8:=List.replicate n 0
def Zlt (n:Int):Option Pl:=if 0≤n∧n≤512 then some ⟨Z4 n.toNat,false,-1⟩ else none
theorem Zmj (n:Nat):(Z4 n).map u8=List.replicate n (.int .u8 0):=by simp [Z4,u8]
theorem Zl8 (bp ba:Nat) (m:Pl) (L:Zb):Rd uc 1 (Yo bp ba m::L) (some ⟨ba,0,none⟩) m.b:=by
 refine .inr ⟨ba,0,m.b.map u8,5,(0,0),rfl,Xq Zh,fun k x hx=>?_⟩
 have:=Wa (enc:=uc) (sz:=1) (fun _=>rfl) m.b [] [] k x hx
 simpa [Zp8] using this
def Vv (m:Pl) (at_ n:Int):Option Nat:=if at_<0∨n<0∨at_ > m.b.length∨n > m.b.length-at_ then some 2 else if m.off then some 6 else none
set_option maxHeartbeats 2000000 attribute [local irreducible] HW HO HQ HD HC QOp Has Upd Zo Gets Ye Z6 Zq X0 Z5 Zj X7 Zw
theorem Zhw (T:Nat) (E:Nat→Addr) (n:Int) (L:Zb) (hG:Er T E [2] L):HC Tryz.prog 64 [iv n] L (fun v L'=>match Zlt n with
  | some m => ∃ bp ba,v = .tuple ⟨[pt bp 0,.nilIface]⟩∧L'=Yo bp ba m::L
  | none=>v = .tuple ⟨[.pointer none,eV T E (some 2)]⟩∧L'=L):=by
 refine Za (fun _ _=>Tryz.call64 _ _) Tryz.func64 rfl Tryz.ntmps64 (Nat.le_of_ble_eq_true rfl) ?_;simp only [Ze,Nat.reduceAdd]
 repeat' (first|refine uN ?_|refine Yd S ?_|(refine uB ?_;intro b)|(refine uP ?_ ?_<;>(intro h;((try simp only [zs,zq,reduceCtorEq] at h);try exact zx)))|fail)
 ·refine X5 rfl rfl rfl (List.Sublist.refl _) ?_
  rw [show Zlt n=none from if_neg (by omega)]
  exact ⟨rfl,rfl⟩
 ·refine X5 rfl rfl rfl (List.Sublist.refl _) ?_
  rw [show Zlt n=none from if_neg (by omega)]
  exact ⟨rfl,rfl⟩
 ·rename_i b1
  refine Zbj (L':=Yo b b1 ⟨Z4 n.toNat,false,-1⟩::L) ?_ ?_
  ·simp [Yo,Zmj]
   simp [Z4]
  ·rw [show Zlt n=some ⟨Z4 n.toNat,false,-1⟩ from if_pos (by omega)]
   exact ⟨_,_,rfl,rfl⟩
theorem Zfq (T:Nat) (E:Nat→Addr) (bp ba:Nat) (m:Pl) (at_ n:Int) (L:Zb) (hG:Er T E [2,6] L) (hl:m.b.length≤1000000):HC Tryz.prog 251 [pt bp 0,iv at_,iv n] (Yo bp ba m::L) (fun v L'=>v=eV T E (Vv m at_ n)∧L'=Yo bp ba m::L):=by
 have hG':=hG.cons (Yo bp ba m)
 refine Za (fun _ _=>Tryz.call251 _ _) Tryz.func251 rfl Tryz.ntmps251 (Nat.le_of_ble_eq_true rfl) ?_;simp only [Ze,Nat.reduceAdd]
 unfold Vv
 repeat' (first|refine uN ?_|(refine uP ?_ ?_<;>(intro h;((try simp only [zs,zq,reduceCtorEq] at h);try exact zx)))|fail)
 all_goals (refine Yr rfl rfl ?_ ⟨?_,rfl⟩;(next=>(repeat (first|exact List.Sublist.refl _|apply List.Sublist.cons))))
 all_goals first|(rw [if_pos (by omega)];rfl)|(rw [if_neg (by omega),if_pos (by assumption)];rfl)|(rw [if_neg (by omega),if_neg (by simp_all)];rfl)
theorem Zdr (bp ba:Nat) (m:Pl) (L:Zb):HC Tryz.prog 123 [pt bp 0] (Yo bp ba m::L) (fun v L'=>v=bs m.b∧L'=Yo bp ba m::L):=by
 have hR:=Zl8 bp ba m L
 refine Za (fun _ _=>Tryz.call123 _ _) Tryz.func123 rfl Tryz.ntmps123 (Nat.le_of_ble_eq_true rfl) ?_;simp only [Ze,Nat.reduceAdd]
 repeat' (first|refine uN ?_)
 (refine Yr rfl rfl ?_ ⟨?_,rfl⟩;(next=>(repeat (first|exact List.Sublist.refl _|apply List.Sublist.cons))))
 rfl
theorem Zd4 (bp ba:Nat) (m:Pl) (L:Zb):HC Tryz.prog 135 [pt bp 0] (Yo bp ba m::L) (fun v L'=>v = .bool (!m.off)∧L'=Yo bp ba m::L):=by
 refine Za (fun _ _=>Tryz.call135 _ _) Tryz.func135 rfl Tryz.ntmps135 (Nat.le_of_ble_eq_true rfl) ?_;simp only [Ze,Nat.reduceAdd]
 repeat' (first|refine uN ?_)
 all_goals (refine Yr rfl rfl ?_ ⟨?_,rfl⟩;(next=>(repeat (first|exact List.Sublist.refl _|apply List.Sublist.cons))))
 all_goals rfl
def X4 (b:List UInt8) (at_:Nat) (s:List UInt8):List UInt8:=b.take at_++s++b.drop (at_+s.length)
theorem Zgh {b:List UInt8} {at_:Nat} {s:List UInt8} (h:at_+s.length≤b.length):(X4 b at_ s).length=b.length:=by
 simp [X4];omega
theorem Zb4 (b:List UInt8) (at_:Nat):X4 b at_ []=b:=by simp [X4]
theorem Zmg {b:List UInt8} {at_:Nat} {s:List UInt8} {x:UInt8} (h:at_+s.length<b.length):X4 b at_ (s++[x])=(X4 b at_ s).set (at_+s.length) x:=by
 have h1:(b.take at_++s).length=at_+s.length:=by simp;omega
 have h2:b.drop (at_+s.length)=b[at_+s.length]::b.drop (at_+s.length+1):=List.drop_eq_getElem_cons h
 simp only [X4,List.length_append,List.length_cons,List.length_nil,Nat.zero_add]
 rw [h2,List.set_append_right _ _ (by omega),h1,Nat.sub_self,List.set_cons_zero]
 simp [Nat.add_assoc]
def Up (m:Pl) (at_ n:Int):List UInt8 × Option Nat:=match Vv m at_ n with
 | some e=>([],some e)
 | none=>((m.b.drop at_.toNat).take n.toNat,none)
def kM (m:Pl) (n:Nat):Nat:=if m.cut = -1 then n else min n m.cut.toNat
def Zdm (m:Pl) (at_:Nat) (s:List UInt8):Pl × Option Nat:=
 (⟨X4 m.b at_ (s.take (kM m s.length)),m.off || decide (kM m s.length<s.length),if m.cut = -1 then -1 else m.cut-kM m s.length⟩,if kM m s.length<s.length then some 6 else none)
def Xd (m:Pl) (at_:Int) (s:List UInt8):Pl × Option Nat:=match Vv m at_ s.length with
 | some e=>(m,some e)
 | none=>Zdm m at_.toNat s
theorem Zgb (T:Nat) (E:Nat→Addr) (bp ba:Nat) (m:Pl) (at_ n:Int) (L:Zb) (hG:Er T E [2,6] L) (hl:m.b.length≤1000000):HC Tryz.prog 176 [pt bp 0,iv at_,iv n] (Yo bp ba m::L) (fun v L'=>v = .tuple ⟨[bs (Up m at_ n).1,eV T E (Up m at_ n).2]⟩∧L'=Yo bp ba m::L):=by
 have hR:=Zl8 bp ba m L
 have hk:=Zfq T E bp ba m at_ n L hG hl
 refine Za (fun _ _=>Tryz.call176 _ _) Tryz.func176 rfl Tryz.ntmps176 (Nat.le_of_ble_eq_true rfl) ?_;simp only [Ze,Nat.reduceAdd]
 unfold Up
 cases hm:Vv m at_ n with
 | some e =>
  rw [hm] at hk
  repeat' (first|refine uN ?_|refine uC (hk) ?_|(refine uP ?_ ?_<;>(intro h;((try simp only [zs,zq,reduceCtorEq] at h);try exact zx)))|fail)
  (refine X5 rfl rfl rfl ?_ ⟨?_,rfl⟩;(next=>(repeat (first|exact List.Sublist.refl _|apply List.Sublist.cons))))
  rfl
 | none =>
  rw [hm] at hk
  have h0:0≤at_∧0≤n∧at_+n≤m.b.length:=by
   unfold Vv at hm
   split at hm
   ·cases hm
   ·omega
  repeat' (first|refine uN ?_|refine uC (hk) ?_|(refine uP ?_ ?_<;>(intro h;((try simp only [zs,zq,reduceCtorEq] at h);try exact zx)))|fail)
  refine Vb (qtx S (l:=(m.b.drop at_.toNat).take n.toNat) (Rd.take (hR.drop (Nat.le_refl _))) ?_) ?_
  ·simp;omega
  repeat' (first|refine uN ?_|(refine uP ?_ ?_<;>(intro h;((try simp only [zs,zq,reduceCtorEq] at h);try exact zx)))|fail)
  (refine X5 rfl rfl rfl ?_ ⟨?_,rfl⟩;(next=>(repeat (first|exact List.Sublist.refl _|apply List.Sublist.cons))))
  rfl
theorem Zqy (T:Nat) (E:Nat→Addr) (bp ba:Nat) (m:Pl) (n:Int) (L:Zb) (hG:Er T E [2,6] L):HC Tryz.prog 153 [pt bp 0,iv n] (Yo bp ba m::L)
  (fun v L'=>if n<0 then v=eV T E (some 2)∧L'=Yo bp ba m::L else if m.off then v=eV T E (some 6)∧L'=Yo bp ba m::L else v = .nilIface∧L'=Yo bp ba { m with cut:=n }::L):=by
 have hG':=hG.cons (Yo bp ba m)
 refine Za (fun _ _=>Tryz.call153 _ _) Tryz.func153 rfl Tryz.ntmps153 (Nat.le_of_ble_eq_true rfl) ?_;simp only [Ze,Nat.reduceAdd]
 repeat' (first|refine uN ?_|(refine uP ?_ ?_<;>(intro h;((try simp only [zs,zq,reduceCtorEq] at h);try exact zx)))|fail)
 ·refine Uu (L':=Yo bp ba m::L) rfl ?_
  simp [h,eV]
 ·rename_i h1
  refine Uu (L':=Yo bp ba m::L) rfl ?_
  simp [h,h1,eV]
 ·rename_i h1
  refine Uu (L':=Yo bp ba { m with cut:=n }::L) rfl ?_
  simp [h,h1]
theorem on_calls (bp ba:Nat) (m:Pl) (L:Zb):HC Tryz.prog 100 [pt bp 0] (Yo bp ba m::L) (fun v L'=>v = .tuple #[]∧L'=Yo bp ba { m with off:=false,cut := -1 }::L):=by
 refine Za (fun _ _=>Tryz.call100 _ _) Tryz.func100 rfl Tryz.ntmps100 (Nat.le_of_ble_eq_true rfl) ?_;simp only [Ze,Nat.reduceAdd]
 repeat' (first|refine uN ?_)
 exact ee0 rfl ⟨rfl,rfl⟩
theorem Zrx (bp ba:Nat) (m:Pl) (L:Zb):HC Tryz.prog 98 [pt bp 0] (Yo bp ba m::L) (fun v L'=>v = .tuple #[]∧L'=Yo bp ba { m with off:=true }::L):=by
 refine Za (fun _ _=>Tryz.call98 _ _) Tryz.func98 rfl Tryz.ntmps98 (Nat.le_of_ble_eq_true rfl) ?_;simp only [Ze,Nat.reduceAdd]
 repeat' (first|refine uN ?_)
 exact ee0 rfl ⟨rfl,rfl⟩
theorem Zng (T:Nat) (E:Nat→Addr) (s:List UInt8) (L:Zb) (hG:Er T E [2] L) (hl:s.length≤1000000):HC Tryz.prog 122 [bs s] L (fun v L'=>if s.length≤512
  then ∃ bp ba,v = .tuple ⟨[pt bp 0,.nilIface]⟩∧L'=Yo bp ba ⟨s,false,-1⟩::L else v = .tuple ⟨[.pointer none,eV T E (some 2)]⟩∧L'=L):=by
 have hk:=Zhw T E s.length L hG
 by_cases h:s.length≤512
 ·rw [show Zlt s.length=some ⟨Z4 s.length,false,-1⟩ from by unfold Zlt;rw [if_pos (by omega)];simp] at hk
  simp only [if_pos h]
  refine Za (fun _ _=>Tryz.call122 _ _) Tryz.func122 rfl Tryz.ntmps122 (Nat.le_of_ble_eq_true rfl) ?_;simp only [Ze,Nat.reduceAdd]
  repeat' (first|refine uN ?_|(refine uP ?_ ?_<;>(intro h;((try simp only [zs,zq,reduceCtorEq] at h);try exact zx)))|fail)
  refine gc hk ?_
  rintro v L' ⟨bp,ba,rfl,rfl⟩
  repeat' (first|refine uN ?_|(refine uP ?_ ?_<;>(intro h;((try simp only [zs,zq,reduceCtorEq] at h);try exact zx)))|fail)
  refine wcs S (l':=s.map u8) (i:=0) ?_ ?_
  ·repeat' (first|refine uN ?_|(refine uP ?_ ?_<;>(intro h;((try simp only [zs,zq,reduceCtorEq] at h);try exact zx)))|fail)
   refine Zbj (L':=Yo bp ba ⟨s,false,-1⟩::L) ?_ ⟨bp,ba,rfl,rfl⟩
   simp [Yo,Z4]
  ·have e:s.take (Nat.min s.length (Z4 s.length).length)=s:=by simp [Z4]
   rw [e]
   exact Zf4 (by simp [Z4])
 ·rw [show Zlt s.length=none from if_neg (by omega)] at hk
  simp only [if_neg h]
  refine Za (fun _ _=>Tryz.call122 _ _) Tryz.func122 rfl Tryz.ntmps122 (Nat.le_of_ble_eq_true rfl) ?_;simp only [Ze,Nat.reduceAdd]
  repeat' (first|refine uN ?_|(refine uP ?_ ?_<;>(intro h;((try simp only [zs,zq,reduceCtorEq] at h);try exact zx)))|fail)
  refine gc hk ?_
  rintro v L' ⟨rfl,rfl⟩
  repeat' (first|refine uN ?_|(refine uP ?_ ?_<;>(intro h;((try simp only [zs,zq,reduceCtorEq] at h);try exact zx)))|fail)
  exact Zbj rfl ⟨rfl,rfl⟩
end Go.HL
end

/-! PlB -/
section
namespace Go.HL
open Go Go.Proofs

def Vc (m:Pl) (a:Nat) (s:List UInt8) (i:Nat):Pl:=⟨X4 m.b a (s.take i),false,if m.cut = -1 then -1 else m.cut-i⟩
theorem Zsm {m:Pl} {a:Nat} {s:List UInt8} {i:Nat} (ha:a+s.length≤m.b.length) (hi:i<s.length):(Vc m a s (i+1)).b=(Vc m a s i).b.set (a+i) (s.getD i 0):=by
 show X4 m.b a (s.take (i+1))=(X4 m.b a (s.take i)).set (a+i) (s.getD i 0)
 rw [List.take_succ_eq_append_getElem hi,Zmg (by simp;omega)]
 simp [List.getD,hi,Nat.min_eq_left (Nat.le_of_lt hi)]
theorem Zgs {m:Pl} {a:Nat} {s:List UInt8} {i:Nat} (ha:a+s.length≤m.b.length):(Vc m a s i).b.length=m.b.length:=Zgh (by simp;omega)
set_option maxHeartbeats 2000000 attribute [local irreducible] HW HO HQ HD HC QOp Has Upd Zo Gets Ye Z6 Zq X0 Z5 Zj X7 Zw
theorem Zas (T:Nat) (E:Nat→Addr) (bp ba:Nat) (m:Pl) (at_:Int) (s:List UInt8) (L:Zb) (hG:Er T E [2,6] L) (hl:m.b.length≤1000000) (hs:s.length≤1000000) (hc : -1≤m.cut∧m.cut≤9223372036854775807) :
  HC Tryz.prog 287 [pt bp 0,iv at_,bs s] (Yo bp ba m::L) (fun v L'=>v=eV T E (Xd m at_ s).2∧L'=Yo bp ba (Xd m at_ s).1::L):=by
 have hk:=Zfq T E bp ba m at_ s.length L hG hl
 have hG' : ∀ m',Er T E [2,6] (Yo bp ba m'::L):=fun m'=>hG.cons _
 refine Za (fun _ _=>Tryz.call287 _ _) Tryz.func287 rfl Tryz.ntmps287 (Nat.le_of_ble_eq_true rfl) ?_;simp only [Ze,Nat.reduceAdd]
 unfold Xd
 cases hm:Vv m at_ s.length with
 | some e =>
  rw [hm] at hk
  repeat' (first|refine uN ?_|refine Yd S ?_|refine Yu S ?_|refine uC (hk) ?_|refine Yy (fun _=>hk) ?_|refine Yz (fun _=>hk) ?_|refine Y0 (fun _=>hk) ?_|refine Y1 (fun _=>hk) ?_|refine dg S 100 (fun _ _=>?_)|(refine uP ?_ ?_<;>(intro h;((try simp only [zs,zq,reduceCtorEq] at h);try exact zx)))|refine da 101 ?_|fail)
  exact Uu rfl ⟨rfl,rfl⟩
 | none =>
  rw [hm] at hk
  have h0:0≤at_∧at_+s.length≤m.b.length∧m.off=false:=by
   unfold Vv at hm
   split at hm
   ·cases hm
   ·split at hm
    ·cases hm
    ·exact ⟨by omega,by omega,by simp_all⟩
  obtain ⟨a,rfl⟩:=Int.eq_ofNat_of_zero_le h0.1
  obtain ⟨-,h1,hoff⟩:=h0
  have h2:a+s.length≤m.b.length:=by omega
  clear hm
  repeat' (first|refine uN ?_|refine Yd S ?_|refine Yu S ?_|refine uC (hk) ?_|refine Yy (fun _=>hk) ?_|refine Yz (fun _=>hk) ?_|refine Y0 (fun _=>hk) ?_|refine Y1 (fun _=>hk) ?_|refine dg S 100 (fun _ _=>?_)|(refine uP ?_ ?_<;>(intro h;((try simp only [zs,zq,reduceCtorEq] at h);try exact zx)))|refine da 101 ?_|fail)
  have hst:Yo bp ba m=Yo bp ba (Vc m a s 0):=by
   obtain ⟨mb,mo,mc⟩:=m
   simp only at hoff
   subst hoff
   simp only [Vc,List.take_zero,Zb4]
   by_cases h:mc = -1<;>simp [h,Yo]
  rw [hst]
  refine Zz (σ:=Nat) (fun i=>[(0,pt bp 0),(1,iv a),(2,bs s),(18,iv s.length),(19,iv i)]) (fun i=>Yo bp ba (Vc m a s i)::L) (fun i=>i≤s.length∧(m.cut = -1∨(i:Int)≤m.cut)) (fun i=>s.length-i) 0 uS (List.Sublist.refl _) ⟨by omega,by omega⟩ ?_
  rintro i ⟨i1,i2⟩
  have hG2:=hG' (Vc m a s i)
  have hlen:=Zgs (i:=i) h2
  have hcut:(m.cut = -1∧(Vc m a s i).cut = -1)∨(m.cut ≠ -1∧(Vc m a s i).cut=m.cut-i):=by
   unfold Vc
   by_cases h:m.cut = -1
   ·exact .inl ⟨h,by simp [h]⟩
   ·exact .inr ⟨h,by simp [h]⟩
  by_cases hlt:i<s.length
  ·have hP:Zo ((Vc m a s i).b.map u8) (0+((a:Int)+(i:Int)).toNat) [.int .u8 (((s.getD (i:Int).toNat 0).toNat:Nat):Int)] ((Vc m a s (i+1)).b.map u8):=by
    rw [Zsm h2 hlt,List.map_set]
    have e:0+((a:Int)+(i:Int)).toNat=a+i:=by omega
    rw [e]
    exact W5 (by simp;omega)
   have hnext:Yo bp ba (Vc m a s (i+1))=[(bp,.cells ⟨[sl ba 0 (Vc m a s i).b.length (Vc m a s i).b.length,.bool (Vc m a s i).off,iv (max (-1) ((Vc m a s i).cut-1))]⟩ 181),(ba,.cells ⟨(Vc m a s (i+1)).b.map u8⟩ 5)]:=by
    have e1:(Vc m a s (i+1)).b.length=(Vc m a s i).b.length:=by rw [Zgs h2,Zgs h2]
    have e2:(Vc m a s (i+1)).cut=max (-1) ((Vc m a s i).cut-1):=by
     have e3:(Vc m a s (i+1)).cut=if m.cut = -1 then -1 else m.cut-((i+1:Nat):Int):=rfl
     rw [e3]
     rcases hcut with hcut|hcut
     ·rw [if_pos hcut.1];omega
     ·rw [if_neg hcut.1];omega
    have e4:(Vc m a s (i+1)).off=(Vc m a s i).off:=rfl
    unfold Yo
    rw [e1,e2,e4]
   repeat' (first|refine uN ?_|refine Yd S ?_|refine Yu S ?_|refine dg S 100 (fun _ _=>?_)|(refine uP ?_ ?_<;>(intro h;((try simp only [zs,zq,reduceCtorEq] at h);try exact zx)))|refine da 101 ?_|fail)
   ·have hk0:kM m s.length=i:=by
     unfold kM
     rcases hcut with hcut|hcut
     ·omega
     ·rw [if_neg hcut.1]
      omega
    refine Uu (L':=Yo bp ba (Zdm m a s).1::L) ?_ ?_
    ·simp only [Zdm,hk0,hoff,decide_eq_true hlt,Bool.or_true,List.flatten_cons]
     have e:Yo bp ba (Vc m a s i)=Yo bp ba ⟨X4 m.b a (s.take i),false,if m.cut = -1 then -1 else m.cut-i⟩:=rfl
     simp [Yo,Vc]
    ·simp [Zdm,hk0,hlt,eV]
   ·refine Zp (i+1) uS ?_ ⟨by omega,by omega⟩ (by omega)
    rw [hnext]
    exact List.Sublist.refl _
  ·repeat' (first|refine uN ?_|refine Yd S ?_|refine Yu S ?_|refine dg S 100 (fun _ _=>?_)|(refine uP ?_ ?_<;>(intro h;((try simp only [zs,zq,reduceCtorEq] at h);try exact zx)))|refine da 101 ?_|fail)
   have hi:i=s.length:=by omega
   subst hi
   have hk0:kM m s.length=s.length:=by
    unfold kM
    split
    ·rfl
    ·omega
   refine Uu (L':=Yo bp ba (Zdm m a s).1::L) ?_ ?_
   ·simp [Yo,Vc,Zdm,hk0,hoff]
   ·simp [Zdm,hk0,eV]
end Go.HL
end

/-! JnA -/
section
namespace Go.HL
open Go Go.Proofs

theorem Zmf {α:Type} {p:List α→Prop} (h0:p []) (h1 : ∀ l a,p l→p (l++[a])) (l:List α):p l:=by
 have h : ∀ l:List α,p l.reverse:=fun l=>by
  induction l with
  | nil=>exact h0
  | cons a l ih=>rw [List.reverse_cons];exact h1 _ _ ih
 have:=h l.reverse
 rwa [List.reverse_reverse] at this
def bt (n:Int) (k:Nat):UInt8:=UInt8.ofNat (n / 2 ^ (8*k) % 256).toNat
theorem Znb (n:Int) (k:Nat):((bt n k).toNat:Int)=n / 2 ^ (8*k) % 256:=by
 unfold bt
 have h1:0≤n / 2 ^ (8*k) % 256:=Int.emod_nonneg _ (by decide)
 have h2:n / 2 ^ (8*k) % 256<256:=Int.emod_lt_of_pos _ (by decide)
 rw [UInt8.toNat_ofNat',Nat.mod_eq_of_lt (by omega)]
 omega
def Wh (n:Int):Nat→List UInt8
 | 0=>[]
 | k+1=>bt n k::Wh n k
theorem Xa (n:Int) (k:Nat):(Wh n k).length=k:=by
 induction k with
 | zero=>rfl
 | succ k ih=>simp [Wh,ih]
def U3 (s:List UInt8):Nat:=s.foldl (fun n b=>n*256+b.toNat) 0
theorem Zl5 (s:List UInt8) (b:UInt8):U3 (s++[b])=U3 s*256+b.toNat:=by simp [U3]
theorem Zof (s:List UInt8):U3 s<256 ^ s.length:=by
 refine Zmf (p:=fun s=>U3 s<256 ^ s.length) (by simp [U3]) (fun s b ih=>?_) s
 ·rw [Zl5]
  have:=b.toNat_lt
  simp only [List.length_append,List.length_cons,List.length_nil,Nat.zero_add,Nat.pow_succ]
  omega
def Zqw (c:Nat):Nat:=(c / 2) ^^^ (3988292384*(c % 2))
def Znd:Nat→Nat→Nat
 | 0,c=>c
 | k+1,c=>Znd k (Zqw c)
theorem Zqx (k c:Nat):Znd (k+1) c=Zqw (Znd k c):=by
 induction k generalizing c with
 | zero=>rfl
 | succ k ih=>exact ih (Zqw c)
def crcB (c:Nat) (b:UInt8):Nat:=Znd 8 (c ^^^ b.toNat)
def Zbv (s:List UInt8):Nat:=s.foldl crcB 4294967295
def crc (s:List UInt8):Nat:=4294967295-Zbv s
theorem crc1_lt {c:Nat} (h:c<4294967296):Zqw c<4294967296:=by
 unfold Zqw
 exact Nat.xor_lt_two_pow (n:=32) (by omega) (by omega)
theorem Zo5 {k c:Nat} (h:c<4294967296):Znd k c<4294967296:=by
 induction k generalizing c with
 | zero=>exact h
 | succ k ih=>exact ih (crc1_lt h)
theorem Zmu {c:Nat} (b:UInt8) (h:c<4294967296):c ^^^ b.toNat<4294967296:=Nat.xor_lt_two_pow (n:=32) h (by have:=b.toNat_lt;omega)
theorem crcB_lt {c:Nat} {b:UInt8} (h:c<4294967296):crcB c b<4294967296:=Zo5 (Zmu b h)
theorem crcR_lt (s:List UInt8):Zbv s<4294967296:=by
 refine Zmf (p:=fun s=>Zbv s<4294967296) (by decide) (fun s b ih=>?_) s
 rw [show Zbv (s++[b])=crcB (Zbv s) b by simp [Zbv]];exact crcB_lt ih
theorem crc_val (c:Nat) (h:c<4294967296):((((c:Int) / 2 ^ (1:Int).toNat).toNat ^^^ ((3988292384*(((c:Int).toNat &&& (1:Int).toNat:Nat):Int)) % 4294967296).toNat:Nat):Int)=((Zqw c:Nat):Int):=by
 have e1:((c:Int) / 2 ^ (1:Int).toNat).toNat=c / 2:=by simp;omega
 have e2:((c:Int).toNat &&& (1:Int).toNat:Nat)=c % 2:=by simp [Nat.and_one_is_mod]
 have e3:((3988292384*((c % 2:Nat):Int)) % 4294967296).toNat=3988292384*(c % 2):=by omega
 rw [e1,e2,e3]
 rfl
set_option maxHeartbeats 2000000 attribute [local irreducible] HW HO HQ HD HC QOp Has Upd Zo Gets Ye Z6 Zq X0 Z5 Zj X7 Zw
theorem Znt (s:List UInt8) (L:Zb) (hs:s.length≤1000000):HC Tryz.prog 204 [bs s] L (fun v L'=>v=iv (crc s)∧L'=L):=by
 refine Za (fun _ _=>Tryz.call204 _ _) Tryz.func204 rfl Tryz.ntmps204 (Nat.le_of_ble_eq_true rfl) ?_;simp only [Ze,Nat.reduceAdd]
 repeat' (first|refine uN ?_|(refine uP ?_ ?_<;>(intro h;((try simp only [zs,zq,reduceCtorEq] at h);try exact zx)))|fail)
 refine Zz (σ:=Nat) (fun i=>[(0,bs s),(6,iv s.length),(7,iv i),(3,.int .u32 (Zbv (s.take i)))]) (fun _=>L) (fun i=>i≤s.length) (fun i=>s.length-i) 0 uS (List.Sublist.refl _) (by omega) ?_
 intro i i1
 have hc:=crcR_lt (s.take i)
 by_cases hlt:i<s.length
 ·have hb:=(s.getD (i:Int).toNat 0).toNat_lt
  repeat' (first|refine uN ?_|(refine uP ?_ ?_<;>(intro h;((try simp only [zs,zq,reduceCtorEq] at h);try exact zx)))|fail)
  have e0:(((Zbv (s.take i):Nat):Int).toNat ^^^ (((s.getD (i:Int).toNat 0).toNat:Nat):Int).toNat:Nat)=Zbv (s.take i) ^^^ (s.getD i 0).toNat:=by simp
  rw [e0]
  have hx:=Zmu (s.getD i 0) hc
  refine Zz (σ:=Nat) (fun j=>[(0,bs s),(6,iv s.length),(7,iv i),(16,iv j),(3,.int .u32 (Znd j (Zbv (s.take i) ^^^ (s.getD i 0).toNat)))]) (fun _=>L) (fun j=>j≤8) (fun j=>8-j) 0 uS (List.Sublist.refl _) (by omega) ?_
  intro j j1
  have hcj:=Zo5 (k:=j) hx
  by_cases hlt2:j<8
  ·repeat' (first|refine uN ?_|(refine uP ?_ ?_<;>(intro h;((try simp only [zs,zq,reduceCtorEq] at h);try exact zx)))|fail)
   refine Zp (j+1) ?_ (List.Sublist.refl _) (by omega) (by omega)
   rw [Zqx,← crc_val _ hcj]
   repeat (first|exact trivial|refine ⟨rfl,?_⟩)
  ·have hj:j=8:=by omega
   subst hj
   repeat' (first|refine uN ?_|(refine uP ?_ ?_<;>(intro h;((try simp only [zs,zq,reduceCtorEq] at h);try exact zx)))|fail)
   refine Zp (i+1) ?_ (List.Sublist.refl _) (by omega) (by omega)
   have e:Zbv (s.take (i+1))=Znd 8 (Zbv (s.take i) ^^^ (s.getD i 0).toNat):=by
    rw [List.take_succ_eq_append_getElem hlt]
    rw [show ∀ l b,Zbv (l++[b])=crcB (Zbv l) b from fun l b=>by simp [Zbv]]
    simp [crcB,List.getD,hlt]
   rw [e]
   repeat (first|exact trivial|refine ⟨rfl,?_⟩)
 ·repeat' (first|refine uN ?_|(refine uP ?_ ?_<;>(intro h;((try simp only [zs,zq,reduceCtorEq] at h);try exact zx)))|fail)
  have hi:i=s.length:=by omega
  subst hi
  (refine Yr rfl rfl ?_ ⟨?_,rfl⟩;(next=>(repeat (first|exact List.Sublist.refl _|apply List.Sublist.cons))))
  rw [List.take_length] at hc ⊢
  exact congrArg iv (by unfold crc;omega)
end Go.HL
end

/-! JnB -/
section
namespace Go.HL
open Go Go.Proofs

theorem Zl7 (b E:Nat) (l:List UInt8) (L:Zb):Rd uc 1 ([(b,.cells ⟨l.map u8⟩ E)]::L) (some ⟨b,0,none⟩) l:=by
 refine .inr ⟨b,0,l.map u8,E,(0,0),rfl,Zh,fun k x hx=>?_⟩
 have:=Wa (enc:=uc) (sz:=1) (fun _=>rfl) l [] [] k x hx
 simpa [Zp8] using this
theorem Zsq (n i:Nat) (x:Int) (h:i<n):(Z4 (n-i)++Wh x i).set (n-1-i) (bt x i)=Z4 (n-(i+1))++Wh x (i+1):=by
 have e:Z4 (n-i)=Z4 (n-(i+1))++[0]:=by
  rw [show n-i=(n-(i+1))+1 by omega]
  simp [Z4,List.replicate_succ']
 rw [e,List.append_assoc,List.set_append_right _ _ (by simp [Z4];omega)]
 simp [Z4,Wh,show n-1-i-(n-(i+1))=0 by omega]
structure Ent where
 n:Int
 s:St
def Zsr (e:Ent):List Value:=[iv e.n,iv e.s.ph,iv e.s.pr,iv e.s.att]
def head (e:Ent):List UInt8:=Wh e.n 4++Wh e.s.ph 1++Wh e.s.pr 4++Wh e.s.att 4
def Yk (e:Ent):List UInt8:=head e++Wh (crc (head e)) 4
set_option maxHeartbeats 2000000 attribute [local irreducible] HW HO HQ HD HC QOp Has Upd Zo Gets Ye Z6 Zq X0 Z5 Zj X7 Zw
theorem W4 (n:Int) (many:Nat) (L:Zb) (hm:many≤8):HC Tryz.prog 284 [iv n,iv many] L (fun v L'=>v=bs (Wh n many)∧L'=L):=by
 refine Za (fun _ _=>Tryz.call284 _ _) Tryz.func284 rfl Tryz.ntmps284 (Nat.le_of_ble_eq_true rfl) ?_;simp only [Ze,Nat.reduceAdd]
 repeat' (first|refine uN ?_|(refine uB ?_;intro b)|(refine uP ?_ ?_<;>(intro h;((try simp only [zs,zq,reduceCtorEq] at h);try exact zx)))|fail)
 refine Zz (σ:=Nat) (fun i=>[(0,iv n),(1,iv many),(5,sl b 0 many many),(9,iv many),(10,iv i)]) (fun i=>[(b,.cells ⟨(Z4 (many-i)++Wh n i).map u8⟩ 5)]::L) (fun i=>i≤many) (fun i=>many-i) 0 uS ?_ (by omega) ?_
 ·simp [Wh,Zmj,Z4,u8]
 ·intro i i1
  by_cases hlt:i<many
  ·have hP:Zo ((Z4 (many-i)++Wh n i).map u8) (0+((many:Int)-1-(i:Int)).toNat) [.int .u8 (n / 2 ^ (8*(i:Int)).toNat % 256)] ((Z4 (many-(i+1))++Wh n (i+1)).map u8):=by
    rw [← Zsq many i n hlt,List.map_set]
    have e:0+((many:Int)-1-(i:Int)).toNat=many-1-i:=by omega
    have e2:(8*(i:Int)).toNat=8*i:=by omega
    have e3:Value.int .u8 (n / 2 ^ (8*(i:Int)).toNat % 256)=u8 (bt n i):=by unfold u8;rw [Znb,e2]
    rw [e,e3]
    exact W5 (by simp [Z4,Xa];omega)
   repeat' (first|refine uN ?_|(refine uB ?_;intro b)|(refine uP ?_ ?_<;>(intro h;((try simp only [zs,zq,reduceCtorEq] at h);try exact zx)))|fail)
   refine Zp (i+1) uS (List.Sublist.refl _) (by omega) (by omega)
  ·have hi:i=many:=by omega
   subst hi
   repeat' (first|refine uN ?_|(refine uB ?_;intro b)|(refine uP ?_ ?_<;>(intro h;((try simp only [zs,zq,reduceCtorEq] at h);try exact zx)))|fail)
   refine Vb (qtx S (Zl7 _ _ _ _) ?_) ?_
   ·simp [Z4,Xa]
   ·repeat' (first|refine uN ?_|(refine uB ?_;intro b)|(refine uP ?_ ?_<;>(intro h;((try simp only [zs,zq,reduceCtorEq] at h);try exact zx)))|fail)
    refine Yr rfl rfl (List.sublist_cons_self _ _) ⟨?_,rfl⟩
    simp [Z4]
theorem Uo (s:List UInt8) (L:Zb) (hs:s.length≤7):HC Tryz.prog 206 [bs s] L (fun v L'=>v=iv (U3 s)∧L'=L):=by
 refine Za (fun _ _=>Tryz.call206 _ _) Tryz.func206 rfl Tryz.ntmps206 (Nat.le_of_ble_eq_true rfl) ?_;simp only [Ze,Nat.reduceAdd]
 repeat' (first|refine uN ?_|(refine uP ?_ ?_<;>(intro h;((try simp only [zs,zq,reduceCtorEq] at h);try exact zx)))|fail)
 refine Zz (σ:=Nat) (fun i=>[(0,bs s),(6,iv s.length),(7,iv i),(3,iv (U3 (s.take i)))]) (fun _=>L) (fun i=>i≤s.length) (fun i=>s.length-i) 0 uS (List.Sublist.refl _) (by omega) ?_
 intro i i1
 by_cases hlt:i<s.length
 ·have hb:=(s.getD (i:Int).toNat 0).toNat_lt
  have hr:=Zof (s.take i)
  have hr2:U3 (s.take i)<281474976710656:=by
   have:256 ^ (s.take i).length≤256 ^ 6:=Nat.pow_le_pow_right (by decide) (by simp;omega)
   omega
  repeat' (first|refine uN ?_|(refine uP ?_ ?_<;>(intro h;((try simp only [zs,zq,reduceCtorEq] at h);try exact zx)))|fail)
  refine Zp (i+1) ?_ (List.Sublist.refl _) (by omega) (by omega)
  have e:((((U3 (s.take i):Nat):Int)*2 ^ Int.toNat 8).toNat ||| (((s.getD (i:Int).toNat 0).toNat:Nat):Int).toNat:Nat)=U3 (s.take (i+1)):=by
   rw [List.take_succ_eq_append_getElem hlt,Zl5]
   have e1:(((U3 (s.take i):Nat):Int)*2 ^ Int.toNat 8).toNat=(U3 (s.take i)) <<< 8:=by rw [Nat.shiftLeft_eq];simp;omega
   have e2:(((s.getD (i:Int).toNat 0).toNat:Nat):Int).toNat=(s[i]).toNat:=by simp [List.getD,hlt]
   rw [e1,e2,← Nat.shiftLeft_add_eq_or_of_lt (s[i]).toNat_lt,Nat.shiftLeft_eq]
  rw [← e]
  repeat (first|exact trivial|refine ⟨rfl,?_⟩)
 ·repeat' (first|refine uN ?_|(refine uP ?_ ?_<;>(intro h;((try simp only [zs,zq,reduceCtorEq] at h);try exact zx)))|fail)
  have hi:i=s.length:=by omega
  subst hi
  (refine Yr rfl rfl ?_ ⟨?_,rfl⟩;(next=>(repeat (first|exact List.Sublist.refl _|apply List.Sublist.cons))))
  rw [List.take_length]
theorem Ze1 (e:Ent) (L:Zb):HC Tryz.prog 252 [.agg ⟨Zsr e⟩] L (fun v L'=>v=bs (Yk e)∧L'=L):=by
 have k1 : ∀ L,HC Tryz.prog 284 [iv e.n,iv 4] L (fun v L'=>v=bs (Wh e.n 4)∧L'=L):=fun L=>W4 e.n 4 L (by decide)
 have k2 : ∀ L,HC Tryz.prog 284 [iv e.s.ph,iv 1] L (fun v L'=>v=bs (Wh e.s.ph 1)∧L'=L):=fun L=>W4 e.s.ph 1 L (by decide)
 have k3 : ∀ L,HC Tryz.prog 284 [iv e.s.pr,iv 4] L (fun v L'=>v=bs (Wh e.s.pr 4)∧L'=L):=fun L=>W4 e.s.pr 4 L (by decide)
 have k4 : ∀ L,HC Tryz.prog 284 [iv e.s.att,iv 4] L (fun v L'=>v=bs (Wh e.s.att 4)∧L'=L):=fun L=>W4 e.s.att 4 L (by decide)
 have k5 : ∀ L,HC Tryz.prog 284 [iv (crc (head e)),iv 4] L (fun v L'=>v=bs (Wh (crc (head e)) 4)∧L'=L):=fun L=>W4 _ 4 L (by decide)
 have k6 : ∀ L,HC Tryz.prog 204 [bs (head e)] L (fun v L'=>v=iv (crc (head e))∧L'=L):=fun L=>Znt _ L (by simp [head,Xa])
 have n1:=Xa e.n 4
 have n2:=Xa e.s.ph 1
 have n3:=Xa e.s.pr 4
 have n4:=Xa e.s.att 4
 have n5:=Xa (crc (head e)) 4
 refine Za (fun _ _=>Tryz.call252 _ _) Tryz.func252 rfl Tryz.ntmps252 (Nat.le_of_ble_eq_true rfl) ?_;simp only [Ze,Nat.reduceAdd]
 repeat' (first|refine uN ?_|refine Yd S ?_|refine uC (k1 _) ?_|refine uC (k2 _) ?_|refine uC (k3 _) ?_|refine uC (k4 _) ?_|refine uC (k5 _) ?_|refine uC (k6 _) ?_|(refine uB ?_;intro b)|fail)
 refine Yr rfl rfl (List.sublist_cons_self _ _) ⟨?_,rfl⟩
 simp [Yk,head]
def Yh:List UInt8:=[165]
def Yw (k:Int) (s:List UInt8):Ent:=
 let e:Ent:=⟨U3 (s.take 4),U3 ((s.take 5).drop 4),U3 ((s.take 9).drop 5),U3 ((s.take 13).drop 9)⟩
 if e.n<1∨e.n % 2≠k∨Yk e++Yh≠s then ⟨0,0,0,0⟩ else e
def Zbm (s:List UInt8):Ent:=⟨U3 (s.take 4),U3 ((s.take 5).drop 4),U3 ((s.take 9).drop 5),U3 ((s.take 13).drop 9)⟩
theorem Uz (k:Int) (s:List UInt8):Yw k s=if (Zbm s).n<1∨(Zbm s).n % 2≠k∨Yk (Zbm s)++Yh≠s then ⟨0,0,0,0⟩ else Zbm s:=rfl
theorem Znm (k:Int) (s:List UInt8) (L:Zb) (hs:s.length=18):HC Tryz.prog 177 [iv k,bs s] L (fun v L'=>v = .agg ⟨Zsr (Yw k s)⟩∧L'=L):=by
 have k1 : ∀ L,HC Tryz.prog 206 [bs (s.take 4)] L (fun v L'=>v=iv (U3 (s.take 4))∧L'=L):=fun L=>Uo _ L (by simp;omega)
 have k2 : ∀ L,HC Tryz.prog 206 [bs ((s.take 5).drop 4)] L (fun v L'=>v=iv (U3 ((s.take 5).drop 4))∧L'=L):=fun L=>Uo _ L (by simp;omega)
 have k3 : ∀ L,HC Tryz.prog 206 [bs ((s.take 9).drop 5)] L (fun v L'=>v=iv (U3 ((s.take 9).drop 5))∧L'=L):=fun L=>Uo _ L (by simp;omega)
 have k4 : ∀ L,HC Tryz.prog 206 [bs ((s.take 13).drop 9)] L (fun v L'=>v=iv (U3 ((s.take 13).drop 9))∧L'=L):=fun L=>Uo _ L (by simp;omega)
 have k5 : ∀ L,HC Tryz.prog 252 [.agg ⟨[iv (U3 (s.take 4)),iv (U3 ((s.take 5).drop 4)),iv (U3 ((s.take 9).drop 5)),iv (U3 ((s.take 13).drop 9))]⟩] L (fun v L'=>v=bs (Yk (Zbm s))∧L'=L):=fun L=>Ze1 (Zbm s) L
 have hn:U3 (s.take 4)<4294967296:=by
  have:=Zof (s.take 4)
  rwa [show (s.take 4).length=4 by simp;omega] at this
 have hb:(Yk (Zbm s)).length=17:=by simp [Yk,head,Xa]
 rw [Uz]
 refine Za (fun _ _=>Tryz.call177 _ _) Tryz.func177 rfl Tryz.ntmps177 (Nat.le_of_ble_eq_true rfl) ?_;simp only [Ze,Nat.reduceAdd]
 repeat' (first|refine uN ?_|refine Yd S ?_|refine Yu S ?_|refine uC (k1 _) ?_|refine uC (k2 _) ?_|refine uC (k3 _) ?_|refine uC (k4 _) ?_|refine uC (k5 _) ?_|refine Yy (fun _=>k1 _) ?_|refine Yz (fun _=>k1 _) ?_|refine Y0 (fun _=>k1 _) ?_|refine Y1 (fun _=>k1 _) ?_|refine Yy (fun _=>k2 _) ?_|refine Yz (fun _=>k2 _) ?_|refine Y0 (fun _=>k2 _) ?_|refine Y1 (fun _=>k2 _) ?_|refine Yy (fun _=>k3 _) ?_|refine Yz (fun _=>k3 _) ?_|refine Y0 (fun _=>k3 _) ?_|refine Y1 (fun _=>k3 _) ?_|refine Yy (fun _=>k4 _) ?_|refine Yz (fun _=>k4 _) ?_|refine Y0 (fun _=>k4 _) ?_|refine Y1 (fun _=>k4 _) ?_|refine Yy (fun _=>k5 _) ?_|refine Yz (fun _=>k5 _) ?_|refine Y0 (fun _=>k5 _) ?_|refine Y1 (fun _=>k5 _) ?_|(refine uB ?_;intro b)|(refine uP ?_ ?_<;>(intro h;((try simp only [zs,zq,reduceCtorEq] at h);try exact zx)))|refine da 101 ?_|fail)
 all_goals refine Xn (LS.skip _ (LS.skip _ (LS.refl _))) ⟨?_,rfl⟩ (hv:=Vw S (hg:=Zd rfl (Zd rfl (Zd rfl (Zd rfl Zx)))))
 ·rw [if_pos (.inl h)];rfl
 ·rw [if_pos (.inr (.inl h))];rfl
 ·rw [if_pos (.inr (.inr h))];rfl
 ·rename_i h1 h2
  rw [if_neg (fun h0=>h0.elim h1 (fun h0=>h0.elim (fun h0=>h0 h2) (fun h0=>h0 h)))];rfl
end Go.HL
end

/-! JnC -/
section
namespace Go.HL
open Go Go.Proofs

structure Jn where
 l:List Ent
 dead:Bool
def Z2 (bp:Nat) (j:Jn):List Value:=[pt bp 0]++(j.l.map Zsr).flatten++[.bool j.dead]
def jC (bj bp:Nat) (j:Jn):List Zm:=[(bj,.cells ⟨Z2 bp j⟩ 261)]
def Zl:Ent:=⟨0,0,0,0⟩
def W9 (e0 e:Ent):Ent:=if e0.n<e.n then e else e0
def Yv (b:List UInt8) (i:Nat):List UInt8:=(b.drop (i*18)).take 18
def Wb (b:List UInt8) (d:Nat):Nat→Ent
 | 0=>Zl
 | k+1=>W9 (Wb b d k) (Yw k (Yv b (2*d+k)))
def Y2 (b:List UInt8) (d:Nat):Ent:=Wb b d 2
def Zv (b:List UInt8):List Ent:=(List.range 6).map (Y2 b)
def Zej (b:List UInt8) (d k:Nat):List Ent:=(List.range d).map (Y2 b)++Wb b d k::List.replicate (5-d) Zl
theorem lAt_len (b:List UInt8) (d k:Nat) (h:d≤5):(Zej b d k).length=6:=by simp [Zej];omega
theorem lAt_get (b:List UInt8) (d k:Nat):(Zej b d k)[d]? = some (Wb b d k):=by
 rw [Zej,List.getElem?_append_right (by simp)]
 simp
theorem lAt_set (b:List UInt8) (d k:Nat) (e:Ent) (h:e=Wb b d (k+1)):(Zej b d k).set d e=Zej b d (k+1):=by
 subst h
 rw [Zej,List.set_append_right _ _ (by simp)]
 simp [Zej]
theorem lAt_next (b:List UInt8) (d:Nat) (h:d<5):Zej b d 2=Zej b (d+1) 0:=by
 simp only [Zej,List.range_succ,List.map_append,List.map_cons,List.map_nil,List.append_assoc,List.cons_append,List.nil_append,Wb]
 rw [show 5-d=(5-(d+1))+1 by omega,List.replicate_succ]
 rfl
theorem lAt_last (b:List UInt8):Zej b 5 2=Zv b:=by
 simp [Zej,Zv,List.range_succ,Y2]
theorem Qi (e:Ent):(Zsr e).length=4:=rfl
theorem Zk6 {bp:Nat} {j:Jn} {d:Nat} {e:Ent} (h:j.l[d]? = some e):Gets (Z2 bp j) (0+1+(d:Int).toNat*4) (Zsr e):=by
 have:=Wa (enc:=Zsr) (sz:=4) Qi j.l [.bool j.dead] [pt bp 0] d e h
 simpa [Z2] using this
theorem Znr {bp:Nat} {j:Jn} {d:Nat} {e:Ent} (h:j.l[d]? = some e):Gets (Z2 bp j) (0+1+(d:Int).toNat*4+1) (sc e.s):=fun k v hk=>by
 have:=Zk6 (bp:=bp) h (k+1) v (by simpa [Zsr,sc] using hk)
 rw [show 0+1+(d:Int).toNat*4+1+k=0+1+(d:Int).toNat*4+(k+1) by omega]
 exact this
theorem jputs {bp:Nat} {j:Jn} {d:Nat} (e:Ent) (h:d<j.l.length):Zo (Z2 bp j) (0+1+(d:Int).toNat*4) (Zsr e) (Z2 bp ⟨j.l.set d e,j.dead⟩):=by
 have:=Zf6 (enc:=Zsr) (sz:=4) Qi j.l [.bool j.dead] [pt bp 0] d (0+1+(d:Int).toNat*4) e h (by simp)
 exact this
theorem jdead {bp:Nat} {j:Jn} (h:j.l.length=6):(Z2 bp j)[0+25]? = some (.bool j.dead):=by
 unfold Z2
 rw [List.getElem?_append_right (by simp [Z7 Qi,h])]
 simp [Z7 Qi,h]
theorem jputsD {bp:Nat} {j:Jn} (h:j.l.length=6) (b:Bool):Zo (Z2 bp j) (0+25) [.bool b] (Z2 bp ⟨j.l,b⟩):=by
 have e:Z2 bp ⟨j.l,b⟩=(Z2 bp j).set (0+25) (.bool b):=by
  unfold Z2
  rw [List.set_append_right _ _ (by simp [Z7 Qi,h])]
  simp [Z7 Qi,h]
 rw [e]
 exact W5 (by simp [Z2,Z7 Qi,h])
set_option maxHeartbeats 2000000 attribute [local irreducible] HW HO HQ HD HC QOp Has Upd Zo Gets Ye Z6 Zq X0 Z5 Zj X7 Zw
attribute [local irreducible] Z2
theorem Zhl (T:Nat) (E:Nat→Addr) (bj bp:Nat) (j:Jn) (d:Int) (L:Zb) (hG:Er T E [2] L) (hl:j.l.length=6):HC Tryz.prog 121 [pt bj 0,iv d] (jC bj bp j::L) (fun v L'=>L'=jC bj bp j::L ∧
  if d<0∨6≤d then v = .tuple ⟨[.agg ⟨[iv 0,iv 0,iv 0]⟩,eV T E (some 2)]⟩ else v = .tuple ⟨[.agg ⟨sc (j.l.getD d.toNat Zl).s⟩,.nilIface]⟩):=by
 by_cases h0:d<0∨6≤d
 ·simp only [if_pos h0]
  refine Za (fun _ _=>Tryz.call121 _ _) Tryz.func121 rfl Tryz.ntmps121 (Nat.le_of_ble_eq_true rfl) ?_;simp only [Ze,Nat.reduceAdd]
  repeat' (first|refine uN ?_|refine Yd S ?_|refine Yu S ?_|(refine uB ?_;intro b)|refine dg S 100 (fun _ _=>?_)|(refine uP ?_ ?_<;>(intro h;((try simp only [zs,zq,reduceCtorEq] at h);try exact zx)))|refine da 101 ?_|fail)
  ·exact Wz (LS.skip _ (LS.refl _)) ⟨rfl,rfl⟩ (hx:=Vw S (hg:=Zd rfl (Zd rfl (Zd rfl Zx))))
  ·exact Wz (LS.skip _ (LS.refl _)) ⟨rfl,rfl⟩ (hx:=Vw S (hg:=Zd rfl (Zd rfl (Zd rfl Zx))))
 ·simp only [if_neg h0]
  obtain ⟨d,rfl⟩:=Int.eq_ofNat_of_zero_le (show 0≤d by omega)
  have he:j.l[d]? = some (j.l.getD d Zl):=by
   rw [List.getD,List.getElem?_eq_getElem (by omega)];rfl
  have g1:=Zk6 (bp:=bp) he
  have g2:=Znr (bp:=bp) he
  refine Za (fun _ _=>Tryz.call121 _ _) Tryz.func121 rfl Tryz.ntmps121 (Nat.le_of_ble_eq_true rfl) ?_;simp only [Ze,Nat.reduceAdd]
  repeat' (first|refine uN ?_|refine Yd S ?_|refine Yu S ?_|(refine uB ?_;intro b)|refine dg S 100 (fun _ _=>?_)|(refine uP ?_ ?_<;>(intro h;((try simp only [zs,zq,reduceCtorEq] at h);try exact zx)))|refine da 101 ?_|fail)
  refine Wz (LS.skip _ (LS.refl _)) ⟨rfl,?_⟩ (hx:=Vw S (hg:=Zd rfl (Zd rfl (Zd rfl Zx))))
  simp [sc]
end Go.HL
end

/-! JnD -/
section
namespace Go.HL
open Go Go.Proofs

theorem Zr6 (m:Pl) (d k:Nat) (hd:d<6) (hk:k<2) (hl:216≤m.b.length) (ho:m.off=false):Up m ((2*(d:Int)+(k:Int))*18) 18=(Yv m.b (2*d+k),none):=by
 have h:Vv m ((2*(d:Int)+(k:Int))*18) 18=none:=by
  unfold Vv
  rw [if_neg (by omega),if_neg (by simp [ho])]
 unfold Up Yv
 rw [h]
 have e:((2*(d:Int)+(k:Int))*18).toNat=(2*d+k)*18:=by omega
 simp [e]
theorem Zcv (b:List UInt8) (i:Nat) (h:i<12) (hl:216≤b.length):(Yv b i).length=18:=by simp [Yv];omega
def lO (b:List UInt8) (d:Nat):List Ent:=if d<6 then Zej b d 0 else Zv b
theorem lO_next (b:List UInt8) (d:Nat) (h:d<6):Zej b d 2=lO b (d+1):=by
 unfold lO
 split
 ·exact lAt_next b d (by omega)
 ·rw [show d=5 by omega,lAt_last]
theorem lAt_upd (b:List UInt8) (d k:Nat) (h:(Wb b d k).n<(Yw k (Yv b (2*d+k))).n):(Zej b d k).set d (Yw k (Yv b (2*d+k)))=Zej b d (k+1):=
 lAt_set b d k _ (by simp [Wb,W9,h])
theorem lAt_same (b:List UInt8) (d k:Nat) (h : ¬ (Wb b d k).n<(Yw k (Yv b (2*d+k))).n):Zej b d k=Zej b d (k+1):=by
 simp [Zej,Wb,W9,h]
theorem jC_new (bj bp:Nat) (b:List UInt8):jC bj bp ⟨lO b 0,false⟩=[(bj,.cells ⟨[pt bp 0,iv 0,iv 0,iv 0,iv 0,iv 0,iv 0,iv 0,iv 0,iv 0,iv 0,iv 0,iv 0,iv 0,iv 0,iv 0,iv 0,iv 0,iv 0,iv 0,iv 0,iv 0,iv 0,iv 0,iv 0,.bool false]⟩ 261)]:=rfl
set_option maxHeartbeats 2000000 attribute [local irreducible] HW HO HQ HD HC QOp Has Upd Zo Gets Ye Z6 Zq X0 Z5 Zj X7 Zw
attribute [local irreducible] Z2 Yo
theorem Zf1 (T:Nat) (E:Nat→Addr) (bp ba:Nat) (m:Pl) (L:Zb) (hG:Er T E [2,6] L) (hl:m.b.length≤1000000):HC Tryz.prog 120 [pt bp 0] (Yo bp ba m::L) (fun v L' =>
  if m.b.length<216 then v = .tuple ⟨[.pointer none,eV T E (some 2)]⟩∧L'=Yo bp ba m::L else if m.off then v = .tuple ⟨[.pointer none,eV T E (some 6)]⟩∧L'=Yo bp ba m::L
  else ∃ bj,v = .tuple ⟨[pt bj 0,.nilIface]⟩∧L'=jC bj bp ⟨Zv m.b,false⟩::Yo bp ba m::L):=by
 have kb:=Zdr bp ba m L
 have kp:=Zd4 bp ba m L
 by_cases h1:m.b.length<216
 ·simp only [if_pos h1]
  refine Za (fun _ _=>Tryz.call120 _ _) Tryz.func120 rfl Tryz.ntmps120 (Nat.le_of_ble_eq_true rfl) ?_;simp only [Ze,Nat.reduceAdd]
  repeat' (first|refine uN ?_|refine Yd S ?_|refine Yu S ?_|refine uC (kb) ?_|refine Yy (fun _=>kb) ?_|refine Yz (fun _=>kb) ?_|refine Y0 (fun _=>kb) ?_|refine Y1 (fun _=>kb) ?_|(refine uB ?_;intro b)|refine dg S 100 (fun _ _=>?_)|(refine uP ?_ ?_<;>(intro h;((try simp only [zs,zq,reduceCtorEq] at h);try exact zx)))|refine da 101 ?_|fail)
  exact Zbj rfl ⟨rfl,rfl⟩
 ·simp only [if_neg h1]
  cases h2:m.off with
  | true =>
   rw [h2] at kp
   simp only [if_true]
   refine Za (fun _ _=>Tryz.call120 _ _) Tryz.func120 rfl Tryz.ntmps120 (Nat.le_of_ble_eq_true rfl) ?_;simp only [Ze,Nat.reduceAdd]
   repeat' (first|refine uN ?_|refine Yd S ?_|refine Yu S ?_|refine uC (kb) ?_|refine uC (kp) ?_|refine Yy (fun _=>kb) ?_|refine Yz (fun _=>kb) ?_|refine Y0 (fun _=>kb) ?_|refine Y1 (fun _=>kb) ?_|refine Yy (fun _=>kp) ?_|refine Yz (fun _=>kp) ?_|refine Y0 (fun _=>kp) ?_|refine Y1 (fun _=>kp) ?_|(refine uB ?_;intro b)|refine dg S 100 (fun _ _=>?_)|(refine uP ?_ ?_<;>(intro h;((try simp only [zs,zq,reduceCtorEq] at h);try exact zx)))|refine da 101 ?_|fail)
   exact Zbj rfl ⟨rfl,rfl⟩
  | false =>
   rw [h2] at kp
   simp only [Bool.false_eq_true,if_false]
   refine Za (fun _ _=>Tryz.call120 _ _) Tryz.func120 rfl Tryz.ntmps120 (Nat.le_of_ble_eq_true rfl) ?_;simp only [Ze,Nat.reduceAdd]
   repeat' (first|refine uN ?_|refine Yd S ?_|refine Yu S ?_|refine uC (kb) ?_|refine uC (kp) ?_|refine Yy (fun _=>kb) ?_|refine Yz (fun _=>kb) ?_|refine Y0 (fun _=>kb) ?_|refine Y1 (fun _=>kb) ?_|refine Yy (fun _=>kp) ?_|refine Yz (fun _=>kp) ?_|refine Y0 (fun _=>kp) ?_|refine Y1 (fun _=>kp) ?_|(refine uB ?_;intro b)|refine dg S 100 (fun _ _=>?_)|(refine uP ?_ ?_<;>(intro h;((try simp only [zs,zq,reduceCtorEq] at h);try exact zx)))|refine da 101 ?_|fail)
   refine fw 1 ?_
   refine Zz (σ:=Nat) (fun d=>[(0,pt bp 0),(4,pt b 0),(28,iv d)]) (fun d=>Yo bp ba m::jC b bp ⟨lO m.b d,false⟩::L) (fun d=>d≤6) (fun d=>6-d) 0 uS ?_ (by omega) ?_
   ·rw [jC_new];exact List.Sublist.refl _
   intro d d1
   by_cases hd:d<6
   ·rw [show lO m.b d=Zej m.b d 0 from if_pos hd]
    repeat' (first|refine uN ?_|refine Yd S ?_|refine Yu S ?_|(refine uB ?_;intro b)|refine dg S 100 (fun _ _=>?_)|(refine uP ?_ ?_<;>(intro h;((try simp only [zs,zq,reduceCtorEq] at h);try exact zx)))|refine da 101 ?_|fail)
    refine Zz (σ:=Nat) (fun k=>[(0,pt bp 0),(4,pt b 0),(28,iv d),(5,iv d),(31,iv k)]) (fun k=>Yo bp ba m::jC b bp ⟨Zej m.b d k,false⟩::L) (fun k=>k≤2) (fun k=>2-k) 0 uS (List.Sublist.refl _) (by omega) ?_
    intro k k1
    by_cases hk:k<2
    ·have kr:=Zgb T E bp ba m ((2*(d:Int)+(k:Int))*18) 18 (jC b bp ⟨Zej m.b d k,false⟩::L) (hG.cons _) hl
     rw [Zr6 m d k hd hk (by omega) h2] at kr
     have kh : ∀ L,HC Tryz.prog 177 [iv k,bs (Yv m.b (2*d+k))] L (fun v L'=>v = .agg ⟨Zsr (Yw k (Yv m.b (2*d+k)))⟩∧L'=L):=fun L=>Znm _ _ L (Zcv _ _ (by omega) (by omega))
     have g1:=Zk6 (bp:=bp) (j:=⟨Zej m.b d k,false⟩) (lAt_get m.b d k)
     have p1:=jputs (bp:=bp) (j:=⟨Zej m.b d k,false⟩) (d:=d) (Yw k (Yv m.b (2*d+k))) (by simp [lAt_len m.b d k (by omega)];omega)
     repeat' (first|refine uN ?_|refine Yd S ?_|refine Yu S ?_|refine uC (kr) ?_|refine uC (kh _) ?_|refine Yy (fun _=>kr) ?_|refine Yz (fun _=>kr) ?_|refine Y0 (fun _=>kr) ?_|refine Y1 (fun _=>kr) ?_|refine Yy (fun _=>kh _) ?_|refine Yz (fun _=>kh _) ?_|refine Y0 (fun _=>kh _) ?_|refine Y1 (fun _=>kh _) ?_|(refine uB ?_;intro b)|refine dg S 100 (fun _ _=>?_)|(refine uP ?_ ?_<;>(intro h;((try simp only [zs,zq,reduceCtorEq] at h);try exact zx)))|refine da 101 ?_|fail)
     ·refine Zp (k+1) uS ?_ (by omega) (by omega)
      rw [← lAt_upd _ _ _ h]
      exact (List.Sublist.refl _).cons _
     ·refine Zp (k+1) uS ?_ (by omega) (by omega)
      rw [← lAt_same _ _ _ h]
      exact (List.Sublist.refl _).cons _
    ·rw [show k=2 by omega]
     repeat' (first|refine uN ?_|refine Yd S ?_|refine Yu S ?_|(refine uB ?_;intro b)|refine dg S 100 (fun _ _=>?_)|(refine uP ?_ ?_<;>(intro h;((try simp only [zs,zq,reduceCtorEq] at h);try exact zx)))|refine da 101 ?_|fail)
     refine Zp (d+1) uS ?_ (by omega) (by omega)
     rw [lO_next _ _ hd]
     exact List.Sublist.refl _
   ·rw [show d=6 by omega]
    repeat' (first|refine uN ?_|refine Yd S ?_|refine Yu S ?_|(refine uB ?_;intro b)|refine dg S 100 (fun _ _=>?_)|(refine uP ?_ ?_<;>(intro h;((try simp only [zs,zq,reduceCtorEq] at h);try exact zx)))|refine da 101 ?_|fail)
    refine Wz (L':=jC b bp ⟨Zv m.b,false⟩::Yo bp ba m::L) ?_ ⟨b,rfl,rfl⟩
    rw [show lO m.b 6=Zv m.b from rfl]
    exact LS.of_perm (by simp only [List.flatten_cons,← List.append_assoc];exact (List.perm_append_comm.append_right _))
end Go.HL
end

/-! JnE -/
section
namespace Go.HL
open Go Go.Proofs

structure PlOk (m:Pl):Prop where
 len:m.b.length≤1000000
 lo : -1≤m.cut
 hi:m.cut≤9223372036854775807
theorem Znz {m:Pl} {a n:Int} (h:Vv m a n=none):0≤a∧0≤n∧a+n≤m.b.length∧m.off=false:=by
 unfold Vv at h
 split at h
 ·cases h
 ·split at h
  ·cases h
  ·exact ⟨by omega,by omega,by omega,by simp_all⟩
theorem Zov (m:Pl) (a:Int) (s:List UInt8):(Xd m a s).1.b.length=m.b.length:=by
 unfold Xd
 cases h:Vv m a s.length with
 | some e=>rfl
 | none =>
  obtain ⟨h1,h2,h3,h4⟩:=Znz h
  exact Zgh (by simp;omega)
theorem Zdo {m:Pl} (h:PlOk m) (a:Int) (s:List UInt8):PlOk (Xd m a s).1:=by
 refine ⟨by rw [Zov];exact h.len,?_,?_⟩
 all_goals
  have h1:=h.lo
  have h2:=h.hi
  unfold Xd
  cases hm:Vv m a s.length with
  | some e=>assumption
  | none =>
   simp only [Zdm]
   split
   ·omega
   ·have:kM m s.length≤m.cut.toNat:=by unfold kM;rw [if_neg (by assumption)];omega
    omega
def Zc4 (deal:Int) (e:Ent):Int:=(2*deal+e.n % 2)*18
def Zhs (m:Pl) (deal:Int) (e:Ent):Pl × Option Nat:=match (Up m (Zc4 deal e+18-1) 1).2 with
 | some x=>(m,some x)
 | none=>if (Up m (Zc4 deal e+18-1) 1).1=[0] then (m,none) else Xd m (Zc4 deal e+18-1) [0]
def Zgx (m:Pl) (deal:Int) (e:Ent):Pl × Option Nat:=match (Zhs m deal e).2 with
 | some x=>((Zhs m deal e).1,some x)
 | none=>Xd (Zhs m deal e).1 (Zc4 deal e) (Yk e)
def Zdy (m:Pl) (deal:Int) (e:Ent):Pl × Option Nat:=match (Zgx m deal e).2 with
 | some x=>((Zgx m deal e).1,some x)
 | none=>Xd (Zgx m deal e).1 (Zc4 deal e+18-1) Yh
theorem Znu {m:Pl} (h:PlOk m) (deal:Int) (e:Ent):PlOk (Zhs m deal e).1:=by
 unfold Zhs
 split
 ·exact h
 ·split
  ·exact h
  ·exact Zdo h _ _
theorem Znv {m:Pl} (h:PlOk m) (deal:Int) (e:Ent):PlOk (Zgx m deal e).1:=by
 unfold Zgx
 split
 ·exact Znu h _ _
 ·exact Zdo (Znu h _ _) _ _
theorem jwM_ok {m:Pl} (h:PlOk m) (deal:Int) (e:Ent):PlOk (Zdy m deal e).1:=by
 unfold Zdy
 split
 ·exact Znv h _ _
 ·exact Zdo (Znv h _ _) _ _
theorem Zav (e:Ent):(Yk e).length=17:=by simp [Yk,head,Xa]
theorem j0 (bp:Nat) (j:Jn):(Z2 bp j)[0+0]? = some (pt bp 0):=rfl
set_option maxHeartbeats 2000000 attribute [local irreducible] HW HO HQ HD HC QOp Has Upd Zo Gets Ye Z6 Zq X0 Z5 Zj X7 Zw
attribute [local irreducible] Z2 Yo
theorem Zi5 (T:Nat) (E:Nat→Addr) (bj bp ba:Nat) (m:Pl) (j:Jn) (deal:Int) (e:Ent) (L:Zb) (hG:Er T E [2,6] L) (hm:PlOk m) (hd:0≤deal∧deal<6) (he:0≤e.n∧e.n≤4294967296) :
  HC Tryz.prog 255 [pt bj 0,iv deal,.agg ⟨Zsr e⟩] (Yo bp ba m::jC bj bp j::L) (fun v L'=>v=eV T E (Zdy m deal e).2∧L'=Yo bp ba (Zdy m deal e).1::jC bj bp j::L):=by
 have k1 : ∀ L,Er T E [2,6] L→HC Tryz.prog 176 [pt bp 0,iv ((2*deal+e.n % 2)*18+18-1),iv 1] (Yo bp ba m::L) (fun v L'=>v = .tuple ⟨[bs (Up m (Zc4 deal e+18-1) 1).1,eV T E (Up m (Zc4 deal e+18-1) 1).2]⟩∧L'=Yo bp ba m::L):=fun L hg=>Zgb T E bp ba m (Zc4 deal e+18-1) 1 L hg hm.len
 have g0:=j0 bp j
 have kb : ∀ L,HC Tryz.prog 252 [.agg ⟨Zsr e⟩] L (fun v L'=>v=bs (Yk e)∧L'=L):=fun L=>Ze1 e L
 have lb:=Zav e
 have o1:=Znu hm deal e
 have o2:=Znv hm deal e
 have w1 : ∀ L,Er T E [2,6] L→HC Tryz.prog 287 [pt bp 0,iv ((2*deal+e.n % 2)*18+18-1),bs [0]] (Yo bp ba m::L) (fun v L'=>v=eV T E (Xd m (Zc4 deal e+18-1) [0]).2∧L'=Yo bp ba (Xd m (Zc4 deal e+18-1) [0]).1::L):=fun L hg=>Zas T E bp ba m (Zc4 deal e+18-1) [0] L hg hm.len (by simp) ⟨hm.lo,hm.hi⟩
 have w2 : ∀ L,Er T E [2,6] L→HC Tryz.prog 287 [pt bp 0,iv ((2*deal+e.n % 2)*18),bs (Yk e)] (Yo bp ba (Zhs m deal e).1::L) (fun v L'=>v=eV T E (Xd (Zhs m deal e).1 (Zc4 deal e) (Yk e)).2∧L'=Yo bp ba (Xd (Zhs m deal e).1 (Zc4 deal e) (Yk e)).1::L):=fun L hg=>Zas T E bp ba (Zhs m deal e).1 (Zc4 deal e) (Yk e) L hg o1.len (by omega) ⟨o1.lo,o1.hi⟩
 have w3 : ∀ L,Er T E [2,6] L→HC Tryz.prog 287 [pt bp 0,iv ((2*deal+e.n % 2)*18+18-1),bs [165]] (Yo bp ba (Zgx m deal e).1::L) (fun v L'=>v=eV T E (Xd (Zgx m deal e).1 (Zc4 deal e+18-1) [165]).2∧L'=Yo bp ba (Xd (Zgx m deal e).1 (Zc4 deal e+18-1) [165]).1::L):=fun L hg=>Zas T E bp ba (Zgx m deal e).1 (Zc4 deal e+18-1) Yh L hg o2.len (by simp [Yh]) ⟨o2.lo,o2.hi⟩
 refine Za (fun _ _=>Tryz.call255 _ _) Tryz.func255 rfl Tryz.ntmps255 (Nat.le_of_ble_eq_true rfl) ?_;simp only [Ze,Nat.reduceAdd]
 repeat' (first|refine uN ?_|refine Yd S ?_|(refine uB ?_;intro b)|(refine uP ?_ ?_<;>(intro h;((try simp only [zs,zq,reduceCtorEq] at h);try exact zx)))|fail)
 refine fo 1 ?_
 have fin : ∀ (b:Nat) (o:Obj) (m':Pl),LS (Yo bp ba m'::jC bj bp j::L).flatten (Yo bp ba m'::[(b,o)]::jC bj bp j::L).flatten:=fun b o m'=>LS.boths _ (LS.skip _ (LS.refl _))
 cases h1:(Up m (Zc4 deal e+18-1) 1).2 with
 | some x =>
  have e1:Zdy m deal e=(m,some x):=by simp [Zdy,Zgx,Zhs,h1]
  rw [h1] at k1
  refine gc (k1 _ ((hG.cons _).cons _)) ?_
  rintro v L' ⟨rfl,rfl⟩
  repeat' (first|refine uN ?_|refine Yd S ?_|(refine uB ?_;intro b)|(refine uP ?_ ?_<;>(intro h;((try simp only [zs,zq,reduceCtorEq] at h);try exact zx)))|fail)
  rw [e1]
  exact Xn (fin _ _ _) ⟨rfl,rfl⟩
 | none =>
  rw [h1] at k1
  refine gc (k1 _ ((hG.cons _).cons _)) ?_
  rintro v L' ⟨rfl,rfl⟩
  by_cases h0:(Up m (Zc4 deal e+18-1) 1).1=[0]
  ·have e1:Zhs m deal e=(m,none):=by simp [Zhs,h1,h0]
   rw [e1] at w2
   repeat' (first|refine uN ?_|refine Z0 S ?_|refine uC (kb _) ?_|refine Yy (fun _=>kb _) ?_|refine Yz (fun _=>kb _) ?_|refine Y0 (fun _=>kb _) ?_|refine Y1 (fun _=>kb _) ?_|(refine uB ?_;intro b)|(refine uP ?_ ?_<;>(intro h;((try simp only [zs,zq,reduceCtorEq] at h);try exact zx)))|refine da 101 ?_|fail)
   all_goals try exact absurd h0 h
   refine gc (w2 _ ((hG.cons _).cons _)) ?_
   rintro v L' ⟨rfl,rfl⟩
   have e2:Zgx m deal e=Xd m (Zc4 deal e) (Yk e):=by simp [Zgx,e1]
   rw [← e2]
   cases h2:(Zgx m deal e).2 with
   | some x =>
    have e3:Zdy m deal e=((Zgx m deal e).1,some x):=by simp [Zdy,h2]
    repeat' (first|refine uN ?_|refine Z0 S ?_|refine uC (kb _) ?_|refine Yy (fun _=>kb _) ?_|refine Yz (fun _=>kb _) ?_|refine Y0 (fun _=>kb _) ?_|refine Y1 (fun _=>kb _) ?_|(refine uB ?_;intro b)|(refine uP ?_ ?_<;>(intro h;((try simp only [zs,zq,reduceCtorEq] at h);try exact zx)))|refine da 101 ?_|fail)
    rw [e3]
    exact Xn (fin _ _ _) ⟨rfl,rfl⟩
   | none =>
    have e3:Zdy m deal e=Xd (Zgx m deal e).1 (Zc4 deal e+18-1) [165]:=by simp [Zdy,h2,Yh]
    rw [← e3] at w3
    repeat' (first|refine uN ?_|refine Z0 S ?_|refine uC (kb _) ?_|refine Yy (fun _=>kb _) ?_|refine Yz (fun _=>kb _) ?_|refine Y0 (fun _=>kb _) ?_|refine Y1 (fun _=>kb _) ?_|(refine uB ?_;intro b)|(refine uP ?_ ?_<;>(intro h;((try simp only [zs,zq,reduceCtorEq] at h);try exact zx)))|refine da 101 ?_|fail)
    refine gc (w3 _ ((hG.cons _).cons _)) ?_
    rintro v L' ⟨rfl,rfl⟩
    repeat' (first|refine uN ?_|refine Z0 S ?_|refine uC (kb _) ?_|refine Yy (fun _=>kb _) ?_|refine Yz (fun _=>kb _) ?_|refine Y0 (fun _=>kb _) ?_|refine Y1 (fun _=>kb _) ?_|(refine uB ?_;intro b)|(refine uP ?_ ?_<;>(intro h;((try simp only [zs,zq,reduceCtorEq] at h);try exact zx)))|refine da 101 ?_|fail)
    exact Xn (fin _ _ _) ⟨rfl,rfl⟩
  ·have e1:Zhs m deal e=Xd m (Zc4 deal e+18-1) [0]:=by simp [Zhs,h1,h0]
   rw [← e1] at w1
   repeat' (first|refine uN ?_|refine Z0 S ?_|refine uC (kb _) ?_|refine Yy (fun _=>kb _) ?_|refine Yz (fun _=>kb _) ?_|refine Y0 (fun _=>kb _) ?_|refine Y1 (fun _=>kb _) ?_|(refine uB ?_;intro b)|(refine uP ?_ ?_<;>(intro h;((try simp only [zs,zq,reduceCtorEq] at h);try exact zx)))|refine da 101 ?_|fail)
   all_goals try exact absurd h h0
   refine gc (w1 _ ((hG.cons _).cons _)) ?_
   rintro v L' ⟨rfl,rfl⟩
   cases h4:(Zhs m deal e).2 with
   | some x =>
    have e3:Zdy m deal e=((Zhs m deal e).1,some x):=by simp [Zdy,Zgx,h4]
    repeat' (first|refine uN ?_|refine Z0 S ?_|refine uC (kb _) ?_|refine Yy (fun _=>kb _) ?_|refine Yz (fun _=>kb _) ?_|refine Y0 (fun _=>kb _) ?_|refine Y1 (fun _=>kb _) ?_|(refine uB ?_;intro b)|(refine uP ?_ ?_<;>(intro h;((try simp only [zs,zq,reduceCtorEq] at h);try exact zx)))|refine da 101 ?_|fail)
    rw [e3]
    exact Xn (fin _ _ _) ⟨rfl,rfl⟩
   | none =>
    have e2:Zgx m deal e=Xd (Zhs m deal e).1 (Zc4 deal e) (Yk e):=by simp [Zgx,h4]
    rw [← e2] at w2
    repeat' (first|refine uN ?_|refine Z0 S ?_|refine uC (kb _) ?_|refine Yy (fun _=>kb _) ?_|refine Yz (fun _=>kb _) ?_|refine Y0 (fun _=>kb _) ?_|refine Y1 (fun _=>kb _) ?_|(refine uB ?_;intro b)|(refine uP ?_ ?_<;>(intro h;((try simp only [zs,zq,reduceCtorEq] at h);try exact zx)))|refine da 101 ?_|fail)
    refine gc (w2 _ ((hG.cons _).cons _)) ?_
    rintro v L' ⟨rfl,rfl⟩
    cases h2:(Zgx m deal e).2 with
    | some x =>
     have e3:Zdy m deal e=((Zgx m deal e).1,some x):=by simp [Zdy,h2]
     repeat' (first|refine uN ?_|refine Z0 S ?_|refine uC (kb _) ?_|refine Yy (fun _=>kb _) ?_|refine Yz (fun _=>kb _) ?_|refine Y0 (fun _=>kb _) ?_|refine Y1 (fun _=>kb _) ?_|(refine uB ?_;intro b)|(refine uP ?_ ?_<;>(intro h;((try simp only [zs,zq,reduceCtorEq] at h);try exact zx)))|refine da 101 ?_|fail)
     rw [e3]
     exact Xn (fin _ _ _) ⟨rfl,rfl⟩
    | none =>
     have e3:Zdy m deal e=Xd (Zgx m deal e).1 (Zc4 deal e+18-1) [165]:=by simp [Zdy,h2,Yh]
     rw [← e3] at w3
     repeat' (first|refine uN ?_|refine Z0 S ?_|refine uC (kb _) ?_|refine Yy (fun _=>kb _) ?_|refine Yz (fun _=>kb _) ?_|refine Y0 (fun _=>kb _) ?_|refine Y1 (fun _=>kb _) ?_|(refine uB ?_;intro b)|(refine uP ?_ ?_<;>(intro h;((try simp only [zs,zq,reduceCtorEq] at h);try exact zx)))|refine da 101 ?_|fail)
     refine gc (w3 _ ((hG.cons _).cons _)) ?_
     rintro v L' ⟨rfl,rfl⟩
     repeat' (first|refine uN ?_|refine Z0 S ?_|refine uC (kb _) ?_|refine Yy (fun _=>kb _) ?_|refine Yz (fun _=>kb _) ?_|refine Y0 (fun _=>kb _) ?_|refine Y1 (fun _=>kb _) ?_|(refine uB ?_;intro b)|(refine uP ?_ ?_<;>(intro h;((try simp only [zs,zq,reduceCtorEq] at h);try exact zx)))|refine da 101 ?_|fail)
     exact Xn (fin _ _ _) ⟨rfl,rfl⟩
end Go.HL
end

/-! JnF -/
section
namespace Go.HL
open Go Go.Proofs

def Ut (deal:Int) (s:St):Prop:=deal<0∨6≤deal∨s.ph<0∨255<s.ph∨s.pr<0∨s.att<0∨1048576<max s.pr s.att
instance (deal:Int) (s:St):Decidable (Ut deal s):=by unfold Ut;infer_instance
instance:DecidableEq St:=fun a b=>decidable_of_iff (a.ph=b.ph∧a.pr=b.pr∧a.att=b.att) (by
 obtain ⟨a1,a2,a3⟩:=a
 obtain ⟨b1,b2,b3⟩:=b
 simp)
theorem St.ext3 {a b:St} (h:a.ph=b.ph∧a.pr=b.pr∧a.att=b.att):a=b:=by
 obtain ⟨a1,a2,a3⟩:=a
 obtain ⟨b1,b2,b3⟩:=b
 simp_all
def Wu (m:Pl) (j:Jn) (deal:Int) (s:St):Pl × Jn × Option Nat:=
 if j.dead=true then (m,j,some 6) else if Ut deal s then (m,j,some 2) else
 if (j.l.getD deal.toNat Zl).s=s then (m,j,none) else
 if 4294967296≤(j.l.getD deal.toNat Zl).n+1 then (m,j,some 5) else
 match (Zdy m deal ⟨(j.l.getD deal.toNat Zl).n+1,s⟩).2 with
 | some x=>((Zdy m deal ⟨(j.l.getD deal.toNat Zl).n+1,s⟩).1,⟨j.l,true⟩,some x)
 | none=>((Zdy m deal ⟨(j.l.getD deal.toNat Zl).n+1,s⟩).1,⟨j.l.set deal.toNat ⟨(j.l.getD deal.toNat Zl).n+1,s⟩,j.dead⟩,none)
structure JnOk (j:Jn):Prop where
 len:j.l.length=6
 n0 : ∀ d,0≤(j.l.getD d Zl).n
 n1 : ∀ d,(j.l.getD d Zl).n≤4294967296
set_option maxHeartbeats 2000000 attribute [local irreducible] HW HO HQ HD HC QOp Has Upd Zo Gets Ye Z6 Zq X0 Z5 Zj X7 Zw
attribute [local irreducible] Z2 Yo
theorem Zr0 (T:Nat) (E:Nat→Addr) (bj bp ba:Nat) (m:Pl) (j:Jn) (deal:Int) (s:St) (L:Zb) (hG:Er T E [2,5,6] L) (hm:PlOk m) (hj:JnOk j) :
  HC Tryz.prog 184 [pt bj 0,iv deal,.agg ⟨sc s⟩] (Yo bp ba m::jC bj bp j::L) (fun v L'=>v=eV T E (Wu m j deal s).2.2∧L'=Yo bp ba (Wu m j deal s).1::jC bj bp (Wu m j deal s).2.1::L):=by
 have gd:=jdead (bp:=bp) hj.len
 by_cases h1:j.dead=true
 ·rw [h1] at gd
  rw [show Wu m j deal s=(m,j,some 6) from if_pos h1]
  refine Za (fun _ _=>Tryz.call184 _ _) Tryz.func184 rfl Tryz.ntmps184 (Nat.le_of_ble_eq_true rfl) ?_;simp only [Ze,Nat.reduceAdd]
  repeat' (first|refine uN ?_|refine Z0 S ?_|(refine uB ?_;intro b)|refine dg S 100 (fun _ _=>?_)|(refine uP ?_ ?_<;>(intro h;((try simp only [zs,zq,reduceCtorEq] at h);try exact zx)))|refine da 101 ?_|fail)
  exact Xn (LS.skip _ (LS.refl _)) ⟨rfl,rfl⟩
 by_cases h2:Ut deal s
 ·rw [show j.dead=false by simpa using h1] at gd
  rw [show Wu m j deal s=(m,j,some 2) by unfold Wu;rw [if_neg h1,if_pos h2]]
  unfold Ut at h2
  refine Za (fun _ _=>Tryz.call184 _ _) Tryz.func184 rfl Tryz.ntmps184 (Nat.le_of_ble_eq_true rfl) ?_;simp only [Ze,Nat.reduceAdd]
  repeat' (first|refine uN ?_|refine Z0 S ?_|(refine uB ?_;intro b)|refine dg S 100 (fun _ _=>?_)|(refine uP ?_ ?_<;>(intro h;((try simp only [zs,zq,reduceCtorEq] at h);try exact zx)))|refine da 101 ?_|fail)
  all_goals exact Xn (LS.skip _ (LS.refl _)) ⟨rfl,rfl⟩
 rw [show j.dead=false by simpa using h1] at gd
 have hb:=h2
 unfold Ut at hb
 obtain ⟨d,rfl⟩:=Int.eq_ofNat_of_zero_le (show 0≤deal by omega)
 have hd:d<6:=by omega
 have hlen:=hj.len
 have n0:=hj.n0 d
 have n1:=hj.n1 d
 have hp:Wu m j d s=if (j.l.getD d Zl).s=s then (m,j,none) else if 4294967296≤(j.l.getD d Zl).n+1 then (m,j,some 5) else
   match (Zdy m d ⟨(j.l.getD d Zl).n+1,s⟩).2 with
   | some x=>((Zdy m d ⟨(j.l.getD d Zl).n+1,s⟩).1,⟨j.l,true⟩,some x)
   | none=>((Zdy m d ⟨(j.l.getD d Zl).n+1,s⟩).1,⟨j.l.set d ⟨(j.l.getD d Zl).n+1,s⟩,j.dead⟩,none):=by
  unfold Wu;rw [if_neg h1,if_neg h2];rfl
 have he:j.l[d]? = some (j.l.getD d Zl):=by
  rw [List.getD,List.getElem?_eq_getElem (by omega)];rfl
 have g1:=Zk6 (bp:=bp) he
 have g2:=Znr (bp:=bp) he
 have pD:=jputsD (bp:=bp) hlen true
 have p1:=jputs (bp:=bp) (j:=j) (d:=d) ⟨(j.l.getD d Zl).n+1,s⟩ (by omega)
 have kw:=Zi5 T E bj bp ba m j d ⟨(j.l.getD d Zl).n+1,s⟩
 generalize hE:j.l.getD d Zl=e at *
 clear hj h2 he hE
 by_cases h3:e.s=s
 ·rw [hp,if_pos h3]
  subst h3
  refine Za (fun _ _=>Tryz.call184 _ _) Tryz.func184 rfl Tryz.ntmps184 (Nat.le_of_ble_eq_true rfl) ?_;simp only [Ze,Nat.reduceAdd]
  repeat' (first|refine uN ?_|refine Z0 S ?_|(refine uB ?_;intro b)|refine dg S 100 (fun _ _=>?_)|(refine uP ?_ ?_<;>(intro h;((try simp only [zs,zq,reduceCtorEq] at h);try exact zx)))|refine da 101 ?_|fail)
  exact Xn (LS.skip _ (LS.refl _)) ⟨rfl,rfl⟩
 have h3' : ¬ (e.s.ph=s.ph∧e.s.pr=s.pr∧e.s.att=s.att):=fun h=>h3 (St.ext3 h)
 by_cases h4:4294967296≤e.n+1
 ·rw [hp,if_neg h3,if_pos h4]
  refine Za (fun _ _=>Tryz.call184 _ _) Tryz.func184 rfl Tryz.ntmps184 (Nat.le_of_ble_eq_true rfl) ?_;simp only [Ze,Nat.reduceAdd]
  repeat' (first|refine uN ?_|refine Z0 S ?_|(refine uB ?_;intro b)|refine dg S 100 (fun _ _=>?_)|(refine uP ?_ ?_<;>(intro h;((try simp only [zs,zq,reduceCtorEq] at h);try exact zx)))|refine da 101 ?_|fail)
  exact Xn (LS.skip _ (LS.skip _ (LS.refl _))) ⟨rfl,rfl⟩
 ·rw [hp,if_neg h3,if_neg h4]
  have fin : ∀ (b b':Nat) (o o':Obj) (m':Pl) (c:List Zm),LS (Yo bp ba m'::c::L).flatten (Yo bp ba m'::c::[(b,o)]::[(b',o')]::L).flatten:=fun b b' o o' m' c=>LS.boths _ (LS.boths _ (LS.skip _ (LS.skip _ (LS.refl _))))
  refine Za (fun _ _=>Tryz.call184 _ _) Tryz.func184 rfl Tryz.ntmps184 (Nat.le_of_ble_eq_true rfl) ?_;simp only [Ze,Nat.reduceAdd]
  repeat' (first|refine uN ?_|refine Z0 S ?_|(refine uB ?_;intro b)|refine dg S 100 (fun _ _=>?_)|(refine uP ?_ ?_<;>(intro h;((try simp only [zs,zq,reduceCtorEq] at h);try exact zx)))|refine da 101 ?_|fail)
  refine fo 3 ?_
  refine fo 3 ?_
  refine gc (kw _ ((hG.cons _).cons _).sub hm (by omega) (by simp only;omega)) ?_
  rintro v L' ⟨rfl,rfl⟩
  cases h5:(Zdy m d ⟨e.n+1,s⟩).2 with
  | some x =>
   repeat' (first|refine uN ?_|refine Z0 S ?_|(refine uB ?_;intro b)|refine dg S 100 (fun _ _=>?_)|(refine uP ?_ ?_<;>(intro h;((try simp only [zs,zq,reduceCtorEq] at h);try exact zx)))|refine da 101 ?_|fail)
   exact Xn (fin _ _ _ _ _ _) ⟨rfl,rfl⟩
  | none =>
   repeat' (first|refine uN ?_|refine Z0 S ?_|(refine uB ?_;intro b)|refine dg S 100 (fun _ _=>?_)|(refine uP ?_ ?_<;>(intro h;((try simp only [zs,zq,reduceCtorEq] at h);try exact zx)))|refine da 101 ?_|fail)
   exact Xn (fin _ _ _ _ _ _) ⟨rfl,rfl⟩
end Go.HL
end

/-! TabA -/
section
namespace Go.HL
open Go Go.Proofs
set_option maxHeartbeats 2000000 attribute [local irreducible] HW HO HQ HD HC QOp Has Upd Zo Gets Ye Z6 Zq X0 Z5 Zj X7 Zw

def Vr (p:Int):Int:=if p=4 then 2 else if p=5 then 3 else 0
theorem Yb (p:Int) (L:Zb):HC Tryz.prog 131 [iv p] L (fun v L'=>v=iv (Vr p)∧L'=L):=by
 refine Za (fun _ _=>Tryz.call131 _ _) Tryz.func131 rfl Tryz.ntmps131 (Nat.le_of_ble_eq_true rfl) ?_;simp only [Ze,Nat.reduceAdd]
 repeat' (first|refine uN ?_|(refine uP ?_ ?_<;>(intro h;((try simp only [zs,zq,reduceCtorEq] at h);try exact zx)))|fail)
 all_goals (refine Yr rfl rfl ?_ ⟨?_,rfl⟩;(next=>(repeat (first|exact List.Sublist.refl _|apply List.Sublist.cons))))
 all_goals simp [Vr, *]
def mayS (a b:Int):Bool:=decide ((0≤a∧a≤5∧0≤b∧b≤5)∧(a=b∨a=0∨(a≠2∧a≠3∧b≠0∧(a=1∨b≠1))))
def Zmh (xs:List St) (p:Int):Bool:=xs.any fun s=>decide (s.ph=p)
def prep (s:St):Bool:=decide (s.ph=4∨s.ph=5)
def Vu:List St→Int→Bool→Int × Bool
 | [],b,first=>(b,first)
 | s::r,b,first=>if prep s then (if first || decide (b<s.att) then Vu r s.att false else Vu r b false) else Vu r b first
theorem Vx (r:List St) : ∀ (l:List St) (b:Int) (f:Bool),Vu (l++r) b f=Vu r (Vu l b f).1 (Vu l b f).2
 | [],b,f=>rfl
 | s::l,b,f=>by
  simp only [List.cons_append,Vu]
  split
  ·split
   ·exact Vx r l _ _
   ·exact Vx r l _ _
  ·exact Vx r l _ _
def Y8 (xs:List St):Int × Bool:=
 if Zmh xs 2 then (2,true) else if Zmh xs 3 then (3,true) else
 if xs.any (fun s=>decide (s.ph=4∧s.att=(Vu xs 0 true).1)) then (4,false) else (5,false)
end Go.HL
end

/-! WcA -/
section
namespace Go.HL
open Go Go.Proofs
def Wq (f:Fr):Prop:=f.fr<0∨6<f.fr∨f.to<0∨6<f.to∨f.dl<0∨5<f.dl∨f.kd<1∨7<f.kd∨f.att<0∨1048576<f.att∨f.s.pr<0∨1048576<f.s.pr∨f.s.att<0∨1048576<f.s.att∨f.s.ph<0∨5<f.s.ph
instance (f:Fr):Decidable (Wq f):=by unfold Wq;infer_instance
def Znf (f:Fr):Option Nat:=if Wq f then some 2 else none
set_option maxHeartbeats 2000000 attribute [local irreducible] HW HO HQ HD HC QOp Has Upd Zo Gets Ye Z6 Zq X0 Z5 Zj X7 Zw
set_option maxHeartbeats 1000000 in
theorem Zjw (T:Nat) (E:Nat→Addr) (f:Fr) (L:Zb) (hG:Er T E [2] L):HC Tryz.prog 182 [.agg ⟨fc f⟩] L (fun v L'=>v=eV T E (Znf f)∧L'=L):=by
 unfold Znf
 refine Za (fun _ _=>Tryz.call182 _ _) Tryz.func182 rfl Tryz.ntmps182 (Nat.le_of_ble_eq_true rfl) ?_;simp only [Ze,Nat.reduceAdd]
 repeat' (first|refine uN ?_|(refine uB ?_;intro b)|(refine uP ?_ ?_<;>(intro h;((try simp only [zs,zq,reduceCtorEq] at h);try exact zx)))|fail)
 refine Zrg 8 ?_
 repeat' (first|refine uN ?_|(refine uB ?_;intro b)|(refine uP ?_ ?_<;>(intro h;((try simp only [zs,zq,reduceCtorEq] at h);try exact zx)))|fail)
 all_goals first
  | (exact Xn uZ ⟨by rw [if_pos (by unfold Wq;omega)],rfl⟩;done)
  | (exact Xn uZ ⟨by rw [if_neg (by unfold Wq;omega)],rfl⟩;done)
end Go.HL
end

/-! StA -/
section
namespace Go.HL
open Go Go.Proofs
set_option maxHeartbeats 2000000 attribute [local irreducible] HW HO HQ HD HC QOp Has Upd Zo Gets Ye Z6 Zq X0 Z5 Zj X7 Zw
def Zek (sp bj mb:Nat) (id:Int):List Zm:=[(sp,.cells ⟨[pt bj 0,iv id,.map (some mb)]⟩ 187)]
def Zeq (mb:Nat) (es:List MapEntry) (ck:Nat):List Zm:=[(mb,.map ⟨es⟩ ck)]
def Zf0 (st:St):Bool:=decide (st.ph≠2∧st.ph≠3)
def askM (ref:Int→Bool) (f:Fr) (st:St):St:=if st.ph=0 then (if ref f.dl then { st with ph:=3 } else { st with ph:=1 }) else st
def Yq (ref:Int→Bool) (f:Fr) (st:St):St × Int × Bool:=
 if f.kd=1 then (askM ref f st,2,decide ((askM ref f st).ph≠3)) else
 if f.kd=3 then ({ st with pr:=max st.pr f.att },4,decide (st.pr<f.att)) else
 if f.kd=5 then (if Vr f.s.ph=0 then (st,0,false) else if Zf0 st=true∧st.pr≤f.att then (⟨f.s.ph,f.att,f.att⟩,6,true) else (st,6,false)) else
 if f.kd=7 then (if Zf0 st=true∧(f.s.ph=2∨f.s.ph=3) then { st with ph:=f.s.ph } else st,0,false) else (st,0,false)
set_option maxHeartbeats 1000000 in
theorem Zom (sp bj mb:Nat) (id:Int) (es:List MapEntry) (ck:Nat) (ref:Int→Bool) (f:Fr) (st:St) (L:Zb) (hF:Zw iv es ref) :
  HC Tryz.prog 183 [pt sp 0,.agg ⟨fc f⟩,.agg ⟨sc st⟩] (Zek sp bj mb id::Zeq mb es ck::L) (fun v L'=>v = .tuple ⟨[.agg ⟨sc (Yq ref f st).1⟩,iv (Yq ref f st).2.1,.bool (Yq ref f st).2.2]⟩∧L'=Zek sp bj mb id::Zeq mb es ck::L):=by
 unfold Yq
 have hop : ∀ b,Zf0 st=b→(b=true↔st.ph≠2∧st.ph≠3):=fun b h=>by rw [← h];simp [Zf0]
 generalize Zf0 st=op at *
 replace hop:=hop op rfl
 by_cases k1:f.kd=1
 ·rw [if_pos k1]
  unfold askM
  refine Za (fun _ _=>Tryz.call183 _ _) Tryz.func183 rfl Tryz.ntmps183 (Nat.le_of_ble_eq_true rfl) ?_;simp only [Ze,Nat.reduceAdd]
  repeat' (first|refine uN ?_|refine Yd S ?_|refine Yu S ?_|(refine uB ?_;intro b)|(refine uP ?_ ?_<;>(intro h;((try simp only [zs,zq,reduceCtorEq] at h);try exact zx)))|refine da 101 ?_|fail)
  all_goals refine sp3 (LS.skip _ (LS.skip _ (LS.skip _ (LS.refl _)))) ⟨?_,rfl⟩ (hx:=Vw S (hg:=Zd rfl (Zd rfl (Zd rfl Zx))))
  all_goals simp [sc, *]
 rw [if_neg k1]
 by_cases k3:f.kd=3
 ·rw [if_pos k3]
  refine Za (fun _ _=>Tryz.call183 _ _) Tryz.func183 rfl Tryz.ntmps183 (Nat.le_of_ble_eq_true rfl) ?_;simp only [Ze,Nat.reduceAdd]
  repeat' (first|refine uN ?_|refine Yd S ?_|refine Yu S ?_|(refine uB ?_;intro b)|(refine uP ?_ ?_<;>(intro h;((try simp only [zs,zq,reduceCtorEq] at h);try exact zx)))|refine da 101 ?_|fail)
  all_goals refine sp3 (LS.skip _ (LS.skip _ (LS.skip _ (LS.refl _)))) ⟨?_,rfl⟩ (hx:=Vw S (hg:=Zd rfl (Zd rfl (Zd rfl Zx))))
  all_goals simp [sc, *]
 rw [if_neg k3]
 by_cases k5:f.kd=5
 ·rw [if_pos k5]
  by_cases ha:Vr f.s.ph=0
  ·rw [if_pos ha]
   refine Za (fun _ _=>Tryz.call183 _ _) Tryz.func183 rfl Tryz.ntmps183 (Nat.le_of_ble_eq_true rfl) ?_;simp only [Ze,Nat.reduceAdd]
   repeat' (first|refine uN ?_|refine Yd S ?_|refine Yu S ?_|refine uC (Yb _ _) ?_|refine Yy (fun _=>Yb _ _) ?_|refine Yz (fun _=>Yb _ _) ?_|refine Y0 (fun _=>Yb _ _) ?_|refine Y1 (fun _=>Yb _ _) ?_|(refine uB ?_;intro b)|(refine uP ?_ ?_<;>(intro h;((try simp only [zs,zq,reduceCtorEq] at h);try exact zx)))|refine da 101 ?_|fail)
   all_goals refine sp3 (LS.skip _ (LS.skip _ (LS.skip _ (LS.refl _)))) ⟨?_,rfl⟩ (hx:=Vw S (hg:=Zd rfl (Zd rfl (Zd rfl Zx))))
   all_goals simp [sc]
  ·rw [if_neg ha]
   refine Za (fun _ _=>Tryz.call183 _ _) Tryz.func183 rfl Tryz.ntmps183 (Nat.le_of_ble_eq_true rfl) ?_;simp only [Ze,Nat.reduceAdd]
   repeat' (first|refine uN ?_|refine Yd S ?_|refine Yu S ?_|refine uC (Yb _ _) ?_|refine Yy (fun _=>Yb _ _) ?_|refine Yz (fun _=>Yb _ _) ?_|refine Y0 (fun _=>Yb _ _) ?_|refine Y1 (fun _=>Yb _ _) ?_|(refine uB ?_;intro b)|(refine uP ?_ ?_<;>(intro h;((try simp only [zs,zq,reduceCtorEq] at h);try exact zx)))|refine da 101 ?_|fail)
   all_goals refine sp3 (LS.skip _ (LS.skip _ (LS.skip _ (LS.refl _)))) ⟨?_,rfl⟩ (hx:=Vw S (hg:=Zd rfl (Zd rfl (Zd rfl Zx))))
   all_goals simp [sc,hop, *]
 rw [if_neg k5]
 by_cases k7:f.kd=7
 ·rw [if_pos k7]
  refine Za (fun _ _=>Tryz.call183 _ _) Tryz.func183 rfl Tryz.ntmps183 (Nat.le_of_ble_eq_true rfl) ?_;simp only [Ze,Nat.reduceAdd]
  repeat' (first|refine uN ?_|refine Yd S ?_|refine Yu S ?_|(refine uB ?_;intro b)|(refine uP ?_ ?_<;>(intro h;((try simp only [zs,zq,reduceCtorEq] at h);try exact zx)))|refine da 101 ?_|fail)
  all_goals refine sp3 (LS.skip _ (LS.skip _ (LS.skip _ (LS.refl _)))) ⟨?_,rfl⟩ (hx:=Vw S (hg:=Zd rfl (Zd rfl (Zd rfl Zx))))
  all_goals simp [sc,hop, *]
 rw [if_neg k7]
 refine Za (fun _ _=>Tryz.call183 _ _) Tryz.func183 rfl Tryz.ntmps183 (Nat.le_of_ble_eq_true rfl) ?_;simp only [Ze,Nat.reduceAdd]
 repeat' (first|refine uN ?_|refine Yd S ?_|refine Yu S ?_|(refine uB ?_;intro b)|(refine uP ?_ ?_<;>(intro h;((try simp only [zs,zq,reduceCtorEq] at h);try exact zx)))|refine da 101 ?_|fail)
 all_goals refine sp3 (LS.skip _ (LS.skip _ (LS.skip _ (LS.refl _)))) ⟨?_,rfl⟩ (hx:=Vw S (hg:=Zd rfl (Zd rfl (Zd rfl Zx))))
 all_goals simp [sc]
end Go.HL
end

/-! StB -/
section
namespace Go.HL
open Go Go.Proofs
def Zh7 (id:Int) (m:Pl):Option Nat:=if id<0∨7≤id then some 2 else if m.b.length<216 then some 2 else if m.off then some 6 else none
set_option maxHeartbeats 2000000 attribute [local irreducible] HW HO HQ HD HC QOp Has Upd Zo Gets Ye Z6 Zq X0 Z5 Zj X7 Zw
attribute [local irreducible] Z2 Yo
theorem Zdw (bj bp:Nat) (j:Jn) (d:Nat) (L:Zb) (hb:Has L bj (.cells ⟨Z2 bp j⟩ 261)) (hl:j.l.length=6) (hd:d<6):HC Tryz.prog 121 [pt bj 0,iv d] L (fun v L'=>v = .tuple ⟨[.agg ⟨sc (j.l.getD d Zl).s⟩,.nilIface]⟩∧L'=L):=by
 refine hcHas (fun L=>?_) hb
 have he:j.l[d]? = some (j.l.getD d Zl):=by
  rw [List.getD,List.getElem?_eq_getElem (by omega)];rfl
 have g1:=Zk6 (bp:=bp) he
 have g2:=Znr (bp:=bp) he
 refine Za (fun _ _=>Tryz.call121 _ _) Tryz.func121 rfl Tryz.ntmps121 (Nat.le_of_ble_eq_true rfl) ?_;simp only [Ze,Nat.reduceAdd]
 repeat' (first|refine uN ?_|refine Yd S ?_|refine Yu S ?_|(refine uB ?_;intro b)|refine dg S 100 (fun _ _=>?_)|(refine uP ?_ ?_<;>(intro h;((try simp only [zs,zq,reduceCtorEq] at h);try exact zx)))|refine da 101 ?_|fail)
 exact Wz (LS.skip _ (LS.refl _)) ⟨rfl,rfl⟩ (hx:=Vw S (hg:=Zd rfl (Zd rfl (Zd rfl Zx))))
theorem Zgg (T:Nat) (E:Nat→Addr) (id:Int) (bp ba:Nat) (m:Pl) (L:Zb) (hG:Er T E [2,3,6] L) (hm:m.b.length≤1000000):HC Tryz.prog 65 [iv id,pt bp 0] (Yo bp ba m::L) (fun v L'=>match Zh7 id m with
  | some e=>v = .tuple ⟨[.pointer none,eV T E (some e)]⟩∧L'=Yo bp ba m::L
  | none => ∃ sp bj mb,v = .tuple ⟨[pt sp 0,.nilIface]⟩∧L'=Zek sp bj mb id::Zeq mb [] 0::Yo bp ba m::jC bj bp ⟨Zv m.b,false⟩::L):=by
 have ko:=Zf1 T E bp ba m L hG.sub hm
 have hG2:=hG.cons (Yo bp ba m)
 unfold Zh7
 by_cases h1:id<0∨7≤id
 ·rw [if_pos h1]
  refine Za (fun _ _=>Tryz.call65 _ _) Tryz.func65 rfl Tryz.ntmps65 (Nat.le_of_ble_eq_true rfl) ?_;simp only [Ze,Nat.reduceAdd]
  repeat' (first|refine uN ?_|refine Z0 S ?_|(refine uB ?_;intro b)|refine dg S 100 (fun _ _=>?_)|(refine uP ?_ ?_<;>(intro h;((try simp only [zs,zq,reduceCtorEq] at h);try exact zx)))|refine da 101 ?_|fail)
  all_goals exact Wz (LS.refl _) ⟨rfl,rfl⟩
 rw [if_neg h1]
 by_cases h2:m.b.length<216
 ·simp only [if_pos h2] at ko ⊢
  refine Za (fun _ _=>Tryz.call65 _ _) Tryz.func65 rfl Tryz.ntmps65 (Nat.le_of_ble_eq_true rfl) ?_;simp only [Ze,Nat.reduceAdd]
  repeat' (first|refine uN ?_|refine Z0 S ?_|(refine uB ?_;intro b)|refine dg S 100 (fun _ _=>?_)|(refine uP ?_ ?_<;>(intro h;((try simp only [zs,zq,reduceCtorEq] at h);try exact zx)))|refine da 101 ?_|fail)
  refine gc ko ?_
  rintro v L' ⟨rfl,rfl⟩
  repeat' (first|refine uN ?_|refine Z0 S ?_|(refine uB ?_;intro b)|refine dg S 100 (fun _ _=>?_)|(refine uP ?_ ?_<;>(intro h;((try simp only [zs,zq,reduceCtorEq] at h);try exact zx)))|refine da 101 ?_|fail)
  exact Wz (LS.refl _) ⟨rfl,rfl⟩
 simp only [if_neg h2] at ko ⊢
 by_cases h3:m.off=true
 ·simp only [if_pos h3] at ko ⊢
  refine Za (fun _ _=>Tryz.call65 _ _) Tryz.func65 rfl Tryz.ntmps65 (Nat.le_of_ble_eq_true rfl) ?_;simp only [Ze,Nat.reduceAdd]
  repeat' (first|refine uN ?_|refine Z0 S ?_|(refine uB ?_;intro b)|refine dg S 100 (fun _ _=>?_)|(refine uP ?_ ?_<;>(intro h;((try simp only [zs,zq,reduceCtorEq] at h);try exact zx)))|refine da 101 ?_|fail)
  refine gc ko ?_
  rintro v L' ⟨rfl,rfl⟩
  repeat' (first|refine uN ?_|refine Z0 S ?_|(refine uB ?_;intro b)|refine dg S 100 (fun _ _=>?_)|(refine uP ?_ ?_<;>(intro h;((try simp only [zs,zq,reduceCtorEq] at h);try exact zx)))|refine da 101 ?_|fail)
  exact Wz (LS.refl _) ⟨rfl,rfl⟩
 simp only [if_neg h3] at ko ⊢
 refine Za (fun _ _=>Tryz.call65 _ _) Tryz.func65 rfl Tryz.ntmps65 (Nat.le_of_ble_eq_true rfl) ?_;simp only [Ze,Nat.reduceAdd]
 repeat' (first|refine uN ?_|refine Z0 S ?_|(refine uB ?_;intro b)|refine dg S 100 (fun _ _=>?_)|(refine uP ?_ ?_<;>(intro h;((try simp only [zs,zq,reduceCtorEq] at h);try exact zx)))|refine da 101 ?_|fail)
 refine gc ko ?_
 rintro v L' ⟨bj,rfl,rfl⟩
 repeat' (first|refine uN ?_|refine Z0 S ?_|(refine uB ?_;intro b)|refine dg S 100 (fun _ _=>?_)|(refine uP ?_ ?_<;>(intro h;((try simp only [zs,zq,reduceCtorEq] at h);try exact zx)))|refine da 101 ?_|fail)
 exact Wz uL ⟨_,_,_,rfl,rfl⟩
theorem Zjm (T:Nat) (E:Nat→Addr) (sp bj mb bp:Nat) (id:Int) (es:List MapEntry) (ck:Nat) (ref:Int→Bool) (j:Jn) (d:Int) (L:Zb) (hG:Er T E [2] L) (hl:j.l.length=6) (hF:Zw iv es ref) :
  HC Tryz.prog 67 [pt sp 0,iv d] (Zek sp bj mb id::Zeq mb es ck::jC bj bp j::L) (fun v L'=>if d<0∨6≤d then v=eV T E (some 2)∧L'=Zek sp bj mb id::Zeq mb es ck::jC bj bp j::L
   else ∃ es' ck',Zw iv es' (fun x=>if x=d then true else ref x)∧v = .nilIface∧L'=Zek sp bj mb id::Zeq mb es' ck'::jC bj bp j::L):=by
 have kg:=fun L hG=>Zhl T E bj bp j d L hG hl
 by_cases h:d<0∨6≤d
 ·simp only [if_pos h] at kg ⊢
  refine Za (fun _ _=>Tryz.call67 _ _) Tryz.func67 rfl Tryz.ntmps67 (Nat.le_of_ble_eq_true rfl) ?_;simp only [Ze,Nat.reduceAdd]
  repeat' (first|refine uN ?_|(refine uB ?_;intro b)|(refine uP ?_ ?_<;>(intro h;((try simp only [zs,zq,reduceCtorEq] at h);try exact zx)))|fail)
  refine fo 2 ?_
  refine gc (kg _ ((hG.cons _).cons _)) ?_
  rintro v L' ⟨rfl,rfl⟩
  repeat' (first|refine uN ?_|(refine uB ?_;intro b)|(refine uP ?_ ?_<;>(intro h;((try simp only [zs,zq,reduceCtorEq] at h);try exact zx)))|fail)
  exact Xn uL ⟨rfl,rfl⟩
 ·simp only [if_neg h] at kg ⊢
  refine Za (fun _ _=>Tryz.call67 _ _) Tryz.func67 rfl Tryz.ntmps67 (Nat.le_of_ble_eq_true rfl) ?_;simp only [Ze,Nat.reduceAdd]
  repeat' (first|refine uN ?_|(refine uB ?_;intro b)|(refine uP ?_ ?_<;>(intro h;((try simp only [zs,zq,reduceCtorEq] at h);try exact zx)))|fail)
  refine fo 2 ?_
  refine gc (kg _ ((hG.cons _).cons _)) ?_
  rintro v L' ⟨rfl,rfl⟩
  repeat' (first|refine uN ?_|(refine uB ?_;intro b)|(refine uP ?_ ?_<;>(intro h;((try simp only [zs,zq,reduceCtorEq] at h);try exact zx)))|fail)
  refine fo 3 ?_
  refine wmI S hF (fun es' ck' hF'=>?_)
  repeat' (first|refine uN ?_|(refine uB ?_;intro b)|(refine uP ?_ ?_<;>(intro h;((try simp only [zs,zq,reduceCtorEq] at h);try exact zx)))|fail)
  exact Xn uL ⟨_,_,hF',rfl,rfl⟩
end Go.HL
end

/-! StC -/
section
namespace Go.HL
open Go Go.Proofs
def Z3 (id:Int) (ref:Int→Bool) (m:Pl) (j:Jn) (f:Fr):Pl × Jn × List Fr × Option Nat:=
 if Wq f then (m,j,[],some 2) else if f.to≠id then (m,j,[],some 3) else
 match (Wu m j f.dl (Yq ref f (j.l.getD f.dl.toNat Zl).s).1).2.2 with
 | some e=>((Wu m j f.dl (Yq ref f (j.l.getD f.dl.toNat Zl).s).1).1,(Wu m j f.dl (Yq ref f (j.l.getD f.dl.toNat Zl).s).1).2.1,[],some e)
 | none=>((Wu m j f.dl (Yq ref f (j.l.getD f.dl.toNat Zl).s).1).1,(Wu m j f.dl (Yq ref f (j.l.getD f.dl.toNat Zl).s).1).2.1,
  if (Yq ref f (j.l.getD f.dl.toNat Zl).s).2.1=0 then [] else [⟨id,f.fr,f.dl,(Yq ref f (j.l.getD f.dl.toNat Zl).s).2.1,f.att,(Yq ref f (j.l.getD f.dl.toNat Zl).s).2.2,(Yq ref f (j.l.getD f.dl.toNat Zl).s).1⟩],none)
theorem vec_one {α:Type} {E sz:Nat} {enc:α→List Value} {b:Nat} (x:α) (hsz:(enc x).length=sz):Vec E sz enc (sl b 0 1 1) [x] [(b,.cells ⟨enc x⟩ E)]:=
 .inr ⟨b,1,[],rfl,by simp,by simp [hsz],by simp,by simp [hsz]⟩
set_option maxHeartbeats 2000000 attribute [local irreducible] HW HO HQ HD HC QOp Has Upd Zo Gets Ye Z6 Zq X0 Z5 Zj X7 Zw
attribute [local irreducible] Z2 Yo Wu Yq
set_option maxHeartbeats 1000000 in
theorem Zmc (T:Nat) (E:Nat→Addr) (sp bj mb bp ba:Nat) (id:Int) (es:List MapEntry) (ck:Nat) (ref:Int→Bool) (m:Pl) (j:Jn) (f:Fr) (L:Zb) (hG:Er T E [2,3,5,6] L) (hF:Zw iv es ref) (hm:PlOk m) (hj:JnOk j) :
  HC Tryz.prog 134 [pt sp 0,.agg ⟨fc f⟩] (Zek sp bj mb id::Zeq mb es ck::Yo bp ba m::jC bj bp j::L) (fun v L' => ∃ fv c,v = .tuple ⟨[fv,eV T E (Z3 id ref m j f).2.2.2]⟩∧Xs fv (Z3 id ref m j f).2.2.1 c ∧
   L'=Zek sp bj mb id::Zeq mb es ck::Yo bp ba (Z3 id ref m j f).1::jC bj bp (Z3 id ref m j f).2.1::c::L):=by
 have hG4:=(((hG.cons (jC bj bp j)).cons (Yo bp ba m)).cons (Zeq mb es ck)).cons (Zek sp bj mb id)
 have kc:=fun L hG=>Zjw T E f L hG
 unfold Z3 Znf at *
 by_cases hb:Wq f
 ·simp only [if_pos hb] at kc ⊢
  refine Za (fun _ _=>Tryz.call134 _ _) Tryz.func134 rfl Tryz.ntmps134 (Nat.le_of_ble_eq_true rfl) ?_;simp only [Ze,Nat.reduceAdd]
  repeat' (first|refine uN ?_|refine Yd S ?_|refine Yu S ?_|refine Vb (qC (kc _ (hG4.sub.cons _))) ?_|refine Zc9 (qC (kc _ (hG4.sub.cons _))) ?_|refine Yy (fun _=>kc _ (hG4.sub.cons _)) ?_|refine Yz (fun _=>kc _ (hG4.sub.cons _)) ?_|refine Y0 (fun _=>kc _ (hG4.sub.cons _)) ?_|refine Y1 (fun _=>kc _ (hG4.sub.cons _)) ?_|(refine uB ?_;intro b)|refine dg S 100 (fun _ _=>?_)|(refine uP ?_ ?_<;>(intro h;((try simp only [zs,zq,reduceCtorEq] at h);try exact zx)))|refine da 101 ?_|fail)
  exact Wz (L':=Zek sp bj mb id::Zeq mb es ck::Yo bp ba m::jC bj bp j::[]::L) (LS.skip _ (LS.refl _)) ⟨_,[],rfl,Yg,rfl⟩
 simp only [if_neg hb] at kc ⊢
 by_cases hto:f.to=id
 ·simp only [ne_eq,hto,not_true_eq_false,if_false]
  unfold Wq at hb
  obtain ⟨fr0,to0,dl0,kd0,at0,ys0,fs0⟩:=f
  simp only at hb hto ⊢
  subst hto
  obtain ⟨d,rfl⟩:=Int.eq_ofNat_of_zero_le (show 0≤dl0 by omega)
  have hd6:d<6:=by omega
  clear hb
  simp only [Int.toNat_natCast]
  have kg:=fun L h=>Zdw bj bp j d L h hj.len hd6
  generalize hst:(j.l.getD d Zl).s=st at *
  have kt:=fun L=>Zom sp bj mb to0 es ck ref ⟨fr0,to0,d,kd0,at0,ys0,fs0⟩ st L hF
  generalize htr:Yq ref ⟨fr0,to0,d,kd0,at0,ys0,fs0⟩ st=tr at *
  have kp:=Zr0 T E bj bp ba m j d tr.1
  generalize hpr:Wu m j d tr.1=pr at *
  refine Za (fun _ _=>Tryz.call134 _ _) Tryz.func134 rfl Tryz.ntmps134 (Nat.le_of_ble_eq_true rfl) ?_;simp only [Ze,Nat.reduceAdd]
  repeat' (first|refine uN ?_|refine Yd S ?_|refine Yu S ?_|refine Vb (qC (kc _ (hG4.sub.cons _))) ?_|refine Zc9 (qC (kc _ (hG4.sub.cons _))) ?_|refine Yy (fun _=>kc _ (hG4.sub.cons _)) ?_|refine Yz (fun _=>kc _ (hG4.sub.cons _)) ?_|refine Y0 (fun _=>kc _ (hG4.sub.cons _)) ?_|refine Y1 (fun _=>kc _ (hG4.sub.cons _)) ?_|(refine uB ?_;intro b)|refine dg S 100 (fun _ _=>?_)|(refine uP ?_ ?_<;>(intro h;((try simp only [zs,zq,reduceCtorEq] at h);try exact zx)))|refine da 101 ?_|fail)
  refine dcF 0 [(bj,.cells ⟨Z2 bp j⟩ 261)] (fun L hL=>kg L (hL _ (List.mem_singleton.2 rfl))) (fun p hp=>by
   rw [List.mem_singleton.1 hp]
   exact Zc (Zc (Zc (Zc Zh)))) ?_
  simp only [List.map_cons,List.map_nil,List.cons_append,List.nil_append]
  repeat' (first|refine uN ?_|refine Yd S ?_|refine Yu S ?_|refine Vb (qC (kc _ (hG4.sub.cons _))) ?_|refine Zc9 (qC (kc _ (hG4.sub.cons _))) ?_|refine Yy (fun _=>kc _ (hG4.sub.cons _)) ?_|refine Yz (fun _=>kc _ (hG4.sub.cons _)) ?_|refine Y0 (fun _=>kc _ (hG4.sub.cons _)) ?_|refine Y1 (fun _=>kc _ (hG4.sub.cons _)) ?_|(refine uB ?_;intro b)|refine dg S 100 (fun _ _=>?_)|(refine uP ?_ ?_<;>(intro h;((try simp only [zs,zq,reduceCtorEq] at h);try exact zx)))|refine da 101 ?_|fail)
  repeat' (first|refine uN ?_|refine Z0 S ?_|refine Vb (qC (hq2 kt 2 2)) ?_|refine Yy (fun _=>hq2 kt 2 2) ?_|refine Yz (fun _=>hq2 kt 2 2) ?_|refine Y0 (fun _=>hq2 kt 2 2) ?_|refine Y1 (fun _=>hq2 kt 2 2) ?_|(refine uB ?_;intro b)|refine dg S 100 (fun _ _=>?_)|(refine uP ?_ ?_<;>(intro h;((try simp only [zs,zq,reduceCtorEq] at h);try exact zx)))|refine da 101 ?_|fail)
  refine fo 6 ?_
  refine fo 6 ?_
  refine gc (kp _ (((((hG.cons _).cons _).cons _).cons _).cons _).sub hm hj) ?_
  rintro v L' ⟨rfl,rfl⟩
  cases he:pr.2.2 with
  | some e =>
   simp only
   repeat' (first|refine uN ?_|refine Z0 S ?_|(refine uB ?_;intro b)|refine dg S 100 (fun _ _=>?_)|(refine uP ?_ ?_<;>(intro h;((try simp only [zs,zq,reduceCtorEq] at h);try exact zx)))|refine da 101 ?_|fail)
   exact Wz (L':=Zek sp bj mb to0::Zeq mb es ck::Yo bp ba pr.1::jC bj bp pr.2.1::[]::L) uL ⟨_,[],rfl,Yg,rfl⟩
  | none =>
   simp only
   by_cases hk:tr.2.1=0
   ·simp only [if_pos hk]
    repeat' (first|refine uN ?_|refine Z0 S ?_|(refine uB ?_;intro b)|refine dg S 100 (fun _ _=>?_)|(refine uP ?_ ?_<;>(intro h;((try simp only [zs,zq,reduceCtorEq] at h);try exact zx)))|refine da 101 ?_|fail)
    exact Wz (L':=Zek sp bj mb to0::Zeq mb es ck::Yo bp ba pr.1::jC bj bp pr.2.1::[]::L) uL ⟨_,[],rfl,Yg,rfl⟩
   ·simp only [if_neg hk]
    repeat' (first|refine uN ?_|refine Z0 S ?_|(refine uB ?_;intro b)|refine dg S 100 (fun _ _=>?_)|(refine uP ?_ ?_<;>(intro h;((try simp only [zs,zq,reduceCtorEq] at h);try exact zx)))|refine da 101 ?_|fail)
    exact Wz (L':=Zek sp bj mb to0::Zeq mb es ck::Yo bp ba pr.1::jC bj bp pr.2.1::[(b,.cells ⟨fc ⟨to0,fr0,d,tr.2.1,at0,tr.2.2,tr.1⟩⟩ 131)]::L) (LS.p6 (LS.p6 (LS.p1 (LS.p1 (LS.p0 (LS.c (LS.c (LS.c (LS.refl _))))))))) ⟨_,_,rfl,vec_one _ rfl,rfl⟩
 ·simp only [ne_eq,hto,not_false_eq_true,if_true]
  refine Za (fun _ _=>Tryz.call134 _ _) Tryz.func134 rfl Tryz.ntmps134 (Nat.le_of_ble_eq_true rfl) ?_;simp only [Ze,Nat.reduceAdd]
  repeat' (first|refine uN ?_|refine Yd S ?_|refine Yu S ?_|refine Vb (qC (kc _ (hG4.sub.cons _))) ?_|refine Zc9 (qC (kc _ (hG4.sub.cons _))) ?_|refine Yy (fun _=>kc _ (hG4.sub.cons _)) ?_|refine Yz (fun _=>kc _ (hG4.sub.cons _)) ?_|refine Y0 (fun _=>kc _ (hG4.sub.cons _)) ?_|refine Y1 (fun _=>kc _ (hG4.sub.cons _)) ?_|(refine uB ?_;intro b)|refine dg S 100 (fun _ _=>?_)|(refine uP ?_ ?_<;>(intro h;((try simp only [zs,zq,reduceCtorEq] at h);try exact zx)))|refine da 101 ?_|fail)
  exact Wz (L':=Zek sp bj mb id::Zeq mb es ck::Yo bp ba m::jC bj bp j::[]::L) (LS.skip _ (LS.refl _)) ⟨_,[],rfl,Yg,rfl⟩
end Go.HL
end

/-! JnN -/
section
namespace Go.HL
open Go Go.Proofs
theorem Zr5 (s:List UInt8) (a:Nat):s.foldl (fun n b=>n*256+b.toNat) a=a*256 ^ s.length+U3 s:=by
 induction s generalizing a with
 | nil=>simp [U3]
 | cons b s ih =>
  rw [U3,List.foldl_cons,List.foldl_cons,ih,ih]
  simp only [List.length_cons,Nat.pow_succ]
  have e:a*256*256 ^ s.length=a*(256 ^ s.length*256):=by rw [Nat.mul_assoc,Nat.mul_comm 256]
  rw [Nat.add_mul,e,Nat.zero_mul,Nat.zero_add]
  omega
theorem rdN_cons (b:UInt8) (s:List UInt8):U3 (b::s)=b.toNat*256 ^ s.length+U3 s:=by
 rw [U3,List.foldl_cons,Zr5];simp
theorem bt_nat (n k:Nat):(bt (n:Int) k).toNat=n / 256 ^ k % 256:=by
 have h:=Znb (n:Int) k
 have e:(n:Int) / 2 ^ (8*k) % 256=((n / 256 ^ k % 256:Nat):Int):=by
  rw [Int.pow_mul]
  simp
 rw [e] at h
 exact Int.ofNat.inj h
theorem rdN_numB (n k:Nat):U3 (Wh (n:Int) k)=n % 256 ^ k:=by
 induction k with
 | zero=>simp [Wh,U3,Nat.mod_one]
 | succ k ih =>
  rw [Wh,rdN_cons,ih,bt_nat,Xa,Nat.pow_succ,Nat.mod_mul]
  rw [Nat.mul_comm,Nat.add_comm]
theorem Zjl {n:Int} {k:Nat} (h0:0≤n) (h1:n<256 ^ k):((U3 (Wh n k):Nat):Int)=n:=by
 obtain ⟨n,rfl⟩:=Int.eq_ofNat_of_zero_le h0
 rw [rdN_numB,Nat.mod_eq_of_lt]
 exact Int.ofNat_lt.1 (by simpa using h1)
end Go.HL
end

/-! JnG -/
section
namespace Go.HL
open Go Go.Proofs

structure EntOk (e:Ent):Prop where
 n0:1≤e.n
 n1:e.n<4294967296
 p0:0≤e.s.ph
 p1:e.s.ph≤255
 r0:0≤e.s.pr
 r1:e.s.pr≤1048576
 a0:0≤e.s.att
 a1:e.s.att≤1048576
theorem Zn7 {e:Ent} (h:EntOk e) (r:List UInt8):Zbm (Yk e++r)=e:=by
 obtain ⟨n,⟨p,q,a⟩⟩:=e
 have l1:=Xa n 4
 have l2:=Xa p 1
 have l3:=Xa q 4
 have l4:=Xa a 4
 have h1:=h.n0;have h2:=h.n1;have h3:=h.p0;have h4:=h.p1;have h5:=h.r0;have h6:=h.r1;have h7:=h.a0;have h8:=h.a1
 simp only at h1 h2 h3 h4 h5 h6 h7 h8
 have e1:Yk ⟨n,p,q,a⟩++r=Wh n 4++(Wh p 1++(Wh q 4++(Wh a 4++(Wh (crc (head ⟨n,p,q,a⟩)) 4++r)))):=by simp [Yk,head]
 have t1:(Yk ⟨n,p,q,a⟩++r).take 4=Wh n 4:=by rw [e1,List.take_left' l1]
 have t2:((Yk ⟨n,p,q,a⟩++r).take 5).drop 4=Wh p 1:=by
  rw [e1,← List.append_assoc,List.take_left' (by simp [l1,l2]),List.drop_left' l1]
 have t3:((Yk ⟨n,p,q,a⟩++r).take 9).drop 5=Wh q 4:=by
  rw [e1,← List.append_assoc,← List.append_assoc,List.take_left' (by simp [l1,l2,l3]),List.drop_left' (by simp [l1,l2])]
 have t4:((Yk ⟨n,p,q,a⟩++r).take 13).drop 9=Wh a 4:=by
  rw [e1,← List.append_assoc,← List.append_assoc,← List.append_assoc,List.take_left' (by simp [l1,l2,l3,l4]),List.drop_left' (by simp [l1,l2,l3])]
 unfold Zbm
 rw [t1,t2,t3,t4,Zjl (by omega) (by omega),Zjl (by omega) (by omega),Zjl (by omega) (by omega),Zjl (by omega) (by omega)]
theorem Zq9 {e:Ent} (h:EntOk e):Yw (e.n % 2) (Yk e++Yh)=e:=by
 rw [Uz,Zn7 h]
 rw [if_neg]
 have:=h.n0
 simp
 omega
theorem Ziz (k:Int) (s:List UInt8) (hs:4≤s.length):0≤(Yw k s).n∧(Yw k s).n<4294967296:=by
 rw [Uz]
 split
 ·simp
 ·have:=Zof (s.take 4)
  rw [show (s.take 4).length=4 by simp;omega] at this
  show 0≤((U3 (s.take 4):Nat):Int)∧((U3 (s.take 4):Nat):Int)<4294967296
  omega
theorem Zap (a b:Ent):(W9 a b).n=max a.n b.n:=by
 unfold W9
 split<;>omega
theorem Zh9 (Pr X R:List UInt8) (i:Nat) (hP:Pr.length=i*18) (hX:X.length=18):Yv (Pr++X++R) i=X:=by
 unfold Yv
 rw [List.append_assoc,List.drop_left' hP,List.take_left' hX]
theorem Zh8 (Pr X Y R:List UInt8) (i i':Nat) (hP:Pr.length=i*18) (hX:X.length=18) (hY:Y.length=18) (h:i'≠i):Yv (Pr++X++R) i'=Yv (Pr++Y++R) i':=by
 unfold Yv
 rcases Nat.lt_or_gt_of_ne h with h|h
 ·have e : ∀ Z:List UInt8,((Pr++Z++R).drop (i'*18)).take 18=(Pr.drop (i'*18)).take 18:=fun Z=>by
   rw [List.append_assoc,List.drop_append_of_le_length (by omega),List.take_append_of_le_length (by simp;omega)]
  rw [e,e]
 ·have e : ∀ Z:List UInt8,Z.length=18→((Pr++Z++R).drop (i'*18)).take 18=(R.drop (i'*18-(i*18+18))).take 18:=fun Z hZ=>by
   have hl:(Pr++Z).length=i*18+18:=by simp [hP,hZ]
   rw [List.drop_append,hl,List.drop_of_length_le (by omega),List.nil_append]
  rw [e X hX,e Y hY]
theorem Zoj (Pr S X R:List UInt8) (h:X.length=S.length):X4 (Pr++S++R) Pr.length X=Pr++X++R:=by
 unfold X4
 have e1:(Pr++S++R).take Pr.length=Pr:=by rw [List.append_assoc,List.take_left' rfl]
 have e2:(Pr++S++R).drop (Pr.length+X.length)=R:=by rw [List.drop_left' (by simp [h])]
 rw [e1,e2]
end Go.HL
end

/-! JnH -/
section
namespace Go.HL
open Go Go.Proofs

theorem cut_slot (b:List UInt8) (i:Nat) (h:i*18+18≤b.length) : ∃ Pr S c R,b=Pr++(S++[c])++R∧Pr.length=i*18∧S.length=17:=by
 have hd:i*18+17<b.length:=by omega
 refine ⟨b.take (i*18),(b.drop (i*18)).take 17,b[i*18+17],b.drop (i*18+18),?_,by simp;omega,by simp;omega⟩
 have e1:b.drop (i*18)=(b.drop (i*18)).take 17++b.drop (i*18+17):=by
  have:=(List.take_append_drop 17 (b.drop (i*18))).symm
  rwa [List.drop_drop] at this
 have e2:b.drop (i*18+17)=b[i*18+17]::b.drop (i*18+18):=List.drop_eq_getElem_cons hd
 have e3:=(List.take_append_drop (i*18) b).symm
 rw [e1,e2] at e3
 simpa using e3
theorem Za2 {Pr S X R:List UInt8} {n:Nat} (hn:n=Pr.length) (h:X.length=S.length):X4 (Pr++S++R) n X=Pr++X++R:=by
 subst hn;exact Zoj Pr S X R h
theorem Zpz {b:List UInt8} {d:Nat} (hd:d<6) (hl:216≤b.length) (k:Nat) (hk:k≤2):0≤(Wb b d k).n∧(Wb b d k).n<4294967296:=by
 induction k with
 | zero=>simp [Wb,Zl]
 | succ k ih =>
  have h1:=ih (by omega)
  have h2:=Ziz k (Yv b (2*d+k)) (by rw [Zcv _ _ (by omega) hl];omega)
  rw [Wb,Zap]
  omega
theorem deal_new {b b':List UInt8} {d:Nat} {e:Ent} (hl:216≤b.length) (hd:d<6) (he:EntOk e) (hn:e.n=(Y2 b d).n+1) {Pr S R:List UInt8} (hb:b=Pr++S++R) (hb':b'=Pr++(Yk e++Yh)++R) (hP:Pr.length=(2*d+(e.n % 2).toNat)*18) (hS:S.length=18) :
  Zv b'=(Zv b).set d e:=by
 have hX:(Yk e++Yh).length=18:=by simp [Zav,Yh]
 have hk:e.n % 2=0∨e.n % 2=1:=by omega
 have here:Yv b' (2*d+(e.n % 2).toNat)=Yk e++Yh:=by rw [hb'];exact Zh9 _ _ _ _ hP hX
 have els : ∀ i,i≠2*d+(e.n % 2).toNat→Yv b' i=Yv b i:=fun i hi=>by rw [hb,hb'];exact Zh8 _ _ _ _ _ _ hP hX hS hi
 have hh:=Zq9 he
 have h0:=he.n0
 have hd2:Y2 b' d=e:=by
  have q1:Y2 b d=W9 (W9 Zl (Yw 0 (Yv b (2*d+0)))) (Yw 1 (Yv b (2*d+1))):=rfl
  have q2:Y2 b' d=W9 (W9 Zl (Yw 0 (Yv b' (2*d+0)))) (Yw 1 (Yv b' (2*d+1))):=rfl
  have m1:(Y2 b d).n=max (max 0 (Yw 0 (Yv b (2*d+0))).n) (Yw 1 (Yv b (2*d+1))).n:=by rw [q1,Zap,Zap];rfl
  rcases hk with hk|hk
  ·rw [hk] at here hh els
   rw [q2,show Yv b' (2*d+0)=Yk e++Yh from here,hh,els (2*d+1) (by simp)]
   have u1:W9 Zl e=e:=by unfold W9;rw [if_pos (by show (0:Int)<e.n;omega)]
   rw [u1]
   unfold W9
   rw [if_neg (by omega)]
  ·rw [hk] at here hh els
   rw [q2,show Yv b' (2*d+1)=Yk e++Yh from here,hh,els (2*d+0) (by simp)]
   have u1:(W9 Zl (Yw 0 (Yv b (2*d+0)))).n=max 0 (Yw 0 (Yv b (2*d+0))).n:=by rw [Zap];rfl
   generalize W9 Zl (Yw 0 (Yv b (2*d+0)))=u at *
   unfold W9
   rw [if_pos (by omega)]
 have hdo : ∀ i,i≠d→Y2 b' i=Y2 b i:=fun i hi=>by
  unfold Y2 Wb Wb Wb
  rw [els (2*i+0) (by omega),els (2*i+1) (by omega)]
 apply List.ext_getElem?
 intro i
 rw [List.getElem?_set]
 by_cases hi:d=i
 ·subst hi
  simp [Zv,hd,hd2]
 ·simp only [hi,if_false,Zv,List.getElem?_map]
  by_cases h6:i<6
  ·simp [h6,hdo i (fun h=>hi h.symm)]
  ·simp [h6]
structure Good (m:Pl) (j:Jn):Prop where
 off:m.off=false
 cut:m.cut = -1
 lo:216≤m.b.length
 hi:m.b.length≤1000000
 dead:j.dead=false
 l:j.l=Zv m.b
theorem Zh1 {b:List UInt8} {d:Nat} (hd:d<6):(Zv b).getD d Zl=Y2 b d:=by simp [Zv,hd]
theorem Zpy {b:List UInt8} (hl:216≤b.length):JnOk ⟨Zv b,false⟩:=by
 have key : ∀ d,0≤((Zv b).getD d Zl).n∧((Zv b).getD d Zl).n<4294967296:=fun d=>by
  by_cases hd:d<6
  ·rw [Zh1 hd];exact Zpz hd hl 2 (by omega)
  ·simp [Zv,hd,Zl]
 exact ⟨by simp [Zv],fun d=>(key d).1,fun d=>by have:=(key d).2;show ((Zv b).getD d Zl).n≤_;omega⟩
theorem Good.ok {m:Pl} {j:Jn} (h:Good m j):PlOk m∧JnOk j:=by
 obtain ⟨jl,jd⟩:=j
 have h1:=h.dead
 have h2:=h.l
 simp only at h1 h2
 subst h1;subst h2
 exact ⟨⟨h.hi,by rw [h.cut];decide,by rw [h.cut];decide⟩,Zpy h.lo⟩
theorem Zn6 {n:Nat} (h:216≤n):Zv (Z4 n)=List.replicate 6 Zl:=by
 have hs : ∀ i,i<12→Yv (Z4 n) i=Z4 18:=fun i hi=>by
  unfold Yv Z4
  rw [List.drop_replicate,List.take_replicate,Nat.min_eq_left (by omega)]
 have hh : ∀ k,Yw k (Z4 18)=Zl:=fun k=>by
  rw [Uz,if_pos (.inl (by decide))];rfl
 have hd : ∀ d,d<6→Y2 (Z4 n) d=Zl:=fun d hd=>by
  unfold Y2 Wb Wb Wb
  rw [hs _ (by omega),hs _ (by omega),hh,hh]
  rfl
 apply List.ext_getElem?
 intro i
 by_cases h:i<6
 ·rw [List.getElem?_replicate,if_pos h];simp [Zv,h,hd i h]
 ·simp [Zv,h]
theorem Zsp (n:Nat):(Z4 n).length=n:=by simp [Z4]
end Go.HL
end

/-! JnK -/
section
namespace Go.HL
open Go Go.Proofs
def Uy (c:Int) (n:Nat):Int:=if c = -1 then -1 else c-n
theorem Zou {b:List UInt8} {c a:Int} {s:List UInt8} (h0:0≤a) (h1:a+s.length≤b.length) :
  Xd ⟨b,false,c⟩ a s=Zdm ⟨b,false,c⟩ a.toNat s:=by
 unfold Xd Vv
 simp only [Bool.false_eq_true,if_false]
 rw [if_neg (by omega)]
theorem Zgt {b:List UInt8} {c:Int} {a:Nat} {s:List UInt8} (h:c = -1∨s.length≤c.toNat):Zdm ⟨b,false,c⟩ a s=(⟨X4 b a s,false,Uy c s.length⟩,none):=by
 have hk:kM ⟨b,false,c⟩ s.length=s.length:=by
  unfold kM;split
  ·rfl
  ·rcases h with h|h
   ·contradiction
   ·simp only;omega
 simp [Zdm,hk,Uy]
theorem Zdn {b:List UInt8} {c:Int} {a:Nat} {s:List UInt8} (h0:0≤c) (h:c.toNat<s.length):Zdm ⟨b,false,c⟩ a s=(⟨X4 b a (s.take c.toNat),true,0⟩,some 6):=by
 have hk:kM ⟨b,false,c⟩ s.length=c.toNat:=by
  unfold kM;rw [if_neg (by simp only;omega)];simp only;omega
 simp only [Zdm,hk]
 rw [if_neg (by omega),if_pos h]
 simp [h]
 omega
theorem read_C {b:List UInt8} {c a:Int} {n:Int} (h0:0≤a) (h2:0≤n) (h1:a+n≤b.length):Up ⟨b,false,c⟩ a n=((b.drop a.toNat).take n.toNat,none):=by
 unfold Up Vv
 simp only [Bool.false_eq_true,if_false]
 rw [if_neg (by omega)]
def JW (b:List UInt8) (Pr R:List UInt8) (e:Ent) (r:Pl × Option Nat):Prop:=
 (r.2=none∧r.1.off=false∧r.1.b=Pr++(Yk e++Yh)++R ∧ -1≤r.1.cut) ∨
 (r.2=some 6∧r.1.off=true∧r.1.cut=0∧(r.1.b=b ∨ ∃ X,X.length=17∧r.1.b=Pr++(X++[0])++R))
theorem jw_cut {b:List UInt8} {ct:Int} {d:Nat} {e:Ent} (hct : -1≤ct) (hl:216≤b.length) (hd:d<6) (he:0≤e.n) : ∃ Pr S c R,b=Pr++(S++[c])++R∧Pr.length=(2*d+(e.n % 2).toNat)*18∧S.length=17 ∧
  JW b Pr R e (Zdy ⟨b,false,ct⟩ d e):=by
 have hk:0≤e.n % 2∧e.n % 2<2:=by omega
 obtain ⟨Pr,S,c,R,hb,hP,hS⟩:=cut_slot b (2*d+(e.n % 2).toNat) (by omega)
 refine ⟨Pr,S,c,R,hb,hP,hS,?_⟩
 have hlen:b.length=(2*d+(e.n % 2).toNat)*18+18+R.length:=by rw [hb];simp [hP,hS];omega
 have ha:Zc4 d e=((Pr.length:Nat):Int):=by unfold Zc4;omega
 have lb:=Zav e
 have r1:Up ⟨b,false,ct⟩ (Zc4 d e+18-1) 1=([c],none):=by
  rw [read_C (by omega) (by omega) (by omega)]
  have e1:(Zc4 (d:Int) e+18-1).toNat=(Pr++S).length:=by simp [hS];omega
  rw [e1,hb,← List.append_assoc,List.append_assoc (Pr++S),List.drop_left' rfl]
  rfl
 have w1:(∃ c1,-1≤c1∧Zhs ⟨b,false,ct⟩ d e=(⟨Pr++(S++[0])++R,false,c1⟩,none))∨Zhs ⟨b,false,ct⟩ d e=(⟨b,true,0⟩,some 6):=by
  unfold Zhs
  rw [r1]
  simp only
  split
  ·rename_i h
   refine .inl ⟨ct,hct,?_⟩
   rw [hb,show c=0 by simpa using h]
  ·have hz:Pr++(S++[c])++R=(Pr++S)++[c]++R:=by simp
   rw [Zou (by omega) (by simp;omega)]
   by_cases hc:ct = -1∨1≤ct.toNat
   ·refine .inl ⟨Uy ct 1,by unfold Uy;split<;>omega,?_⟩
    rw [Zgt (by simpa using hc),hb,hz,Za2 (S:=[c]) (X:=[0]) (by simp [hS];omega) rfl]
    simp
   ·refine .inr ?_
    rw [Zdn (by omega) (by simp;omega),show ct.toNat=0 by omega]
    simp [Zb4]
 unfold JW Zdy Zgx
 rcases w1 with ⟨c1,hc1,w1⟩|w1
 ·rw [w1]
  simp only
  have hl1:(Pr++(S++[0])++R).length=b.length:=by rw [hb];simp
  have hz:Pr++(S++[0])++R=Pr++S++([0]++R):=by simp
  rw [Zou (by omega) (by rw [hl1];omega)]
  by_cases hc:c1 = -1∨17≤c1.toNat
  ·rw [Zgt (by rw [lb];exact hc),hz,Za2 (by omega) (by omega)]
   simp only
   have hl2:(Pr++Yk e++([0]++R)).length=b.length:=by rw [hb];simp [lb,hS]
   have hz2:Pr++Yk e++([0]++R)=(Pr++Yk e)++[0]++R:=by simp
   have hc2 : -1≤Uy c1 17:=by unfold Uy;split<;>omega
   rw [lb,Zou (by omega) (by rw [hl2];simp [Yh];omega)]
   by_cases hc3:Uy c1 17 = -1∨1≤(Uy c1 17).toNat
   ·left
    rw [Zgt (by simpa [Yh] using hc3),hz2,Za2 (S:=[0]) (X:=Yh) (by simp [lb];omega) rfl]
    refine ⟨rfl,rfl,by simp,?_⟩
    show -1≤Uy (Uy c1 17) 1
    generalize Uy c1 17=q at *
    unfold Uy;split<;>omega
   ·right
    rw [Zdn (by omega) (by simp [Yh];omega),show (Uy c1 17).toNat=0 by omega]
    refine ⟨rfl,rfl,rfl,.inr ⟨Yk e,lb,?_⟩⟩
    simp [Zb4]
  ·right
   rw [Zdn (by omega) (by omega),hz]
   refine ⟨rfl,rfl,rfl,.inr ⟨(Yk e).take c1.toNat++S.drop c1.toNat,by simp [lb,hS];omega,?_⟩⟩
   have hS2:S=S.take c1.toNat++S.drop c1.toNat:=(List.take_append_drop _ _).symm
   have:Pr++S++([0]++R)=Pr++S.take c1.toNat++(S.drop c1.toNat++([0]++R)):=by
    rw [← List.append_assoc (Pr++S.take c1.toNat),List.append_assoc Pr (S.take c1.toNat),← hS2]
   show X4 (Pr++S++([0]++R)) _ _=_
   rw [this,Za2 (by omega) (by simp [lb,hS])]
   simp
 ·right
  rw [w1]
  exact ⟨rfl,rfl,rfl,.inl rfl⟩
theorem Zhq {k:Int} {X:List UInt8}:Yw k (X++[0])=Zl:=by
 rw [Uz]
 split
 ·rfl
 ·rename_i h
  exfalso
  apply h
  right;right
  intro e
  have:=congrArg List.getLast? e
  simp [Yh] at this
theorem Zk1 {k:Int} {s:List UInt8} (h:(Yw k s).n≠0):(Yw k s).n % 2=k:=by
 rw [Uz] at *
 split at h
 ·exact absurd rfl h
 ·rename_i hc
  rw [if_neg hc]
  by_cases e:(Zbm s).n % 2=k
  ·exact e
  ·exact absurd (.inr (.inl e)) hc
theorem deal_zap {b b':List UInt8} {d:Nat} (hl:216≤b.length) (hd:d<6) {Pr S R X:List UInt8} {st:Int} (hst:st=((Y2 b d).n+1) % 2) (hb:b=Pr++S++R) (hb':b'=Pr++(X++[0])++R) (hP:Pr.length=(2*d+st.toNat)*18) (hS:S.length=18) (hX:X.length=17) :
  Zv b'=Zv b:=by
 have hX':(X++[0]).length=18:=by simp [hX]
 have hk:st=0∨st=1:=by omega
 have here:Yv b' (2*d+st.toNat)=X++[0]:=by rw [hb'];exact Zh9 _ _ _ _ hP hX'
 have els : ∀ i,i≠2*d+st.toNat→Yv b' i=Yv b i:=fun i hi=>by rw [hb,hb'];exact Zh8 _ _ _ _ _ _ hP hX' hS hi
 have q1:Y2 b d=W9 (W9 Zl (Yw 0 (Yv b (2*d+0)))) (Yw 1 (Yv b (2*d+1))):=rfl
 have q2:Y2 b' d=W9 (W9 Zl (Yw 0 (Yv b' (2*d+0)))) (Yw 1 (Yv b' (2*d+1))):=rfl
 have m1:(Y2 b d).n=max (max 0 (Yw 0 (Yv b (2*d+0))).n) (Yw 1 (Yv b (2*d+1))).n:=by rw [q1,Zap,Zap];rfl
 have l0:=Zcv b (2*d+0) (by omega) hl
 have l1:=Zcv b (2*d+1) (by omega) hl
 have n0:=Ziz 0 (Yv b (2*d+0)) (by omega)
 have n1:=Ziz 1 (Yv b (2*d+1)) (by omega)
 have p0:=Zk1 (k:=0) (s:=Yv b (2*d+0))
 have p1:=Zk1 (k:=1) (s:=Yv b (2*d+1))
 have hz : ∀ e:Ent,e.n=0→W9 Zl e=Zl:=fun e h=>by unfold W9;rw [if_neg (by show ¬ (0:Int)<e.n;omega)]
 have hd2:Y2 b' d=Y2 b d:=by
  rcases hk with rfl|rfl
  ·rw [q2,show Yv b' (2*d+0)=X++[0] from here,Zhq,els (2*d+1) (by simp),q1]
   generalize Yw 0 (Yv b (2*d+0))=u at *
   generalize Yw 1 (Yv b (2*d+1))=v at *
   have hzz:W9 Zl Zl=Zl:=by unfold W9;rw [if_neg (by show ¬ (0:Int)<0;omega)]
   rw [hzz]
   have hun:(W9 Zl u).n=max 0 u.n:=by rw [Zap];rfl
   generalize hw:W9 Zl u=w at *
   have hlt:w.n<v.n:=by
    by_cases hu0:u.n=0
    ·omega
    ·have:=p0 hu0
     omega
   unfold W9
   rw [if_pos (by show (0:Int)<v.n;omega),if_pos hlt]
  ·rw [q2,show Yv b' (2*d+1)=X++[0] from here,Zhq,els (2*d+0) (by simp),q1]
   generalize Yw 0 (Yv b (2*d+0))=u at *
   generalize Yw 1 (Yv b (2*d+1))=v at *
   have hun:(W9 Zl u).n=max 0 u.n:=by rw [Zap];rfl
   generalize W9 Zl u=w at *
   have hle:v.n≤w.n:=by
    by_cases hv0:v.n=0
    ·omega
    ·have:=p1 hv0
     omega
   unfold W9
   rw [if_neg (by show ¬ w.n<(0:Int);omega),if_neg (by omega)]
 have hdo : ∀ i,i≠d→Y2 b' i=Y2 b i:=fun i hi=>by
  unfold Y2 Wb Wb Wb
  rw [els (2*i+0) (by omega),els (2*i+1) (by omega)]
 unfold Zv
 apply List.map_congr_left
 intro i hi
 by_cases e:i=d
 ·subst e;exact hd2
 ·exact hdo i e
structure JI (m:Pl) (j:Jn):Prop where
 lo:216≤m.b.length
 hi:m.b.length≤1000000
 c0 : -1≤m.cut
 c1:m.cut≤9223372036854775807
 off:j.dead=m.off
 l:j.l=Zv m.b
theorem JI.pl {m:Pl} {j:Jn} (h:JI m j):PlOk m:=⟨h.hi,h.c0,h.c1⟩
theorem JI.jn {m:Pl} {j:Jn} (h:JI m j):JnOk j:=by
 have:=Zpy h.lo
 exact ⟨by rw [h.l];exact this.len,by rw [h.l];exact this.n0,by rw [h.l];exact this.n1⟩
theorem put_any {m:Pl} {j:Jn} (h:JI m j) (deal:Int) (s:St):JI (Wu m j deal s).1 (Wu m j deal s).2.1∧(Wu m j deal s).1.b.length=m.b.length ∧
    (((Wu m j deal s).2.1.l=j.l∧(((Wu m j deal s).2.2=some 6∧(Wu m j deal s).1.off=true)∨(Wu m j deal s).2.2=some 2∧Ut deal s∨(Wu m j deal s).2.2=some 5∧4294967296≤(j.l.getD deal.toNat Zl).n+1)) ∨
     (¬ Ut deal s∧(Wu m j deal s).2.2=none∧m.off=false∧(Wu m j deal s).1.off=false∧(((j.l.getD deal.toNat Zl).s=s∧(Wu m j deal s).2.1.l=j.l∧(Wu m j deal s).1=m) ∨
        (j.l.getD deal.toNat Zl).s≠s∧(Wu m j deal s).2.1.l=j.l.set deal.toNat ⟨(j.l.getD deal.toNat Zl).n+1,s⟩))):=by
  obtain ⟨b,off,cut⟩:=m
  obtain ⟨jl,dead⟩:=j
  have hJ:=h
  obtain ⟨h1,h2,h3,h4,h5,h6⟩:=h
  simp only at h1 h2 h3 h4 h5 h6
  subst h5;subst h6
  unfold Wu
  by_cases hdd:dead=true
  · subst hdd
    simp only [if_true]
    exact ⟨hJ,by trivial,.inl ⟨by trivial,.inl ⟨by trivial,by trivial⟩⟩⟩
  have hdd':dead=false:=by simpa using hdd
  subst hdd'
  simp only [Bool.false_eq_true,if_false]
  by_cases hb:Ut deal s
  · rw [if_pos hb]
    exact ⟨hJ,by trivial,.inl ⟨by trivial,.inr (.inl ⟨by trivial,hb⟩)⟩⟩
  rw [if_neg hb]
  have hb2:=hb
  unfold Ut at hb2
  obtain ⟨d,rfl⟩:=Int.eq_ofNat_of_zero_le (show 0≤deal by omega)
  have hd:d<6:=by omega
  simp only [Int.toNat_natCast,Zh1 hd]
  by_cases he:(Y2 b d).s=s
  · rw [if_pos he]
    exact ⟨hJ,rfl,.inr ⟨hb,by trivial,by trivial,by trivial,.inl ⟨he,by trivial,by trivial⟩⟩⟩
  rw [if_neg he]
  by_cases hf:4294967296≤(Y2 b d).n+1
  · rw [if_pos hf]
    exact ⟨hJ,rfl,.inl ⟨rfl,.inr (.inr ⟨by trivial,hf⟩)⟩⟩
  rw [if_neg hf]
  have hn:=Zpz hd h1 2 (by omega)
  have hn':0≤(Y2 b d).n∧(Y2 b d).n<4294967296:=hn
  obtain ⟨Pr,S,c,R,e1,e2,e3,hjw⟩:=jw_cut (b:=b) (d:=d) (ct:=cut) (e:=⟨(Y2 b d).n+1,s⟩) h3 h1 hd (by simp only;omega)
  have hpl:=jwM_ok hJ.pl d ⟨(Y2 b d).n+1,s⟩
  generalize Zdy ⟨b,false,cut⟩ d ⟨(Y2 b d).n+1,s⟩=r at *
  obtain ⟨⟨b',off',cut'⟩,er⟩:=r
  simp only [JW] at hjw
  rcases hjw with ⟨rfl,rfl,rfl,hc⟩|⟨rfl,rfl,rfl,hc⟩
  · have hok:EntOk ⟨(Y2 b d).n+1,s⟩:=⟨by simp only;omega,by simp only;omega,by simp only;omega,by simp only;omega,by simp only;omega,by simp only;omega,by simp only;omega,by simp only;omega⟩
    have hnew:=deal_new (b':=Pr++(Yk ⟨(Y2 b d).n+1,s⟩++Yh)++R) h1 hd hok rfl e1 rfl e2 (by simp [e3])
    have hL:(Pr++(Yk ⟨(Y2 b d).n+1,s⟩++Yh)++R).length=b.length:=by rw [e1];simp [Zav,Yh,e3]
    refine ⟨⟨by rw [hL];exact h1,by rw [hL];exact h2,hc,hpl.hi,rfl,hnew.symm⟩,hL,.inr ⟨hb,by trivial,by trivial,by trivial,.inr ⟨he,by trivial⟩⟩⟩
  · have hopen:Zv b'=Zv b:=by
      rcases hc with hc|⟨X,hX,hc⟩
      · rw [hc]
      · exact deal_zap h1 hd rfl e1 hc e2 (by simp [e3]) hX
    have hL:b'.length=b.length:=by
      rcases hc with hc|⟨X,hX,hc⟩
      · rw [hc]
      · rw [hc,e1];simp [hX,e3]
    refine ⟨⟨by rw [hL];exact h1,by rw [hL];exact h2,by simp,by simp,rfl,hopen.symm⟩,hL,.inl ⟨by trivial,.inl ⟨by trivial,by trivial⟩⟩⟩
theorem JI.cut {m:Pl} {j:Jn} (h:JI m j) {n:Int} (h0:0≤n) (h1:n≤9223372036854775807):JI { m with cut:=n } j:=⟨h.lo,h.hi,by simp only;omega,h1,h.off,h.l⟩
theorem JI.boot {m:Pl} {j:Jn} (h:JI m j):JI { m with off:=false,cut := -1 } ⟨Zv m.b,false⟩:=⟨h.lo,h.hi,by simp,by simp,rfl,rfl⟩
end Go.HL
end

/-! StD -/
section
namespace Go.HL
open Go Go.Proofs
def Zgi (s:St):Prop:=0≤s.ph∧s.ph≤5∧0≤s.att∧s.att≤s.pr∧s.pr≤1048576
def stLe (a b:St):Prop:=a.pr≤b.pr∧a.att≤b.att∧mayS a.ph b.ph=true
theorem V2 {a:St} (h:Zgi a):stLe a a:=by
 obtain ⟨h1,h2,-⟩:=h
 exact ⟨Int.le_refl _,Int.le_refl _,decide_eq_true (by omega)⟩
def Y4 (j:Jn) (d:Nat):St:=(j.l.getD d Zl).s
theorem afterS_pos {p:Int}:Vr p≠0↔p=4∨p=5:=by unfold Vr;split<;>(try split)<;>omega
theorem Zp6 {ref:Int→Bool} {f:Fr} {st:St} (h:Zgi st) (hf : ¬ Wq f):Zgi (Yq ref f st).1∧stLe st (Yq ref f st).1:=by
 obtain ⟨h1,h2,h3,h4,h5⟩:=h
 unfold Wq at hf
 unfold Yq
 split
 ·unfold askM
  split
  ·split
   ·exact ⟨⟨by simp,by simp,h3,h4,h5⟩,by simp,by simp,decide_eq_true (by simp only;omega)⟩
   ·exact ⟨⟨by simp,by simp,h3,h4,h5⟩,by simp,by simp,decide_eq_true (by simp only;omega)⟩
  ·exact ⟨⟨h1,h2,h3,h4,h5⟩,V2 ⟨h1,h2,h3,h4,h5⟩⟩
 split
 ·have e1:st.pr≤max st.pr f.att:=Int.le_max_left _ _
  have e2:max st.pr f.att≤1048576:=by omega
  exact ⟨⟨h1,h2,h3,Int.le_trans h4 e1,e2⟩,e1,Int.le_refl _,decide_eq_true (by show _∧(st.ph=st.ph∨_);exact ⟨⟨h1,h2,h1,h2⟩,.inl rfl⟩)⟩
 split
 ·split
  ·exact ⟨⟨h1,h2,h3,h4,h5⟩,V2 ⟨h1,h2,h3,h4,h5⟩⟩
  ·rename_i ha
   have ha':=afterS_pos.1 ha
   split
   ·rename_i ho
    have ho':st.ph≠2∧st.ph≠3:=by simpa [Zf0] using ho.1
    exact ⟨⟨by simp only;omega,by simp only;omega,by simp only;omega,by simp,by simp only;omega⟩,by simp only;omega,by simp only;omega,decide_eq_true (by simp only;omega)⟩
   ·exact ⟨⟨h1,h2,h3,h4,h5⟩,V2 ⟨h1,h2,h3,h4,h5⟩⟩
 split
 ·split
  ·rename_i ho
   have ho':st.ph≠2∧st.ph≠3:=by simpa [Zf0] using ho.1
   exact ⟨⟨by simp only;omega,by simp only;omega,h3,h4,h5⟩,by simp,by simp,decide_eq_true (by simp only;omega)⟩
  ·exact ⟨⟨h1,h2,h3,h4,h5⟩,V2 ⟨h1,h2,h3,h4,h5⟩⟩
 ·exact ⟨⟨h1,h2,h3,h4,h5⟩,V2 ⟨h1,h2,h3,h4,h5⟩⟩
structure SI (m:Pl) (j:Jn):Prop where
 ji:JI m j
 st : ∀ d,d<6→Zgi (Y4 j d)
theorem SI.boot {m:Pl} {j:Jn} (h:SI m j):SI { m with off:=false,cut := -1 } ⟨Zv m.b,false⟩:=⟨h.ji.boot,fun d hd=>by have:=h.st d hd;unfold Y4 at *;rw [h.ji.l] at this;exact this⟩
theorem SI.cut {m:Pl} {j:Jn} (h:SI m j) {n:Int} (h0:0≤n) (h1:n≤9223372036854775807):SI { m with cut:=n } j:=⟨h.ji.cut h0 h1,h.st⟩
theorem Zme {id:Int} {ref:Int→Bool} {m:Pl} {j:Jn} (h:SI m j) (f:Fr):SI (Z3 id ref m j f).1 (Z3 id ref m j f).2.1∧(Z3 id ref m j f).1.b.length=m.b.length∧(∀ d,d<6→stLe (Y4 j d) (Y4 (Z3 id ref m j f).2.1 d)) ∧
  (((Z3 id ref m j f).2.2.1=[])∨(¬ Wq f∧f.to=id∧(Z3 id ref m j f).2.2.2=none∧(Yq ref f (Y4 j f.dl.toNat)).2.1≠0∧Y4 (Z3 id ref m j f).2.1 f.dl.toNat=(Yq ref f (Y4 j f.dl.toNat)).1 ∧
   (∀ d,d<6→d≠f.dl.toNat→Y4 (Z3 id ref m j f).2.1 d=Y4 j d) ∧
   (Z3 id ref m j f).2.2.1=[⟨id,f.fr,f.dl,(Yq ref f (Y4 j f.dl.toNat)).2.1,f.att,(Yq ref f (Y4 j f.dl.toNat)).2.2,(Yq ref f (Y4 j f.dl.toNat)).1⟩])):=by
 unfold Z3
 have same : ∀ d,d<6→stLe (Y4 j d) (Y4 j d):=fun d hd=>V2 (h.st d hd)
 by_cases hb:Wq f
 ·simp only [if_pos hb]
  exact ⟨h,by trivial,same,.inl (by trivial)⟩
 simp only [if_neg hb]
 by_cases hto:f.to=id
 ·simp only [ne_eq,hto,not_true_eq_false,if_false]
  have hb2:=hb
  unfold Wq at hb2
  obtain ⟨d,hd⟩:=Int.eq_ofNat_of_zero_le (show 0≤f.dl by omega)
  have hd6:d<6:=by omega
  rw [hd]
  simp only [Int.toNat_natCast]
  show _∧_∧_∧_
  have ht:=Zp6 (ref:=ref) (h.st d hd6) hb
  change Zgi (Yq ref f (j.l.getD d Zl).s).1∧stLe (Y4 j d) (Yq ref f (j.l.getD d Zl).s).1 at ht
  have est:Y4 j d=(j.l.getD d Zl).s:=rfl
  rw [est]
  generalize htr:Yq ref f (j.l.getD d Zl).s=tr at *
  have hp:=put_any h.ji d tr.1
  generalize Wu m j d tr.1=r at *
  obtain ⟨m',j',er⟩:=r
  simp only at hp ⊢
  obtain ⟨hJ,hL,hp⟩:=hp
  rcases hp with ⟨hl,he⟩|⟨hnb,he,ho,ho',hp⟩
  ·have hsame : ∀ q,Y4 j' q=Y4 j q:=fun q=>by unfold Y4;rw [hl]
   have hS:SI m' j':=⟨hJ,fun q hq=>by rw [hsame];exact h.st q hq⟩
   have he2 : ∃ x,er=some x:=by
    rcases he with ⟨he,-⟩|⟨he,-⟩|⟨he,-⟩<;>exact ⟨_,he⟩
   obtain ⟨x,rfl⟩:=he2
   exact ⟨hS,hL,fun q hq=>by rw [hsame];exact same q hq,.inl rfl⟩
  ·subst he
   simp only [Int.toNat_natCast] at hp
   have hlen:j.l.length=6:=h.ji.jn.len
   have hst':Y4 j' d=tr.1 ∧ ∀ q,q≠d→Y4 j' q=Y4 j q:=by
    rcases hp with ⟨h1,h2,-⟩|⟨h1,h2⟩
    ·refine ⟨by unfold Y4;rw [h2,h1],fun q _=>by unfold Y4;rw [h2]⟩
    ·refine ⟨by unfold Y4;rw [h2];simp [List.getD,hlen,hd6],fun q hq=>by unfold Y4;rw [h2];simp [List.getD,List.getElem?_set,Ne.symm hq]⟩
   have hS:SI m' j':=⟨hJ,fun q hq=>by
    by_cases e:q=d
    ·rw [e,hst'.1];exact ht.1
    ·rw [hst'.2 q e];exact h.st q hq⟩
   refine ⟨hS,hL,fun q hq=>?_,?_⟩
   ·by_cases e:q=d
    ·rw [e,hst'.1];exact ht.2
    ·rw [hst'.2 q e];exact same q hq
   ·by_cases hk:tr.2.1=0
    ·exact .inl (if_pos hk)
    ·exact .inr ⟨hb,by trivial,rfl,hk,hst'.1,fun q _ hq=>hst'.2 q hq,if_neg hk⟩
 ·simp only [ne_eq,hto,not_false_eq_true,if_true]
  exact ⟨h,by trivial,same,.inl (by trivial)⟩
end Go.HL
end

/-! TabB -/
section
namespace Go.HL
open Go Go.Proofs
set_option maxHeartbeats 2000000 attribute [local irreducible] HW HO HQ HD HC QOp Has Upd Zo Gets Ye Z6 Zq X0 Z5 Zj X7 Zw

theorem Zok (s:St) (b:Nat) (p:Int) (L:Zb) {F:Nat} {fr:Nat × Nat} (hb:Has L b (.cells ⟨[iv p]⟩ F fr)) :
  HC Tryz.prog 181 [.agg ⟨sc s⟩,pt b 0] L (fun v L'=>v = .bool (decide (s.ph=p))∧L'=L):=by
 refine Za (fun _ _=>Tryz.call181 _ _) Tryz.func181 rfl Tryz.ntmps181 (Nat.le_of_ble_eq_true rfl) ?_;simp only [Ze,Nat.reduceAdd]
 repeat' (first|refine uN ?_|(refine uB ?_;intro b)|fail)
 (refine Yr rfl rfl ?_ ⟨?_,rfl⟩;(next=>(repeat (first|exact List.Sublist.refl _|apply List.Sublist.cons))))
 rfl
theorem Ziw {xs:List St} {f:St→Bool} {j:Int} (h0:0≤j) (hlt:j<xs.length) (hn:(xs.take j.toNat).any f=false) (h:f (xs[j.toNat]'(by omega))=true):xs.any f=true∧(xs.findIdx f:Int)=j:=by
 have hj:j.toNat<xs.length:=by omega
 refine ⟨List.any_eq_true.2 ⟨_,List.getElem_mem hj,h⟩,?_⟩
 have:xs.findIdx f=j.toNat:=by
  rw [List.findIdx_eq hj]
  refine ⟨h,fun k hk=>?_⟩
  rw [List.any_eq_false] at hn
  have hk':k<(xs.take j.toNat).length:=by simp;omega
  have:=hn _ (List.getElem_mem hk')
  rw [List.getElem_take] at this
  simpa using this
 omega
theorem Zk3 (a:Option Addr) (cap:Nat) (xs:List St) (F:Nat) (cs:List Value) (f:St→Bool) (L:Zb) (hR:Rd sc 3 L a xs) (hl:xs.length≤1000000)
  (hf : ∀ s,HC Tryz.prog F (.agg ⟨sc s⟩::cs) L (fun v L'=>v = .bool (f s)∧L'=L)) :
  HC Tryz.prog 254 [.slice a xs.length cap,.func (.func F) #[] ⟨cs⟩] L (fun v L'=>v=iv (if xs.any f then (xs.findIdx f:Int) else -1)∧L'=L):=by
 refine Za (fun _ _=>Tryz.call254 _ _) Tryz.func254 rfl Tryz.ntmps254 (Nat.le_of_ble_eq_true rfl) ?_;simp only [Ze,Nat.reduceAdd]
 repeat' (first|refine uN ?_|(refine uP ?_ ?_<;>(intro h;((try simp only [zs,zq,reduceCtorEq] at h);try exact zx)))|fail)
 refine Zz (σ:=Int) (fun j=>[(0,.slice a xs.length cap),(1,.func (.func F) #[] ⟨cs⟩),(6,.slice a xs.length cap),(7,iv xs.length),(8,iv j)]) (fun _=>L) (fun j=>0≤j∧j≤xs.length∧(xs.take j.toNat).any f=false) (fun j=>(xs.length-j).toNat) 0 uS (List.Sublist.refl _) ⟨by omega,by omega,by simp⟩ ?_
 rintro j ⟨h0,h1,h2⟩
 by_cases hlt:j<xs.length
 ·obtain ⟨b,i,l,E,fr,rfl,hb,hg⟩:=hR.at h0 hlt
  repeat' (first|refine uN ?_|refine uC (hf _) ?_|(refine uP ?_ ?_<;>(intro h;((try simp only [zs,zq,reduceCtorEq] at h);try exact zx)))|fail)
  ·(refine Yr rfl rfl ?_ ⟨?_,rfl⟩;(next=>(repeat (first|exact List.Sublist.refl _|apply List.Sublist.cons))))
   obtain ⟨e1,e2⟩:=Ziw h0 hlt h2 (by assumption)
   rw [if_pos e1,e2]
  ·exact Zp (j+1) uS (List.Sublist.refl _) ⟨by omega,by omega,by rw [U7 h0 hlt,List.any_append,h2];simp [*]⟩ (by omega)
 ·repeat' (first|refine uN ?_|(refine uP ?_ ?_<;>(intro h;((try simp only [zs,zq,reduceCtorEq] at h);try exact zx)))|fail)
  (refine Yr rfl rfl ?_ ⟨?_,rfl⟩;(next=>(repeat (first|exact List.Sublist.refl _|apply List.Sublist.cons))))
  rw [Zal hlt] at h2
  rw [if_neg (by simp [h2])]
theorem Ze5 (a:Option Addr) (cap:Nat) (xs:List St) (F:Nat) (cs:List Value) (f:St→Bool) (L:Zb) (hR:Rd sc 3 L a xs) (hl:xs.length≤1000000)
  (hf : ∀ s,HC Tryz.prog F (.agg ⟨sc s⟩::cs) L (fun v L'=>v = .bool (f s)∧L'=L)) :
  HC Tryz.prog 180 [.slice a xs.length cap,.func (.func F) #[] ⟨cs⟩] L (fun v L'=>v = .bool (xs.any f)∧L'=L):=by
 refine Za (fun _ _=>Tryz.call180 _ _) Tryz.func180 rfl Tryz.ntmps180 (Nat.le_of_ble_eq_true rfl) ?_;simp only [Ze,Nat.reduceAdd]
 repeat' (first|refine uN ?_|refine uC (Zk3 _ _ _ _ _ f _ hR hl hf) ?_|fail)
 (refine Yr rfl rfl ?_ ⟨?_,rfl⟩;(next=>(repeat (first|exact List.Sublist.refl _|apply List.Sublist.cons))))
 refine congrArg Value.bool ?_
 cases hx:xs.any f<;>simp
theorem Zhn (p:Int) (a:Option Addr) (cap:Nat) (xs:List St) (L:Zb) (b E:Nat) (fr:Nat × Nat) (hb:Has L b (.cells ⟨[.slice a xs.length cap]⟩ E fr)) (hR:Rd sc 3 L a xs) (hl:xs.length≤1000000) :
  HC Tryz.prog 179 [iv p,pt b 0] L (fun v L'=>v = .bool (Zmh xs p)∧L'=L):=by
 refine Za (fun _ _=>Tryz.call179 _ _) Tryz.func179 rfl Tryz.ntmps179 (Nat.le_of_ble_eq_true rfl) ?_;simp only [Ze,Nat.reduceAdd]
 repeat' (first|refine uN ?_|refine Vb (qC (Ze5 _ _ _ _ _ (fun s=>decide (s.ph=p)) _ (hR.cons _) hl (fun s=>Zok s _ p _ Zh))) ?_|(refine uB ?_;intro b)|fail)
 (refine Yr rfl rfl ?_ ⟨?_,rfl⟩;(next=>(repeat (first|exact List.Sublist.refl _|apply List.Sublist.cons))))
 rfl
def Zid (m s:St):St:=if prep s then (if m.ph=0∨m.att<s.att∨(s.att=m.att∧s.ph=4) then s else m) else m
def Vt (xs:List St):St:=xs.foldl Zid ⟨0,0,0⟩
theorem Zez (xs:List St) (s:St):Vt (xs++[s])=Zid (Vt xs) s:=by simp [Vt]
def BI (xs:List St) (m:St) (b:Int × Bool):Prop:=
 (m=⟨0,0,0⟩∧b=(0,true) ∧ ∀ s∈xs,prep s=false) ∨
 (b=(m.att,false)∧(m.ph=4∧(∃ s∈xs,s.ph=4∧s.att=m.att)∨m.ph=5 ∧ ∀ s∈xs,¬ (s.ph=4∧s.att=m.att)) ∧ ∀ s∈xs,prep s=true→s.att≤m.att)
theorem bi_step (xs:List St) (m s:St) (b:Int × Bool) (h:BI xs m b):BI (xs++[s]) (Zid m s) (Vu [s] b.1 b.2):=by
 unfold BI at *
 simp only [Vu,Zid,List.mem_append,List.mem_singleton]
 by_cases hp:prep s=true
 ·have hp':s.ph=4∨s.ph=5:=by simpa [prep] using hp
  rw [if_pos hp,if_pos hp]
  right
  rcases h with ⟨rfl,rfl,hall⟩|⟨rfl,hm,hle⟩
  ·simp only [Bool.true_or,if_true,true_or]
   refine ⟨trivial,?_,?_⟩
   ·rcases hp' with h4|h5
    ·exact .inl ⟨h4,s,.inr rfl,h4,rfl⟩
    ·refine .inr ⟨h5,fun x hx h=>?_⟩
     rcases hx with hx|rfl
     ·have:=hall x hx;simp [prep,h.1] at this
     ·omega
   ·intro x hx hpx
    rcases hx with hx|rfl
    ·rw [hall x hx] at hpx;cases hpx
    ·omega
  ·have hm0:m.ph≠0:=by rcases hm with h|h<;>omega
   simp only [Bool.false_or,decide_eq_true_eq]
   by_cases hlt:m.att<s.att
   ·rw [if_pos hlt,if_pos (.inr (.inl hlt))]
    refine ⟨rfl,?_,?_⟩
    ·rcases hp' with h4|h5
     ·exact .inl ⟨h4,s,.inr rfl,h4,rfl⟩
     ·refine .inr ⟨h5,fun x hx h=>?_⟩
      rcases hx with hx|rfl
      ·have:=hle x hx (by simp [prep,h.1]);omega
      ·omega
    ·intro x hx hpx
     rcases hx with hx|rfl
     ·have:=hle x hx hpx;omega
     ·omega
   ·rw [if_neg hlt]
    by_cases he:s.att=m.att∧s.ph=4
    ·rw [if_pos (.inr (.inr he))]
     refine ⟨by rw [he.1],.inl ⟨he.2,s,.inr rfl,he.2,rfl⟩,?_⟩
     intro x hx hpx
     rcases hx with hx|rfl
     ·have:=hle x hx hpx;omega
     ·omega
    ·rw [if_neg (by simp [hm0,hlt];omega)]
     refine ⟨rfl,?_,?_⟩
     ·rcases hm with ⟨h4,x,hx,hx2⟩|⟨h5,hno⟩
      ·exact .inl ⟨h4,x,.inl hx,hx2⟩
      ·refine .inr ⟨h5,fun x hx h=>?_⟩
       rcases hx with hx|rfl
       ·exact hno x hx h
       ·exact he ⟨h.2,h.1⟩
     ·intro x hx hpx
      rcases hx with hx|rfl
      ·exact hle x hx hpx
      ·omega
 ·have hp':prep s=false:=by simpa using hp
  have h4:s.ph≠4:=fun e=>by simp [prep,e] at hp
  rw [if_neg hp,if_neg hp]
  rcases h with ⟨rfl,rfl,hall⟩|⟨rfl,hm,hle⟩
  ·refine .inl ⟨rfl,rfl,fun x hx=>?_⟩
   rcases hx with hx|rfl
   ·exact hall x hx
   ·exact hp'
  ·refine .inr ⟨rfl,?_,fun x hx hpx=>?_⟩
   ·rcases hm with ⟨h4',x,hx,hx2⟩|⟨h5,hno⟩
    ·exact .inl ⟨h4',x,.inl hx,hx2⟩
    ·refine .inr ⟨h5,fun x hx h=>?_⟩
     rcases hx with hx|rfl
     ·exact hno x hx h
     ·exact h4 h.1
   ·rcases hx with hx|rfl
    ·exact hle x hx hpx
    ·rw [hp'] at hpx;cases hpx
theorem bi_all (xs:List St):BI xs (Vt xs) (Vu xs 0 true):=by
 have key : ∀ ys:List St,BI ys.reverse (Vt ys.reverse) (Vu ys.reverse 0 true):=by
  intro ys
  induction ys with
  | nil=>exact .inl ⟨rfl,rfl,by simp⟩
  | cons s ys ih =>
   rw [List.reverse_cons,Zez,Vx]
   exact bi_step _ _ s _ ih
 simpa using key xs.reverse
theorem best_inv (xs:List St) :
  (Vt xs=⟨0,0,0⟩∧(Vu xs 0 true)=(0,true)∧xs.all (fun s => !prep s)=true) ∨
  ((Vt xs).ph=4∧Vu xs 0 true=((Vt xs).att,false)∧xs.any (fun s=>decide (s.ph=4∧s.att=(Vt xs).att))=true) ∨
  ((Vt xs).ph=5∧Vu xs 0 true=((Vt xs).att,false)∧xs.any (fun s=>decide (s.ph=4∧s.att=(Vt xs).att))=false):=by
 rcases bi_all xs with ⟨h1,h2,h3⟩|⟨h1,h2|h2,h3⟩
 ·exact .inl ⟨h1,h2,by simpa using h3⟩
 ·refine .inr (.inl ⟨h2.1,h1,?_⟩)
  simp only [List.any_eq_true,decide_eq_true_eq]
  exact h2.2
 ·refine .inr (.inr ⟨h2.1,h1,?_⟩)
  rw [List.any_eq_false]
  intro x hx
  simpa using h2.2 x hx
theorem Zio (a:Option Addr) (cap:Nat) (xs:List St) (L:Zb) (hR:Rd sc 3 L a xs) (hl:xs.length≤1000000):HC Tryz.prog 132 [.slice a xs.length cap] L (fun v L'=>v = .tuple ⟨[iv (Y8 xs).1,.bool (Y8 xs).2]⟩∧L'=L):=by
 refine Za (fun _ _=>Tryz.call132 _ _) Tryz.func132 rfl Tryz.ntmps132 (Nat.le_of_ble_eq_true rfl) ?_;simp only [Ze,Nat.reduceAdd]
 repeat' (first|refine uN ?_|(refine uB ?_;intro b)|(refine uP ?_ ?_<;>(intro h;((try simp only [zs,zq,reduceCtorEq] at h);try exact zx)))|fail)
 rename_i b1
 refine Zz (σ:=Int) (fun j=>[(1,pt b1 0),(4,.func (.func 179) #[] ⟨[pt b1 0]⟩),(11,sl b 0 2 2),(12,iv 2),(13,iv j)]) (fun _=>[(b,.cells ⟨[iv 2,iv 3]⟩ 3)]::[(b1,.cells ⟨[.slice a xs.length cap]⟩ 37)]::L)
  (fun j=>0≤j∧j≤2∧(1≤j→Zmh xs 2=false)∧(2≤j→Zmh xs 3=false)) (fun j=>(2-j).toNat) 0 uS (List.Sublist.refl _) ⟨by omega,by omega,by omega,by omega⟩ ?_
 rintro j ⟨h0,h1,h2,h3⟩
 have hj:j=0∨j=1∨j=2:=by omega
 rcases hj with rfl|rfl|rfl
 ·repeat' (first|refine uN ?_|refine Vb (qC (Zhn _ _ _ _ _ _ _ _ (Zc Zh) ((hR.cons _).cons _) hl)) ?_|(refine uB ?_;intro b)|(refine uP ?_ ?_<;>(intro h;((try simp only [zs,zq,reduceCtorEq] at h);try exact zx)))|fail)
  ·(refine X5 rfl rfl rfl ?_ ⟨?_,rfl⟩;(next=>(repeat (first|exact List.Sublist.refl _|apply List.Sublist.cons))))
   simp [Y8, *]
  ·exact Zp 1 uS (List.Sublist.refl _) ⟨by omega,by omega,fun _=>by assumption,by omega⟩ (by decide)
 ·repeat' (first|refine uN ?_|refine Vb (qC (Zhn _ _ _ _ _ _ _ _ (Zc Zh) ((hR.cons _).cons _) hl)) ?_|(refine uB ?_;intro b)|(refine uP ?_ ?_<;>(intro h;((try simp only [zs,zq,reduceCtorEq] at h);try exact zx)))|fail)
  ·(refine X5 rfl rfl rfl ?_ ⟨?_,rfl⟩;(next=>(repeat (first|exact List.Sublist.refl _|apply List.Sublist.cons))))
   have e:=h2 (by omega)
   simp [Y8, *]
  ·exact Zp 2 uS (List.Sublist.refl _) ⟨by omega,by omega,fun _=>h2 (by omega),fun _=>by assumption⟩ (by decide)
 ·have e2:=h2 (by omega)
  have e3:=h3 (by omega)
  repeat' (first|refine uN ?_|(refine uB ?_;intro b)|(refine uP ?_ ?_<;>(intro h;((try simp only [zs,zq,reduceCtorEq] at h);try exact zx)))|fail)
  clear h0 h1 h2 h3
  refine Zz (σ:=Int × St) (fun s=>[(7,pt b 0),(22,.slice a xs.length cap),(23,iv xs.length),(24,iv s.1)]) (fun s=>[(b,.cells ⟨sc s.2⟩ 43)]::L)
   (fun s=>0≤s.1∧s.1≤xs.length∧Vt (xs.take s.1.toNat)=s.2) (fun s=>(xs.length-s.1).toNat) (0,⟨0,0,0⟩) uS (by exact .cons_cons _ (.cons _ (.cons _ (.refl _)))) ⟨by simp,by simp,by simp [Vt]⟩ ?_
  rintro ⟨j,m⟩ ⟨j0,j1,hm⟩
  simp only at j0 j1 hm
  by_cases hlt:j<xs.length
  ·obtain ⟨bb,i,l,E,fr,rfl,hb,hg⟩:=hR.at j0 hlt
   have e:=Zez (xs.take j.toNat) (xs[j.toNat]'(by omega))
   rw [← U7 j0 hlt,hm] at e
   clear hm
   repeat' (first|refine uN ?_|(refine uB ?_;intro b)|(refine uP ?_ ?_<;>(intro h;((try simp only [zs,zq,reduceCtorEq] at h);try exact zx)))|fail)
   all_goals first
    | ((refine Zp (j+1,xs[j.toNat]'(by omega)) ?_ ?_ ?_ ?_;(next=>(repeat (first|exact trivial|refine ⟨rfl,?_⟩)));(next=>(repeat (first|exact List.Sublist.refl _|apply List.Sublist.cons))));(next=>refine ⟨?_,?_,?_⟩;(next=>show 0≤j+1;omega);(next=>show j+1≤(xs.length:Int);omega);(next=>show Vt (List.take (j+1).toNat xs)=_;rw [e];simp [Zid,prep, *];done));(next=>show (xs.length-(j+1)).toNat<(xs.length-j).toNat;omega))
    | ((refine Zp (j+1,m) ?_ ?_ ?_ ?_;(next=>(repeat (first|exact trivial|refine ⟨rfl,?_⟩)));(next=>(repeat (first|exact List.Sublist.refl _|apply List.Sublist.cons))));(next=>refine ⟨?_,?_,?_⟩;(next=>show 0≤j+1;omega);(next=>show j+1≤(xs.length:Int);omega);(next=>show Vt (List.take (j+1).toNat xs)=_;rw [e];simp [Zid,prep, *];done));(next=>show (xs.length-(j+1)).toNat<(xs.length-j).toNat;omega))
  ·rw [Zal hlt] at hm
   have hinv:=best_inv xs
   rw [hm] at hinv
   repeat' (first|refine uN ?_|(refine uB ?_;intro b)|(refine uP ?_ ?_<;>(intro h;((try simp only [zs,zq,reduceCtorEq] at h);try exact zx)))|fail)
   ·(refine X5 rfl rfl rfl ?_ ⟨?_,rfl⟩;(next=>(repeat (first|exact List.Sublist.refl _|apply List.Sublist.cons))))
    have e4:Y8 xs=(5,false):=by
     unfold Y8
     rw [if_neg (by simp [*]),if_neg (by simp [*])]
     rcases hinv with ⟨rfl,h5,h6⟩|⟨h4,-,-⟩|⟨h4,-,-⟩
     ·rw [if_neg]
      simp only [List.any_eq_true,not_exists,not_and,decide_eq_true_eq]
      intro x hx h4
      have:=List.all_eq_true.1 h6 x hx
      simp [prep,h4] at this
     ·simp_all
     ·simp_all
    rw [e4]
   ·(refine X5 rfl rfl rfl ?_ ⟨?_,rfl⟩;(next=>(repeat (first|exact List.Sublist.refl _|apply List.Sublist.cons))))
    have e4:Y8 xs=(m.ph,false):=by
     unfold Y8
     rw [if_neg (by simp [*]),if_neg (by simp [*])]
     rcases hinv with ⟨rfl,h5,h6⟩|⟨h4,h5,h6⟩|⟨h4,h5,h6⟩
     ·simp_all
     ·rw [h5,if_pos h6,h4]
     ·rw [h5,if_neg (by rw [h6];simp),h4]
    rw [e4]
end Go.HL
end

/-! WgA -/
section
namespace Go.HL
open Go Go.Proofs

def Vy (n:Nat):Nat:=if n=0 then 0 else Nat.log2 n+1
theorem blen_le {n k:Nat}:Vy n≤k↔n<2 ^ k:=by
 unfold Vy
 split
 ·rename_i h
  subst h
  simp [Nat.two_pow_pos]
 ·rename_i h
  rw [← Nat.log2_lt h]
  omega
theorem Ze0 {n k:Nat} (h:2 ^ k≤n):Vy n=Vy (n / 2 ^ k)+k:=by
 have key : ∀ j,Vy n≤j↔Vy (n / 2 ^ k)+k≤j:=fun j=>by
  constructor
  ·intro h1
   have h2:=blen_le.1 h1
   have h3:k<j:=by
    rcases Nat.lt_or_ge k j with h3|h3
    ·exact h3
    ·have:=Nat.pow_le_pow_right (n:=2) (by decide) h3
     omega
   have h4:Vy (n / 2 ^ k)≤j-k:=blen_le.2 (by
    rw [Nat.div_lt_iff_lt_mul (Nat.two_pow_pos k),← Nat.pow_add,Nat.sub_add_cancel (by omega)]
    exact h2)
   omega
  ·intro h1
   have h4:Vy (n / 2 ^ k)≤j-k:=by omega
   have h5:=blen_le.1 h4
   rw [Nat.div_lt_iff_lt_mul (Nat.two_pow_pos k),← Nat.pow_add,Nat.sub_add_cancel (by omega)] at h5
   exact blen_le.2 h5
 have h1:=(key (Vy n)).1 (Nat.le_refl _)
 have h2:=(key (Vy (n / 2 ^ k)+k)).2 (Nat.le_refl _)
 omega
theorem tab_ok {l:List UInt8} (h:((List.range 256).all fun i=>Nat.beq (l.getD i 0).toNat (Vy i))=true) {i:Nat} (hi:i<256):(l.getD i 0).toNat=Vy i:=
 Nat.eq_of_beq_eq_true (List.all_eq_true.1 h i (List.mem_range.2 hi))
theorem ho_len8 {P:Program} (S:Tab P) {n:Nat} {ops:List Oper} {Q:Exit→Zr→Zb→Prop} {rest:List Oper} {ρ:Zr} {L:Zb} {ty:TypeId} {pos:String} {af:Array Edge} {d t:Nat} {l:List UInt8} {k:IntKind} {j:Int} {ti:TyI} {y:Operand} {c:Value}
  (hc:c=bs l) (hy:ev ρ y=some (.int k j)) (ht:Zt S.ty t=some ti) (hk:Nat.beq ti.kind 3=true) (hn:Nat.blt d n=true) (hl:Nat.beq l.length 256=true) (htab:((List.range 256).all fun i=>Nat.beq (l.getD i 0).toNat (Vy i))=true) (hj:0≤j∧j<256)
  (h : ∀ m:Nat,m=Vy j.toNat→m≤8→HO P n ops Q rest ((d,.int .u8 (m:Int))::ρ) L):HO P n ops Q (⟨some d,.index t (.const c) y,ty,pos,af,none⟩::rest) ρ L:=by
 have h1:=h _ rfl (blen_le.2 (by omega))
 rw [← tab_ok htab (i:=j.toNat) (by omega)] at h1
 exact ho_go rfl hn (q_ixT S hc hy ht hk hl hj) h1
set_option maxHeartbeats 2000000 attribute [local irreducible] HW HO HQ HD HC QOp Has Upd Zo Gets Ye Z6 Zq X0 Z5 Zj X7 Zw
set_option maxRecDepth 100000 in
theorem Zld (n:Nat) (hn:n<18446744073709551616) (L:Zb):HC Tryz.prog 286 [.int .u64 n] L (fun v L'=>v=iv (Vy n)∧L'=L):=by
 refine Za (fun _ _=>Tryz.call286 _ _) Tryz.func286 rfl Tryz.ntmps286 (Nat.le_of_ble_eq_true rfl) ?_;simp only [Ze,Nat.reduceAdd]
 repeat' (first|refine uN ?_|(refine uP ?_ ?_<;>(intro h;((try simp only [zs,zq,reduceCtorEq] at h);try exact zx)))|fail)
 all_goals try simp only [Int.reduceToNat,Int.reducePow] at *
 all_goals (apply ho_len8 S;(case hc=>exact rfl);(case hy=>exact rfl);(case ht=>exact rfl);(case hk=>exact rfl);(case hn=>exact rfl);(case hl=>exact rfl);(case htab=>decide +kernel);(case hj=>omega);(case' h=>intro m hm hm8))
 all_goals repeat' (first|refine uN ?_|(refine uP ?_ ?_<;>(intro h;((try simp only [zs,zq,reduceCtorEq] at h);try exact zx)))|fail)
 all_goals (refine Yr rfl rfl ?_ ⟨?_,rfl⟩;(next=>(repeat (first|exact List.Sublist.refl _|apply List.Sublist.cons))))
 all_goals refine congrArg iv ?_
 all_goals (have e1 : ∀ x,4294967296≤x→Vy x=Vy (x / 4294967296)+32:=fun x hx=>Ze0 (k:=32) hx)
 all_goals (have e2 : ∀ x,65536≤x→Vy x=Vy (x / 65536)+16:=fun x hx=>Ze0 (k:=16) hx)
 all_goals (have e3 : ∀ x,256≤x→Vy x=Vy (x / 256)+8:=fun x hx=>Ze0 (k:=8) hx)
 all_goals first
  | (have g0:=e1 (n) (by omega);have g1:=e2 (n / 4294967296) (by omega);have g2:=e3 (n / 4294967296 / 65536) (by omega);have g9:((n:Int) / 4294967296 / 65536 / 256).toNat=n / 4294967296 / 65536 / 256:=(by omega);rw [g9] at hm;omega)
  | (have g0:=e1 (n) (by omega);have g1:=e2 (n / 4294967296) (by omega);have g9:((n:Int) / 4294967296 / 65536).toNat=n / 4294967296 / 65536:=(by omega);rw [g9] at hm;omega)
  | (have g0:=e1 (n) (by omega);have g1:=e3 (n / 4294967296) (by omega);have g9:((n:Int) / 4294967296 / 256).toNat=n / 4294967296 / 256:=(by omega);rw [g9] at hm;omega)
  | (have g0:=e1 (n) (by omega);have g9:((n:Int) / 4294967296).toNat=n / 4294967296:=(by omega);rw [g9] at hm;omega)
  | (have g0:=e2 (n) (by omega);have g1:=e3 (n / 65536) (by omega);have g9:((n:Int) / 65536 / 256).toNat=n / 65536 / 256:=(by omega);rw [g9] at hm;omega)
  | (have g0:=e2 (n) (by omega);have g9:((n:Int) / 65536).toNat=n / 65536:=(by omega);rw [g9] at hm;omega)
  | (have g0:=e3 (n) (by omega);have g9:((n:Int) / 256).toNat=n / 256:=(by omega);rw [g9] at hm;omega)
  | (have g9:((n:Int)).toNat=n:=(by omega);rw [g9] at hm;omega)
theorem Zrk (n:Nat) (hn:n<18446744073709551616) (L:Zb):HC Tryz.prog 253 [.int .u64 n] L (fun v L'=>v=iv (Vy n)∧L'=L):=by
 refine Za (fun _ _=>Tryz.call253 _ _) Tryz.func253 rfl Tryz.ntmps253 (Nat.le_of_ble_eq_true rfl) ?_;simp only [Ze,Nat.reduceAdd]
 repeat' (first|refine uN ?_|refine uC (Zld _ hn _) ?_|(refine uP ?_ ?_<;>(intro h;((try simp only [zs,zq,reduceCtorEq] at h);try exact zx)))|fail)
 all_goals (refine Yr rfl rfl ?_ ⟨?_,rfl⟩;(next=>(repeat (first|exact List.Sublist.refl _|apply List.Sublist.cons))))
 all_goals rfl
def mx:List Int→Int
 | []=>0
 | x::r=>r.foldl max x
theorem mx_snoc {l:List Int} {y:Int} (h:l≠[]):mx (l++[y])=max (mx l) y:=by
 cases l with
 | nil=>exact absurd rfl h
 | cons x r=>simp [mx]
theorem Zrq (a:Option Addr) (cap:Nat) (xs:List Int) (L:Zb) (hR:Rd ic 1 L a xs) (h1:1≤xs.length) (hl:xs.length≤1000000) :
  HC Tryz.prog 119 [.slice a xs.length cap] L (fun v L'=>v=iv (mx xs)∧L'=L):=by
 refine Za (fun _ _=>Tryz.call119 _ _) Tryz.func119 rfl Tryz.ntmps119 (Nat.le_of_ble_eq_true rfl) ?_;simp only [Ze,Nat.reduceAdd]
 obtain ⟨b,i,l,E,fr,rfl,hb,hg⟩:=hR.at1 (j:=0) (by omega) (by omega)
 repeat' (first|refine uN ?_|(refine uP ?_ ?_<;>(intro h;((try simp only [zs,zq,reduceCtorEq] at h);try exact zx)))|fail)
 refine Zz (σ:=Int × Int) (fun s=>[(0,.slice (some ⟨b,i,none⟩) xs.length cap),(3,iv s.2),(4,iv s.1)]) (fun _=>L) (fun s=>1≤s.1∧s.1≤xs.length∧mx (xs.take s.1.toNat)=s.2) (fun s=>(xs.length-s.1).toNat) (1,xs[Int.toNat 0]) uS (List.Sublist.refl _) ⟨by simp,by simp;omega,?_⟩ ?_
 ·cases xs with
  | nil=>simp at h1
  | cons x r=>rfl
 clear hb hg
 rintro ⟨j,m⟩ ⟨h0,h2,hm⟩
 simp only at h0 h2 hm
 by_cases hlt:j<xs.length
 ·obtain ⟨b',i',l',E',fr',e,hb',hg'⟩:=hR.at1 (j:=j) (by omega) hlt
  cases e
  repeat' (first|refine uN ?_|(refine uP ?_ ?_<;>(intro h;((try simp only [zs,zq,reduceCtorEq] at h);try exact zx)))|fail)
  refine Zp (j+1,_) uS (List.Sublist.refl _) ⟨by show 1≤j+1;omega,by show j+1≤(xs.length:Int);omega,?_⟩ (by show (xs.length-(j+1)).toNat<(xs.length-j).toNat;omega)
  show mx (xs.take (j+1).toNat)=_
  rw [U7 (by omega) hlt,mx_snoc (by intro e;have h5:(xs.take j.toNat).length=0:=(by rw [e];rfl);rw [List.length_take] at h5;omega),hm]
 ·repeat' (first|refine uN ?_|(refine uP ?_ ?_<;>(intro h;((try simp only [zs,zq,reduceCtorEq] at h);try exact zx)))|fail)
  (refine Yr rfl rfl ?_ ⟨?_,rfl⟩;(next=>(repeat (first|exact List.Sublist.refl _|apply List.Sublist.cons))))
  rw [Zal hlt] at hm
  rw [hm]
theorem Zqn (x:Int) (L:Zb):HC Tryz.prog 118 [iv x] L (fun v L'=>v = .bool (decide (x<0∨1000<x))∧L'=L):=by
 refine Za (fun _ _=>Tryz.call118 _ _) Tryz.func118 rfl Tryz.ntmps118 (Nat.le_of_ble_eq_true rfl) ?_;simp only [Ze,Nat.reduceAdd]
 repeat' (first|refine uN ?_|(refine uP ?_ ?_<;>(intro h;((try simp only [zs,zq,reduceCtorEq] at h);try exact zx)))|fail)
 all_goals (refine Yr rfl rfl ?_ ⟨?_,rfl⟩;(next=>(repeat (first|exact List.Sublist.refl _|apply List.Sublist.cons))))
 all_goals (refine congrArg Value.bool ?_;first|(refine Eq.symm (decide_eq_true ?_);omega)|(refine Eq.symm (decide_eq_false ?_);omega)|(refine decide_eq_decide.2 ?_;omega))
theorem Zg2 {α:Type} {xs:List α} {f:α→Bool} {j:Int} (h0:0≤j) (hlt:j<xs.length) (hn:(xs.take j.toNat).any f=false) (h:f (xs[j.toNat]'(by omega))=true):xs.any f=true∧(xs.findIdx f:Int)=j:=by
 have hj:j.toNat<xs.length:=by omega
 refine ⟨List.any_eq_true.2 ⟨_,List.getElem_mem hj,h⟩,?_⟩
 have:xs.findIdx f=j.toNat:=by
  rw [List.findIdx_eq hj]
  refine ⟨h,fun k hk=>?_⟩
  rw [List.any_eq_false] at hn
  have hk':k<(xs.take j.toNat).length:=by simp;omega
  have:=hn _ (List.getElem_mem hk')
  rw [List.getElem_take] at this
  simpa using this
 omega
theorem Zi0 (a:Option Addr) (cap:Nat) (xs:List Int) (F:Nat) (cs:List Value) (f:Int→Bool) (L:Zb) (hR:Rd ic 1 L a xs) (hl:xs.length≤1000000)
  (hf : ∀ s,HC Tryz.prog F (iv s::cs) L (fun v L'=>v = .bool (f s)∧L'=L)) :
  HC Tryz.prog 175 [.slice a xs.length cap,.func (.func F) #[] ⟨cs⟩] L (fun v L'=>v=iv (if xs.any f then (xs.findIdx f:Int) else -1)∧L'=L):=by
 refine Za (fun _ _=>Tryz.call175 _ _) Tryz.func175 rfl Tryz.ntmps175 (Nat.le_of_ble_eq_true rfl) ?_;simp only [Ze,Nat.reduceAdd]
 repeat' (first|refine uN ?_|(refine uP ?_ ?_<;>(intro h;((try simp only [zs,zq,reduceCtorEq] at h);try exact zx)))|fail)
 refine Zz (σ:=Int) (fun j=>[(0,.slice a xs.length cap),(1,.func (.func F) #[] ⟨cs⟩),(6,.slice a xs.length cap),(7,iv xs.length),(8,iv j)]) (fun _=>L) (fun j=>0≤j∧j≤xs.length∧(xs.take j.toNat).any f=false) (fun j=>(xs.length-j).toNat) 0 uS (List.Sublist.refl _) ⟨by omega,by omega,by simp⟩ ?_
 rintro j ⟨h0,h1,h2⟩
 by_cases hlt:j<xs.length
 ·obtain ⟨b,i,l,E,fr,rfl,hb,hg⟩:=hR.at1 h0 hlt
  repeat' (first|refine uN ?_|refine uC (hf _) ?_|(refine uP ?_ ?_<;>(intro h;((try simp only [zs,zq,reduceCtorEq] at h);try exact zx)))|fail)
  ·(refine Yr rfl rfl ?_ ⟨?_,rfl⟩;(next=>(repeat (first|exact List.Sublist.refl _|apply List.Sublist.cons))))
   obtain ⟨e1,e2⟩:=Zg2 h0 hlt h2 (by assumption)
   rw [if_pos e1,e2]
  ·exact Zp (j+1) uS (List.Sublist.refl _) ⟨by omega,by omega,by rw [U7 h0 hlt,List.any_append,h2];simp [*]⟩ (by omega)
 ·repeat' (first|refine uN ?_|(refine uP ?_ ?_<;>(intro h;((try simp only [zs,zq,reduceCtorEq] at h);try exact zx)))|fail)
  (refine Yr rfl rfl ?_ ⟨?_,rfl⟩;(next=>(repeat (first|exact List.Sublist.refl _|apply List.Sublist.cons))))
  rw [Zal hlt] at h2
  rw [if_neg (by simp [h2])]
theorem Zeh (a:Option Addr) (cap:Nat) (xs:List Int) (F:Nat) (cs:List Value) (f:Int→Bool) (L:Zb) (hR:Rd ic 1 L a xs) (hl:xs.length≤1000000)
  (hf : ∀ s,HC Tryz.prog F (iv s::cs) L (fun v L'=>v = .bool (f s)∧L'=L)) :
  HC Tryz.prog 117 [.slice a xs.length cap,.func (.func F) #[] ⟨cs⟩] L (fun v L'=>v = .bool (xs.any f)∧L'=L):=by
 refine Za (fun _ _=>Tryz.call117 _ _) Tryz.func117 rfl Tryz.ntmps117 (Nat.le_of_ble_eq_true rfl) ?_;simp only [Ze,Nat.reduceAdd]
 repeat' (first|refine uN ?_|refine uC (Zi0 _ _ _ _ _ f _ hR hl hf) ?_|fail)
 (refine Yr rfl rfl ?_ ⟨?_,rfl⟩;(next=>(repeat (first|exact List.Sublist.refl _|apply List.Sublist.cons))))
 refine congrArg Value.bool ?_
 cases hx:xs.any f<;>simp
 done
def badW (x:Int):Bool:=decide (x<0∨1000<x)
def Xt (ws:List Int):Option Nat:=if ws.length<1∨7<ws.length then some 3 else if ws.any badW then some 2 else if mx ws=0 then some 4 else none
theorem Q7 (T:Nat) (E:Nat→Addr) (a:Option Addr) (cap:Nat) (xs:List Int) (L:Zb) (hG:Er T E [2,3,4] L) (hR:Rd ic 1 L a xs) (hl:xs.length≤1000000) :
  HC Tryz.prog 62 [.slice a xs.length cap] L (fun v L'=>v=eV T E (Xt xs)∧L'=L):=by
 refine Za (fun _ _=>Tryz.call62 _ _) Tryz.func62 rfl Tryz.ntmps62 (Nat.le_of_ble_eq_true rfl) ?_;simp only [Ze,Nat.reduceAdd]
 repeat' (first|refine uN ?_|refine Vb (qC (Zeh _ _ _ _ _ badW _ hR hl (fun s=>Zqn s _))) ?_|refine Vb (qC (Zrq _ _ _ _ hR (by omega) hl)) ?_|(refine uP ?_ ?_<;>(intro h;((try simp only [zs,zq,reduceCtorEq] at h);try exact zx)))|fail)
 all_goals (refine Yr rfl rfl ?_ ⟨?_,rfl⟩;(next=>(repeat (first|exact List.Sublist.refl _|apply List.Sublist.cons))))
 all_goals (unfold Xt)
 all_goals first
  | (rw [if_pos (by omega)];rfl)
  | (rw [if_neg (by omega),if_pos (by assumption)];rfl)
  | (rw [if_neg (by omega),if_neg (by simp [*]),if_pos (by assumption)];rfl)
  | (rw [if_neg (by omega),if_neg (by simp [*]),if_neg (by assumption)];rfl)
end Go.HL
end

/-! WgB -/
section
namespace Go.HL
open Go Go.Proofs
set_option maxHeartbeats 2000000 attribute [local irreducible] HW HO HQ HD HC QOp Has Upd Zo Gets Ye Z6 Zq X0 Z5 Zj X7 Zw

def Zbe:List Int→Nat→Int
 | [],_=>0
 | x::r,s=>(if s % 2=1 then x else 0)+Zbe r (s / 2)
theorem Zij (y:Int) : ∀ (l:List Int) (s:Nat),Zbe (l++[y]) s=Zbe l s+(if s / 2 ^ l.length % 2=1 then y else 0)
 | [],s=>by simp [Zbe]
 | x::r,s=>by
  simp only [List.cons_append,Zbe,Zij y r (s / 2),List.length_cons,Nat.div_div_eq_div_mul,Nat.pow_succ,Nat.mul_comm 2]
  omega
theorem Zj0 : ∀ (l:List Int) (s:Nat),(∀ x∈l,0≤x∧x≤1000)→0≤Zbe l s∧Zbe l s≤1000*l.length
 | [],s,_=>by simp [Zbe]
 | x::r,s,h=>by
  have h1:=Zj0 r (s / 2) (fun y hy=>h y (by simp [hy]))
  have h2:=h x (by simp)
  simp only [Zbe,List.length_cons]
  split<;>omega
def Zbc (ws:List Int) (set:Int):Int × Option Nat:=
 match Xt ws with
 | some e=>(0,some e)
 | none=>if set<0∨ws.length<Vy set.toNat then (0,some 2) else (Zbe ws set.toNat,none)
theorem V6 {ws:List Int} (h:Xt ws=none):1≤ws.length∧ws.length≤7∧(∀ x∈ws,0≤x∧x≤1000)∧mx ws≠0:=by
 unfold Xt at h
 split at h
 ·cases h
 ·split at h
  ·cases h
  ·split at h
   ·cases h
   ·rename_i h1 h2 h3
    refine ⟨by omega,by omega,fun x hx=>?_,h3⟩
    simp only [Bool.not_eq_true,List.any_eq_false,badW,decide_eq_true_eq] at h2
    have:=h2 x hx
    omega
theorem Zo3 (n k:Nat):(((((n:Int) / 2 ^ k).toNat &&& Int.toNat 1:Nat):Int)=1)↔n / 2 ^ k % 2=1:=by
 have e:((n:Int) / 2 ^ k).toNat=n / 2 ^ k:=by
  have:((n:Int) / 2 ^ k)=((n / 2 ^ k:Nat):Int):=by simp
  rw [this];rfl
 rw [e,show Int.toNat 1=1 from rfl,Nat.and_one_is_mod]
 omega
theorem Zna (n k:Nat) (h:(n:Int)≤9223372036854775807):0≤(n:Int) / 2 ^ k∧(n:Int) / 2 ^ k≤Q5 .i64∧(0:Int)≤1∧(1:Int)≤Q5 .i64:=by
 have:((n:Int) / 2 ^ k)=((n / 2 ^ k:Nat):Int):=by simp
 have h2:n / 2 ^ k≤n:=Nat.div_le_self _ _
 rw [this]
 clear this
 generalize n / 2 ^ k=q at h2 ⊢
 simp only [Q5]
 omega
theorem Zie (T:Nat) (E:Nat→Addr) (a:Option Addr) (cap:Nat) (xs:List Int) (set:Int) (L:Zb) (hG:Er T E [2,3,4] L) (hR:Rd ic 1 L a xs) (hl:xs.length≤1000000) (hs:set≤9223372036854775807) :
  HC Tryz.prog 178 [.slice a xs.length cap,iv set] L (fun v L'=>v = .tuple ⟨[iv (Zbc xs set).1,eV T E (Zbc xs set).2]⟩∧L'=L):=by
 refine Za (fun _ _=>Tryz.call178 _ _) Tryz.func178 rfl Tryz.ntmps178 (Nat.le_of_ble_eq_true rfl) ?_;simp only [Ze,Nat.reduceAdd]
 have hk:=Q7 T E a cap xs L hG hR hl
 cases hc:Xt xs with
 | some e =>
  rw [hc] at hk
  repeat' (first|refine uN ?_|refine Yd S ?_|refine uC (hk) ?_|(refine uP ?_ ?_<;>(intro h;((try simp only [zs,zq,reduceCtorEq] at h);try exact zx)))|fail)
  (refine X5 rfl rfl rfl ?_ ⟨?_,rfl⟩;(next=>(repeat (first|exact List.Sublist.refl _|apply List.Sublist.cons))))
  simp [Zbc,hc]
 | none =>
  rw [hc] at hk
  obtain ⟨c1,c2,c3,c4⟩:=V6 hc
  by_cases h0:0≤set
  ·obtain ⟨n,rfl⟩:=Int.eq_ofNat_of_zero_le h0
   have hb:=Zrk n (by omega) L
   repeat' (first|refine uN ?_|refine Yd S ?_|refine uC (hk) ?_|refine uC (hb) ?_|(refine uP ?_ ?_<;>(intro h;((try simp only [zs,zq,reduceCtorEq] at h);try exact zx)))|fail)
   ·(refine X5 rfl rfl rfl ?_ ⟨?_,rfl⟩;(next=>(repeat (first|exact List.Sublist.refl _|apply List.Sublist.cons))))
    simp only [Zbc,hc]
    rw [if_pos (by simp;omega)]
    rfl
   ·refine Zz (σ:=Int × Int) (fun s=>[(1,iv n),(7,iv s.2),(26,.slice a xs.length cap),(27,iv xs.length),(28,iv s.1)]) (fun _=>L) (fun s=>0≤s.1∧s.1≤xs.length∧Zbe (xs.take s.1.toNat) n=s.2) (fun s=>(xs.length-s.1).toNat) (0,0) uS (List.Sublist.refl _) ⟨by simp,by simp,by simp [Zbe]⟩ ?_
    rintro ⟨j,m⟩ ⟨j0,j1,hm⟩
    simp only at j0 j1 hm
    by_cases hlt:j<xs.length
    ·obtain ⟨b,i,l,E',fr,rfl,hb',hg'⟩:=hR.at1 j0 hlt
     have hm2:=Zj0 (xs.take j.toNat) n (fun x hx=>c3 x (List.mem_of_mem_take hx))
     have hx:=c3 (xs[j.toNat]'(by omega)) (List.getElem_mem _)
     have hn:=Zij (xs[j.toNat]'(by omega)) (xs.take j.toNat) n
     rw [← U7 j0 hlt] at hn
     rw [hm] at hm2 hn
     rw [List.length_take] at hm2 hn
     rw [Nat.min_eq_left (by omega)] at hn
     have hb1:=Zna n j.toNat hs
     have hb2:=Zo3 n j.toNat
     repeat' (first|refine uN ?_|refine Yd S ?_|(refine uP ?_ ?_<;>(intro h;((try simp only [zs,zq,reduceCtorEq] at h);try exact zx)))|fail)
     all_goals (refine Zp (j+1,_) uS (List.Sublist.refl _) ⟨by show 0≤j+1;omega,by show j+1≤(xs.length:Int);omega,?_⟩ (by show (xs.length-(j+1)).toNat<(xs.length-j).toNat;omega))
     all_goals (show Zbe (xs.take (j+1).toNat) n=_;rw [hn])
     ·rw [if_pos (hb2.1 (by assumption))]
     ·rw [if_neg (fun e=>by have:=hb2.2 e;contradiction)];omega
    ·repeat' (first|refine uN ?_|refine Yd S ?_|(refine uP ?_ ?_<;>(intro h;((try simp only [zs,zq,reduceCtorEq] at h);try exact zx)))|fail)
     (refine X5 rfl rfl rfl ?_ ⟨?_,rfl⟩;(next=>(repeat (first|exact List.Sublist.refl _|apply List.Sublist.cons))))
     rw [Zal hlt] at hm
     simp only [Zbc,hc]
     rw [if_neg (by simp;omega),← hm]
     rfl
  ·repeat' (first|refine uN ?_|refine Yd S ?_|refine uC (hk) ?_|(refine uP ?_ ?_<;>(intro h;((try simp only [zs,zq,reduceCtorEq] at h);try exact zx)))|fail)
   (refine X5 rfl rfl rfl ?_ ⟨?_,rfl⟩;(next=>(repeat (first|exact List.Sublist.refl _|apply List.Sublist.cons))))
   simp only [Zbc,hc]
   rw [if_pos (by omega)]
   rfl
theorem Zet {k:Nat} (h:k≤30):0≤(k:Int)∧(k:Int)≤64 ∧ -9223372036854775808≤(1:Int)*2 ^ (k:Int).toNat∧(1:Int)*2 ^ (k:Int).toNat≤9223372036854775807:=by
 have h1:(2:Nat) ^ k≤2 ^ 30:=Nat.pow_le_pow_right (by decide) h
 have e:(1:Int)*2 ^ (k:Int).toNat=((2 ^ k:Nat):Int):=by simp
 rw [e]
 have h2:=Nat.two_pow_pos k
 generalize (2:Nat) ^ k=q at *
 omega
def Xu (ws:List Int) (set:Int):Bool × Option Nat:=
 match Zbc ws set with
 | (_,some e)=>(false,some e)
 | (n,none)=>(decide ((Zbc ws (2 ^ ws.length-1)).1<2*n),(Zbc ws (2 ^ ws.length-1)).2)
theorem Zsg {ws:List Int} {set:Int} (h:(Zbc ws set).2=none):Xt ws=none∧0≤set∧Vy set.toNat≤ws.length∧(Zbc ws set).1=Zbe ws set.toNat:=by
 unfold Zbc at *
 cases hc:Xt ws with
 | some e=>rw [hc] at h;cases h
 | none =>
  rw [hc] at h
  simp only at *
  split at h
  ·cases h
  ·rename_i h1
   rw [if_neg h1]
   refine ⟨trivial,?_,?_,rfl⟩<;>omega
theorem Zcb (T:Nat) (E:Nat→Addr) (a:Option Addr) (cap:Nat) (xs:List Int) (set:Int) (L:Zb) (hG:Er T E [2,3,4] L) (hR:Rd ic 1 L a xs) (hl:xs.length≤1000000) (hs:set≤9223372036854775807) :
  HC Tryz.prog 128 [.slice a xs.length cap,iv set] L (fun v L'=>v = .tuple ⟨[.bool (Xu xs set).1,eV T E (Xu xs set).2]⟩∧L'=L):=by
 refine Za (fun _ _=>Tryz.call128 _ _) Tryz.func128 rfl Tryz.ntmps128 (Nat.le_of_ble_eq_true rfl) ?_;simp only [Ze,Nat.reduceAdd]
 have hk:=Zie T E a cap xs set L hG hR hl hs
 cases hc:(Zbc xs set).2 with
 | some e =>
  rw [hc] at hk
  repeat' (first|refine uN ?_|refine uC (hk) ?_|(refine uP ?_ ?_<;>(intro h;((try simp only [zs,zq,reduceCtorEq] at h);try exact zx)))|fail)
  (refine X5 rfl rfl rfl ?_ ⟨?_,rfl⟩;(next=>(repeat (first|exact List.Sublist.refl _|apply List.Sublist.cons))))
  have:Xu xs set=(false,some e):=by
   unfold Xu
   split
   ·rename_i h;rw [h] at hc;cases hc;rfl
   ·rename_i h;rw [h] at hc;cases hc
  rw [this]
 | none =>
  rw [hc] at hk
  obtain ⟨h1,h2,h3,h4⟩:=Zsg hc
  obtain ⟨c1,c2,c3,c4⟩:=V6 h1
  have hsh:=Zet (k:=xs.length) (by omega)
  have e2:(1:Int)*2 ^ (xs.length:Int).toNat=2 ^ xs.length:=by simp
  have hp:1≤(1:Int)*2 ^ (xs.length:Int).toNat:=by
   rw [e2]
   have e3:(2:Int) ^ xs.length=((2 ^ xs.length:Nat):Int):=by simp
   rw [e3]
   have:=Nat.two_pow_pos xs.length
   generalize (2:Nat) ^ xs.length=q at *
   omega
  have hk2:=Zie T E a cap xs (1*2 ^ (xs.length:Int).toNat-1) L hG hR hl (by omega)
  have hb:=Zj0 xs set.toNat c3
  rw [← h4] at hb
  repeat' (first|refine uN ?_|refine uC (hk) ?_|refine uC (hk2) ?_|(refine uP ?_ ?_<;>(intro h;((try simp only [zs,zq,reduceCtorEq] at h);try exact zx)))|fail)
  (refine X5 rfl rfl rfl ?_ ⟨?_,rfl⟩;(next=>(repeat (first|exact List.Sublist.refl _|apply List.Sublist.cons))))
  rw [e2]
  have:Xu xs set=(decide ((Zbc xs (2 ^ xs.length-1)).1<2*(Zbc xs set).1),(Zbc xs (2 ^ xs.length-1)).2):=by
   unfold Xu
   split
   ·rename_i h;rw [h] at hc;cases hc
   ·rename_i h;rw [h]
  rw [this]
end Go.HL
end
