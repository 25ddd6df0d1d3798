/- Texts laid into one, without what the claim does not use. Conditions: none. -/
import Derived.Test.YtkookaogdkdegaaGreatDoorMSpC
set_option linter.unusedVariables false
set_option linter.unusedSimpArgs false
/-! PlA -/
section
namespace Go.HL
open Go Go.Proofs

structure Pl where
 b:List UInt8
 off:Bool
 cut:Int
def Xl (bp ba:Nat) (m:Pl):List Zr:=[(bp,.cells ⟨[sl ba 0 m.b.length m.b.length,.bool m.off,iv m.cut]⟩ 205),(ba,.cells ⟨m.b.map u8⟩ 5)]
def Yk (n:Nat):List UInt8:=List.replicate n 0
def Zrw (n:Int):Option Pl:=if 0≤n∧n≤512 then some ⟨Yk n.toNat,false,-1⟩ else none
theorem Zk6 (n:Nat):(Yk n).map u8=List.replicate n (.int .u8 0):=by simp [Yk,u8]
theorem Zsa (bp ba:Nat) (m:Pl) (L:Zb):Rd uc 1 (Xl bp ba m::L) (some ⟨ba,0,none⟩) m.b:=by
 refine .inr ⟨ba,0,m.b.map u8,5,(0,0),rfl,Wy Zh,fun k x hx=>?_⟩
 have:=Wx (enc:=uc) (sz:=1) (fun _=>rfl) m.b [] [] k x hx
 simpa [Zxa] using this
def Wf (m:Pl) (at_ n:Int):Option Nat:=if at_<0∨n<0∨at_ > m.b.length∨n > m.b.length-at_ then some 2 else if m.off then some 6 else none
set_option maxHeartbeats 2000000 attribute [local irreducible] HW HO HQ HD HC QOp Has Upd Zt Gets Z8 Z0 Zo Xm Zz Zj Xp Zy
theorem Zms (T:Nat) (E:Nat→Addr) (n:Int) (L:Zb) (hG:Er T E [2] L):HC Tryz.prog 79 [iv n] L (fun v L'=>match Zrw n with
  | some m => ∃ bp ba,v = .tuple ⟨[pt bp 0,.nilIface]⟩∧L'=Xl bp ba m::L
  | none=>v = .tuple ⟨[.pointer none,eV T E (some 2)]⟩∧L'=L):=by
 refine Za (fun _ _=>Tryz.call79 _ _) Tryz.func79 rfl Tryz.ntmps79 (Nat.le_of_ble_eq_true rfl) ?_;simp only [Zd,Nat.reduceAdd]
 repeat' (first|refine uN ?_|refine Z2 S ?_|(refine uB ?_;intro b)|(refine uP ?_ ?_<;>(intro h;((try simp only [zs,zq,reduceCtorEq] at h);try exact zx)))|fail)
 ·refine Wb rfl rfl rfl (List.Sublist.refl _) ?_
  rw [show Zrw n=none from if_neg (by omega)]
  exact ⟨rfl,rfl⟩
 ·refine Wb rfl rfl rfl (List.Sublist.refl _) ?_
  rw [show Zrw n=none from if_neg (by omega)]
  exact ⟨rfl,rfl⟩
 ·rename_i b1
  refine Zeb (L':=Xl b b1 ⟨Yk n.toNat,false,-1⟩::L) ?_ ?_
  ·simp [Xl,Zk6]
   simp [Yk]
  ·rw [show Zrw n=some ⟨Yk n.toNat,false,-1⟩ from if_pos (by omega)]
   exact ⟨_,_,rfl,rfl⟩
theorem Zj0 (T:Nat) (E:Nat→Addr) (bp ba:Nat) (m:Pl) (at_ n:Int) (L:Zb) (hG:Er T E [2,6] L) (hl:m.b.length≤1000000):HC Tryz.prog 214 [pt bp 0,iv at_,iv n] (Xl bp ba m::L) (fun v L'=>v=eV T E (Wf m at_ n)∧L'=Xl bp ba m::L):=by
 have hG':=hG.cons (Xl bp ba m)
 refine Za (fun _ _=>Tryz.call214 _ _) Tryz.func214 rfl Tryz.ntmps214 (Nat.le_of_ble_eq_true rfl) ?_;simp only [Zd,Nat.reduceAdd]
 unfold Wf
 repeat' (first|refine uN ?_|(refine uP ?_ ?_<;>(intro h;((try simp only [zs,zq,reduceCtorEq] at h);try exact zx)))|fail)
 all_goals (refine Xb rfl rfl ?_ ⟨?_,rfl⟩;(next=>(repeat (first|exact List.Sublist.refl _|apply List.Sublist.cons))))
 all_goals first|(rw [if_pos (by omega)];rfl)|(rw [if_neg (by omega),if_pos (by assumption)];rfl)|(rw [if_neg (by omega),if_neg (by simp_all)];rfl)
theorem Zg7 (bp ba:Nat) (m:Pl) (L:Zb):HC Tryz.prog 162 [pt bp 0] (Xl bp ba m::L) (fun v L'=>v=bs m.b∧L'=Xl bp ba m::L):=by
 have hR:=Zsa bp ba m L
 refine Za (fun _ _=>Tryz.call162 _ _) Tryz.func162 rfl Tryz.ntmps162 (Nat.le_of_ble_eq_true rfl) ?_;simp only [Zd,Nat.reduceAdd]
 repeat' (first|refine uN ?_)
 (refine Xb rfl rfl ?_ ⟨?_,rfl⟩;(next=>(repeat (first|exact List.Sublist.refl _|apply List.Sublist.cons))))
 rfl
theorem Zhk (bp ba:Nat) (m:Pl) (L:Zb):HC Tryz.prog 184 [pt bp 0] (Xl bp ba m::L) (fun v L'=>v = .bool (!m.off)∧L'=Xl bp ba m::L):=by
 refine Za (fun _ _=>Tryz.call184 _ _) Tryz.func184 rfl Tryz.ntmps184 (Nat.le_of_ble_eq_true rfl) ?_;simp only [Zd,Nat.reduceAdd]
 repeat' (first|refine uN ?_)
 all_goals (refine Xb rfl rfl ?_ ⟨?_,rfl⟩;(next=>(repeat (first|exact List.Sublist.refl _|apply List.Sublist.cons))))
 all_goals rfl
def Ws (b:List UInt8) (at_:Nat) (s:List UInt8):List UInt8:=b.take at_++s++b.drop (at_+s.length)
theorem Zk2 {b:List UInt8} {at_:Nat} {s:List UInt8} (h:at_+s.length≤b.length):(Ws b at_ s).length=b.length:=by
 simp [Ws];omega
theorem Ze4 (b:List UInt8) (at_:Nat):Ws b at_ []=b:=by simp [Ws]
theorem Zsv {b:List UInt8} {at_:Nat} {s:List UInt8} {x:UInt8} (h:at_+s.length<b.length):Ws b at_ (s++[x])=(Ws b at_ s).set (at_+s.length) x:=by
 have h1:(b.take at_++s).length=at_+s.length:=by simp;omega
 have h2:b.drop (at_+s.length)=b[at_+s.length]::b.drop (at_+s.length+1):=List.drop_eq_getElem_cons h
 simp only [Ws,List.length_append,List.length_cons,List.length_nil,Nat.zero_add]
 rw [h2,List.set_append_right _ _ (by omega),h1,Nat.sub_self,List.set_cons_zero]
 simp [Nat.add_assoc]
def Qf (m:Pl) (at_ n:Int):List UInt8 × Option Nat:=match Wf m at_ n with
 | some e=>([],some e)
 | none=>((m.b.drop at_.toNat).take n.toNat,none)
def kM (m:Pl) (n:Nat):Nat:=if m.cut = -1 then n else min n m.cut.toNat
def Zbo (m:Pl) (at_:Nat) (s:List UInt8):Pl × Option Nat:=
 (⟨Ws m.b at_ (s.take (kM m s.length)),m.off || decide (kM m s.length<s.length),if m.cut = -1 then -1 else m.cut-kM m s.length⟩,if kM m s.length<s.length then some 6 else none)
def Yg (m:Pl) (at_:Int) (s:List UInt8):Pl × Option Nat:=match Wf m at_ s.length with
 | some e=>(m,some e)
 | none=>Zbo m at_.toNat s
theorem Zkn (T:Nat) (E:Nat→Addr) (bp ba:Nat) (m:Pl) (at_ n:Int) (L:Zb) (hG:Er T E [2,6] L) (hl:m.b.length≤1000000):HC Tryz.prog 185 [pt bp 0,iv at_,iv n] (Xl bp ba m::L) (fun v L'=>v = .tuple ⟨[bs (Qf m at_ n).1,eV T E (Qf m at_ n).2]⟩∧L'=Xl bp ba m::L):=by
 have hR:=Zsa bp ba m L
 have hk:=Zj0 T E bp ba m at_ n L hG hl
 refine Za (fun _ _=>Tryz.call185 _ _) Tryz.func185 rfl Tryz.ntmps185 (Nat.le_of_ble_eq_true rfl) ?_;simp only [Zd,Nat.reduceAdd]
 unfold Qf
 cases hm:Wf m at_ n with
 | some e =>
  rw [hm] at hk
  repeat' (first|refine uN ?_|refine uC (hk) ?_|(refine uP ?_ ?_<;>(intro h;((try simp only [zs,zq,reduceCtorEq] at h);try exact zx)))|fail)
  (refine Wb rfl rfl rfl ?_ ⟨?_,rfl⟩;(next=>(repeat (first|exact List.Sublist.refl _|apply List.Sublist.cons))))
  rfl
 | none =>
  rw [hm] at hk
  have h0:0≤at_∧0≤n∧at_+n≤m.b.length:=by
   unfold Wf at hm
   split at hm
   ·cases hm
   ·omega
  repeat' (first|refine uN ?_|refine uC (hk) ?_|(refine uP ?_ ?_<;>(intro h;((try simp only [zs,zq,reduceCtorEq] at h);try exact zx)))|fail)
  refine Wq (qtx S (l:=(m.b.drop at_.toNat).take n.toNat) (Rd.take (hR.drop (Nat.le_refl _))) ?_) ?_
  ·simp;omega
  repeat' (first|refine uN ?_|(refine uP ?_ ?_<;>(intro h;((try simp only [zs,zq,reduceCtorEq] at h);try exact zx)))|fail)
  (refine Wb rfl rfl rfl ?_ ⟨?_,rfl⟩;(next=>(repeat (first|exact List.Sublist.refl _|apply List.Sublist.cons))))
  rfl
theorem Zxw (T:Nat) (E:Nat→Addr) (bp ba:Nat) (m:Pl) (n:Int) (L:Zb) (hG:Er T E [2,6] L):HC Tryz.prog 154 [pt bp 0,iv n] (Xl bp ba m::L)
  (fun v L'=>if n<0 then v=eV T E (some 2)∧L'=Xl bp ba m::L else if m.off then v=eV T E (some 6)∧L'=Xl bp ba m::L else v = .nilIface∧L'=Xl bp ba { m with cut:=n }::L):=by
 have hG':=hG.cons (Xl bp ba m)
 refine Za (fun _ _=>Tryz.call154 _ _) Tryz.func154 rfl Tryz.ntmps154 (Nat.le_of_ble_eq_true rfl) ?_;simp only [Zd,Nat.reduceAdd]
 repeat' (first|refine uN ?_|(refine uP ?_ ?_<;>(intro h;((try simp only [zs,zq,reduceCtorEq] at h);try exact zx)))|fail)
 ·refine Um (L':=Xl bp ba m::L) rfl ?_
  simp [h,eV]
 ·rename_i h1
  refine Um (L':=Xl bp ba m::L) rfl ?_
  simp [h,h1,eV]
 ·rename_i h1
  refine Um (L':=Xl bp ba { m with cut:=n }::L) rfl ?_
  simp [h,h1]
theorem on_calls (bp ba:Nat) (m:Pl) (L:Zb):HC Tryz.prog 158 [pt bp 0] (Xl bp ba m::L) (fun v L'=>v = .tuple #[]∧L'=Xl bp ba { m with off:=false,cut := -1 }::L):=by
 refine Za (fun _ _=>Tryz.call158 _ _) Tryz.func158 rfl Tryz.ntmps158 (Nat.le_of_ble_eq_true rfl) ?_;simp only [Zd,Nat.reduceAdd]
 repeat' (first|refine uN ?_)
 exact ee0 rfl ⟨rfl,rfl⟩
theorem Zyz (bp ba:Nat) (m:Pl) (L:Zb):HC Tryz.prog 155 [pt bp 0] (Xl bp ba m::L) (fun v L'=>v = .tuple #[]∧L'=Xl bp ba { m with off:=true }::L):=by
 refine Za (fun _ _=>Tryz.call155 _ _) Tryz.func155 rfl Tryz.ntmps155 (Nat.le_of_ble_eq_true rfl) ?_;simp only [Zd,Nat.reduceAdd]
 repeat' (first|refine uN ?_)
 exact ee0 rfl ⟨rfl,rfl⟩
theorem Zt3 (T:Nat) (E:Nat→Addr) (s:List UInt8) (L:Zb) (hG:Er T E [2] L) (hl:s.length≤1000000):HC Tryz.prog 161 [bs s] L (fun v L'=>if s.length≤512
  then ∃ bp ba,v = .tuple ⟨[pt bp 0,.nilIface]⟩∧L'=Xl bp ba ⟨s,false,-1⟩::L else v = .tuple ⟨[.pointer none,eV T E (some 2)]⟩∧L'=L):=by
 have hk:=Zms T E s.length L hG
 by_cases h:s.length≤512
 ·rw [show Zrw s.length=some ⟨Yk s.length,false,-1⟩ from by unfold Zrw;rw [if_pos (by omega)];simp] at hk
  simp only [if_pos h]
  refine Za (fun _ _=>Tryz.call161 _ _) Tryz.func161 rfl Tryz.ntmps161 (Nat.le_of_ble_eq_true rfl) ?_;simp only [Zd,Nat.reduceAdd]
  repeat' (first|refine uN ?_|(refine uP ?_ ?_<;>(intro h;((try simp only [zs,zq,reduceCtorEq] at h);try exact zx)))|fail)
  refine gc hk ?_
  rintro v L' ⟨bp,ba,rfl,rfl⟩
  repeat' (first|refine uN ?_|(refine uP ?_ ?_<;>(intro h;((try simp only [zs,zq,reduceCtorEq] at h);try exact zx)))|fail)
  refine wcs S (l':=s.map u8) (i:=0) ?_ ?_
  ·repeat' (first|refine uN ?_|(refine uP ?_ ?_<;>(intro h;((try simp only [zs,zq,reduceCtorEq] at h);try exact zx)))|fail)
   refine Zeb (L':=Xl bp ba ⟨s,false,-1⟩::L) ?_ ⟨bp,ba,rfl,rfl⟩
   simp [Xl,Yk]
  ·have e:s.take (Nat.min s.length (Yk s.length).length)=s:=by simp [Yk]
   rw [e]
   exact Zke (by simp [Yk])
 ·rw [show Zrw s.length=none from if_neg (by omega)] at hk
  simp only [if_neg h]
  refine Za (fun _ _=>Tryz.call161 _ _) Tryz.func161 rfl Tryz.ntmps161 (Nat.le_of_ble_eq_true rfl) ?_;simp only [Zd,Nat.reduceAdd]
  repeat' (first|refine uN ?_|(refine uP ?_ ?_<;>(intro h;((try simp only [zs,zq,reduceCtorEq] at h);try exact zx)))|fail)
  refine gc hk ?_
  rintro v L' ⟨rfl,rfl⟩
  repeat' (first|refine uN ?_|(refine uP ?_ ?_<;>(intro h;((try simp only [zs,zq,reduceCtorEq] at h);try exact zx)))|fail)
  exact Zeb rfl ⟨rfl,rfl⟩
end Go.HL
end

/-! PlB -/
section
namespace Go.HL
open Go Go.Proofs

def Qb (m:Pl) (a:Nat) (s:List UInt8) (i:Nat):Pl:=⟨Ws m.b a (s.take i),false,if m.cut = -1 then -1 else m.cut-i⟩
theorem Zzx {m:Pl} {a:Nat} {s:List UInt8} {i:Nat} (ha:a+s.length≤m.b.length) (hi:i<s.length):(Qb m a s (i+1)).b=(Qb m a s i).b.set (a+i) (s.getD i 0):=by
 show Ws m.b a (s.take (i+1))=(Ws m.b a (s.take i)).set (a+i) (s.getD i 0)
 rw [List.take_succ_eq_append_getElem hi,Zsv (by simp;omega)]
 simp [List.getD,hi,Nat.min_eq_left (Nat.le_of_lt hi)]
theorem Zlb {m:Pl} {a:Nat} {s:List UInt8} {i:Nat} (ha:a+s.length≤m.b.length):(Qb m a s i).b.length=m.b.length:=Zk2 (by simp;omega)
set_option maxHeartbeats 2000000 attribute [local irreducible] HW HO HQ HD HC QOp Has Upd Zt Gets Z8 Z0 Zo Xm Zz Zj Xp Zy
theorem Zdh (T:Nat) (E:Nat→Addr) (bp ba:Nat) (m:Pl) (at_:Int) (s:List UInt8) (L:Zb) (hG:Er T E [2,6] L) (hl:m.b.length≤1000000) (hs:s.length≤1000000) (hc : -1≤m.cut∧m.cut≤9223372036854775807) :
  HC Tryz.prog 248 [pt bp 0,iv at_,bs s] (Xl bp ba m::L) (fun v L'=>v=eV T E (Yg m at_ s).2∧L'=Xl bp ba (Yg m at_ s).1::L):=by
 have hk:=Zj0 T E bp ba m at_ s.length L hG hl
 have hG' : ∀ m',Er T E [2,6] (Xl bp ba m'::L):=fun m'=>hG.cons _
 refine Za (fun _ _=>Tryz.call248 _ _) Tryz.func248 rfl Tryz.ntmps248 (Nat.le_of_ble_eq_true rfl) ?_;simp only [Zd,Nat.reduceAdd]
 unfold Yg
 cases hm:Wf m at_ s.length with
 | some e =>
  rw [hm] at hk
  repeat' (first|refine uN ?_|refine Z2 S ?_|refine Yp S ?_|refine uC (hk) ?_|refine Yb (fun _=>hk) ?_|refine Yc (fun _=>hk) ?_|refine Yd (fun _=>hk) ?_|refine Ye (fun _=>hk) ?_|refine dg S 100 (fun _ _=>?_)|(refine uP ?_ ?_<;>(intro h;((try simp only [zs,zq,reduceCtorEq] at h);try exact zx)))|refine da 101 ?_|fail)
  exact Um rfl ⟨rfl,rfl⟩
 | none =>
  rw [hm] at hk
  have h0:0≤at_∧at_+s.length≤m.b.length∧m.off=false:=by
   unfold Wf at hm
   split at hm
   ·cases hm
   ·split at hm
    ·cases hm
    ·exact ⟨by omega,by omega,by simp_all⟩
  obtain ⟨a,rfl⟩:=Int.eq_ofNat_of_zero_le h0.1
  obtain ⟨-,h1,hoff⟩:=h0
  have h2:a+s.length≤m.b.length:=by omega
  clear hm
  repeat' (first|refine uN ?_|refine Z2 S ?_|refine Yp S ?_|refine uC (hk) ?_|refine Yb (fun _=>hk) ?_|refine Yc (fun _=>hk) ?_|refine Yd (fun _=>hk) ?_|refine Ye (fun _=>hk) ?_|refine dg S 100 (fun _ _=>?_)|(refine uP ?_ ?_<;>(intro h;((try simp only [zs,zq,reduceCtorEq] at h);try exact zx)))|refine da 101 ?_|fail)
  have hst:Xl bp ba m=Xl bp ba (Qb m a s 0):=by
   obtain ⟨mb,mo,mc⟩:=m
   simp only at hoff
   subst hoff
   simp only [Qb,List.take_zero,Ze4]
   by_cases h:mc = -1<;>simp [h,Xl]
  rw [hst]
  refine Zp (σ:=Nat) (fun i=>[(0,pt bp 0),(1,iv a),(2,bs s),(18,iv s.length),(19,iv i)]) (fun i=>Xl bp ba (Qb m a s i)::L) (fun i=>i≤s.length∧(m.cut = -1∨(i:Int)≤m.cut)) (fun i=>s.length-i) 0 uS (List.Sublist.refl _) ⟨by omega,by omega⟩ ?_
  rintro i ⟨i1,i2⟩
  have hG2:=hG' (Qb m a s i)
  have hlen:=Zlb (i:=i) h2
  have hcut:(m.cut = -1∧(Qb m a s i).cut = -1)∨(m.cut ≠ -1∧(Qb m a s i).cut=m.cut-i):=by
   unfold Qb
   by_cases h:m.cut = -1
   ·exact .inl ⟨h,by simp [h]⟩
   ·exact .inr ⟨h,by simp [h]⟩
  by_cases hlt:i<s.length
  ·have hP:Zt ((Qb m a s i).b.map u8) (0+((a:Int)+(i:Int)).toNat) [.int .u8 (((s.getD (i:Int).toNat 0).toNat:Nat):Int)] ((Qb m a s (i+1)).b.map u8):=by
    rw [Zzx h2 hlt,List.map_set]
    have e:0+((a:Int)+(i:Int)).toNat=a+i:=by omega
    rw [e]
    exact Vf (by simp;omega)
   have hnext:Xl bp ba (Qb m a s (i+1))=[(bp,.cells ⟨[sl ba 0 (Qb m a s i).b.length (Qb m a s i).b.length,.bool (Qb m a s i).off,iv (max (-1) ((Qb m a s i).cut-1))]⟩ 205),(ba,.cells ⟨(Qb m a s (i+1)).b.map u8⟩ 5)]:=by
    have e1:(Qb m a s (i+1)).b.length=(Qb m a s i).b.length:=by rw [Zlb h2,Zlb h2]
    have e2:(Qb m a s (i+1)).cut=max (-1) ((Qb m a s i).cut-1):=by
     have e3:(Qb m a s (i+1)).cut=if m.cut = -1 then -1 else m.cut-((i+1:Nat):Int):=rfl
     rw [e3]
     rcases hcut with hcut|hcut
     ·rw [if_pos hcut.1];omega
     ·rw [if_neg hcut.1];omega
    have e4:(Qb m a s (i+1)).off=(Qb m a s i).off:=rfl
    unfold Xl
    rw [e1,e2,e4]
   repeat' (first|refine uN ?_|refine Z2 S ?_|refine Yp S ?_|refine dg S 100 (fun _ _=>?_)|(refine uP ?_ ?_<;>(intro h;((try simp only [zs,zq,reduceCtorEq] at h);try exact zx)))|refine da 101 ?_|fail)
   ·have hk0:kM m s.length=i:=by
     unfold kM
     rcases hcut with hcut|hcut
     ·omega
     ·rw [if_neg hcut.1]
      omega
    refine Um (L':=Xl bp ba (Zbo m a s).1::L) ?_ ?_
    ·simp only [Zbo,hk0,hoff,decide_eq_true hlt,Bool.or_true,List.flatten_cons]
     have e:Xl bp ba (Qb m a s i)=Xl bp ba ⟨Ws m.b a (s.take i),false,if m.cut = -1 then -1 else m.cut-i⟩:=rfl
     simp [Xl,Qb]
    ·simp [Zbo,hk0,hlt,eV]
   ·refine Zq (i+1) uS ?_ ⟨by omega,by omega⟩ (by omega)
    rw [hnext]
    exact List.Sublist.refl _
  ·repeat' (first|refine uN ?_|refine Z2 S ?_|refine Yp S ?_|refine dg S 100 (fun _ _=>?_)|(refine uP ?_ ?_<;>(intro h;((try simp only [zs,zq,reduceCtorEq] at h);try exact zx)))|refine da 101 ?_|fail)
   have hi:i=s.length:=by omega
   subst hi
   have hk0:kM m s.length=s.length:=by
    unfold kM
    split
    ·rfl
    ·omega
   refine Um (L':=Xl bp ba (Zbo m a s).1::L) ?_ ?_
   ·simp [Xl,Qb,Zbo,hk0,hoff]
   ·simp [Zbo,hk0,eV]
end Go.HL
end

/-! JnA -/
section
namespace Go.HL
open Go Go.Proofs

theorem Zsu {α:Type} {p:List α→Prop} (h0:p []) (h1 : ∀ l a,p l→p (l++[a])) (l:List α):p l:=by
 have h : ∀ l:List α,p l.reverse:=fun l=>by
  induction l with
  | nil=>exact h0
  | cons a l ih=>rw [List.reverse_cons];exact h1 _ _ ih
 have:=h l.reverse
 rwa [List.reverse_reverse] at this
def bt (n:Int) (k:Nat):UInt8:=UInt8.ofNat (n / 2 ^ (8*k) % 256).toNat
theorem Ztt (n:Int) (k:Nat):((bt n k).toNat:Int)=n / 2 ^ (8*k) % 256:=by
 unfold bt
 have h1:0≤n / 2 ^ (8*k) % 256:=Int.emod_nonneg _ (by decide)
 have h2:n / 2 ^ (8*k) % 256<256:=Int.emod_lt_of_pos _ (by decide)
 rw [UInt8.toNat_ofNat',Nat.mod_eq_of_lt (by omega)]
 omega
def Xn (n:Int):Nat→List UInt8
 | 0=>[]
 | k+1=>bt n k::Xn n k
theorem Y6 (n:Int) (k:Nat):(Xn n k).length=k:=by
 induction k with
 | zero=>rfl
 | succ k ih=>simp [Xn,ih]
def Zat (s:List UInt8):Nat:=s.foldl (fun n b=>n*256+b.toNat) 0
theorem Zkk (s:List UInt8) (b:UInt8):Zat (s++[b])=Zat s*256+b.toNat:=by simp [Zat]
theorem Zo2 (s:List UInt8):Zat s<256 ^ s.length:=by
 refine Zsu (p:=fun s=>Zat s<256 ^ s.length) (by simp [Zat]) (fun s b ih=>?_) s
 ·rw [Zkk]
  have:=b.toNat_lt
  simp only [List.length_append,List.length_cons,List.length_nil,Nat.zero_add,Nat.pow_succ]
  omega
def Ztw (c:Nat):Nat:=(c / 2) ^^^ (3988292384*(c % 2))
def Zep:Nat→Nat→Nat
 | 0,c=>c
 | k+1,c=>Zep k (Ztw c)
theorem Zl9 (k c:Nat):Zep (k+1) c=Ztw (Zep k c):=by
 induction k generalizing c with
 | zero=>rfl
 | succ k ih=>exact ih (Ztw c)
def Ztx (c:Nat) (b:UInt8):Nat:=Zep 8 (c ^^^ b.toNat)
def Ug (s:List UInt8):Nat:=s.foldl Ztx 4294967295
def Zpw (s:List UInt8):Nat:=4294967295-Ug s
theorem crc1_lt {c:Nat} (h:c<4294967296):Ztw c<4294967296:=by
 unfold Ztw
 exact Nat.xor_lt_two_pow (n:=32) (by omega) (by omega)
theorem Zn4 {k c:Nat} (h:c<4294967296):Zep k c<4294967296:=by
 induction k generalizing c with
 | zero=>exact h
 | succ k ih=>exact ih (crc1_lt h)
theorem Ztc {c:Nat} (b:UInt8) (h:c<4294967296):c ^^^ b.toNat<4294967296:=Nat.xor_lt_two_pow (n:=32) h (by have:=b.toNat_lt;omega)
theorem crcB_lt {c:Nat} {b:UInt8} (h:c<4294967296):Ztx c b<4294967296:=Zn4 (Ztc b h)
theorem Zv8 (s:List UInt8):Ug s<4294967296:=by
 refine Zsu (p:=fun s=>Ug s<4294967296) (by decide) (fun s b ih=>?_) s
 rw [show Ug (s++[b])=Ztx (Ug s) b by simp [Ug]];exact crcB_lt ih
theorem crc_val (c:Nat) (h:c<4294967296):((((c:Int) / 2 ^ (1:Int).toNat).toNat ^^^ ((3988292384*(((c:Int).toNat &&& (1:Int).toNat:Nat):Int)) % 4294967296).toNat:Nat):Int)=((Ztw c:Nat):Int):=by
 have e1:((c:Int) / 2 ^ (1:Int).toNat).toNat=c / 2:=by simp;omega
 have e2:((c:Int).toNat &&& (1:Int).toNat:Nat)=c % 2:=by simp [Nat.and_one_is_mod]
 have e3:((3988292384*((c % 2:Nat):Int)) % 4294967296).toNat=3988292384*(c % 2):=by omega
 rw [e1,e2,e3]
 rfl
set_option maxHeartbeats 2000000 attribute [local irreducible] HW HO HQ HD HC QOp Has Upd Zt Gets Z8 Z0 Zo Xm Zz Zj Xp Zy
theorem Zug (s:List UInt8) (L:Zb) (hs:s.length≤1000000):HC Tryz.prog 235 [bs s] L (fun v L'=>v=iv (Zpw s)∧L'=L):=by
 refine Za (fun _ _=>Tryz.call235 _ _) Tryz.func235 rfl Tryz.ntmps235 (Nat.le_of_ble_eq_true rfl) ?_;simp only [Zd,Nat.reduceAdd]
 repeat' (first|refine uN ?_|(refine uP ?_ ?_<;>(intro h;((try simp only [zs,zq,reduceCtorEq] at h);try exact zx)))|fail)
 refine Zp (σ:=Nat) (fun i=>[(0,bs s),(6,iv s.length),(7,iv i),(3,.int .u32 (Ug (s.take i)))]) (fun _=>L) (fun i=>i≤s.length) (fun i=>s.length-i) 0 uS (List.Sublist.refl _) (by omega) ?_
 intro i i1
 have hc:=Zv8 (s.take i)
 by_cases hlt:i<s.length
 ·have hb:=(s.getD (i:Int).toNat 0).toNat_lt
  repeat' (first|refine uN ?_|(refine uP ?_ ?_<;>(intro h;((try simp only [zs,zq,reduceCtorEq] at h);try exact zx)))|fail)
  have e0:(((Ug (s.take i):Nat):Int).toNat ^^^ (((s.getD (i:Int).toNat 0).toNat:Nat):Int).toNat:Nat)=Ug (s.take i) ^^^ (s.getD i 0).toNat:=by simp
  rw [e0]
  have hx:=Ztc (s.getD i 0) hc
  refine Zp (σ:=Nat) (fun j=>[(0,bs s),(6,iv s.length),(7,iv i),(16,iv j),(3,.int .u32 (Zep j (Ug (s.take i) ^^^ (s.getD i 0).toNat)))]) (fun _=>L) (fun j=>j≤8) (fun j=>8-j) 0 uS (List.Sublist.refl _) (by omega) ?_
  intro j j1
  have hcj:=Zn4 (k:=j) hx
  by_cases hlt2:j<8
  ·repeat' (first|refine uN ?_|(refine uP ?_ ?_<;>(intro h;((try simp only [zs,zq,reduceCtorEq] at h);try exact zx)))|fail)
   refine Zq (j+1) ?_ (List.Sublist.refl _) (by omega) (by omega)
   rw [Zl9,← crc_val _ hcj]
   repeat (first|exact trivial|refine ⟨rfl,?_⟩)
  ·have hj:j=8:=by omega
   subst hj
   repeat' (first|refine uN ?_|(refine uP ?_ ?_<;>(intro h;((try simp only [zs,zq,reduceCtorEq] at h);try exact zx)))|fail)
   refine Zq (i+1) ?_ (List.Sublist.refl _) (by omega) (by omega)
   have e:Ug (s.take (i+1))=Zep 8 (Ug (s.take i) ^^^ (s.getD i 0).toNat):=by
    rw [List.take_succ_eq_append_getElem hlt]
    rw [show ∀ l b,Ug (l++[b])=Ztx (Ug l) b from fun l b=>by simp [Ug]]
    simp [Ztx,List.getD,hlt]
   rw [e]
   repeat (first|exact trivial|refine ⟨rfl,?_⟩)
 ·repeat' (first|refine uN ?_|(refine uP ?_ ?_<;>(intro h;((try simp only [zs,zq,reduceCtorEq] at h);try exact zx)))|fail)
  have hi:i=s.length:=by omega
  subst hi
  (refine Xb rfl rfl ?_ ⟨?_,rfl⟩;(next=>(repeat (first|exact List.Sublist.refl _|apply List.Sublist.cons))))
  rw [List.take_length] at hc ⊢
  exact congrArg iv (by unfold Zpw;omega)
end Go.HL
end

/-! JnB -/
section
namespace Go.HL
open Go Go.Proofs

theorem Zkl (b E:Nat) (l:List UInt8) (L:Zb):Rd uc 1 ([(b,.cells ⟨l.map u8⟩ E)]::L) (some ⟨b,0,none⟩) l:=by
 refine .inr ⟨b,0,l.map u8,E,(0,0),rfl,Zh,fun k x hx=>?_⟩
 have:=Wx (enc:=uc) (sz:=1) (fun _=>rfl) l [] [] k x hx
 simpa [Zxa] using this
theorem Zzz (n i:Nat) (x:Int) (h:i<n):(Yk (n-i)++Xn x i).set (n-1-i) (bt x i)=Yk (n-(i+1))++Xn x (i+1):=by
 have e:Yk (n-i)=Yk (n-(i+1))++[0]:=by
  rw [show n-i=(n-(i+1))+1 by omega]
  simp [Yk,List.replicate_succ']
 rw [e,List.append_assoc,List.set_append_right _ _ (by simp [Yk];omega)]
 simp [Yk,Xn,show n-1-i-(n-(i+1))=0 by omega]
structure Ent where
 n:Int
 s:St
def Zz0 (e:Ent):List Value:=[iv e.n,iv e.s.ph,iv e.s.pr,iv e.s.att]
def head (e:Ent):List UInt8:=Xn e.n 4++Xn e.s.ph 1++Xn e.s.pr 4++Xn e.s.att 4
def Y2 (e:Ent):List UInt8:=head e++Xn (Zpw (head e)) 4
set_option maxHeartbeats 2000000 attribute [local irreducible] HW HO HQ HD HC QOp Has Upd Zt Gets Z8 Z0 Zo Xm Zz Zj Xp Zy
theorem U1 (n:Int) (many:Nat) (L:Zb) (hm:many≤8):HC Tryz.prog 234 [iv n,iv many] L (fun v L'=>v=bs (Xn n many)∧L'=L):=by
 refine Za (fun _ _=>Tryz.call234 _ _) Tryz.func234 rfl Tryz.ntmps234 (Nat.le_of_ble_eq_true rfl) ?_;simp only [Zd,Nat.reduceAdd]
 repeat' (first|refine uN ?_|(refine uB ?_;intro b)|(refine uP ?_ ?_<;>(intro h;((try simp only [zs,zq,reduceCtorEq] at h);try exact zx)))|fail)
 refine Zp (σ:=Nat) (fun i=>[(0,iv n),(1,iv many),(5,sl b 0 many many),(9,iv many),(10,iv i)]) (fun i=>[(b,.cells ⟨(Yk (many-i)++Xn n i).map u8⟩ 5)]::L) (fun i=>i≤many) (fun i=>many-i) 0 uS ?_ (by omega) ?_
 ·simp [Xn,Zk6,Yk,u8]
 ·intro i i1
  by_cases hlt:i<many
  ·have hP:Zt ((Yk (many-i)++Xn n i).map u8) (0+((many:Int)-1-(i:Int)).toNat) [.int .u8 (n / 2 ^ (8*(i:Int)).toNat % 256)] ((Yk (many-(i+1))++Xn n (i+1)).map u8):=by
    rw [← Zzz many i n hlt,List.map_set]
    have e:0+((many:Int)-1-(i:Int)).toNat=many-1-i:=by omega
    have e2:(8*(i:Int)).toNat=8*i:=by omega
    have e3:Value.int .u8 (n / 2 ^ (8*(i:Int)).toNat % 256)=u8 (bt n i):=by unfold u8;rw [Ztt,e2]
    rw [e,e3]
    exact Vf (by simp [Yk,Y6];omega)
   repeat' (first|refine uN ?_|(refine uB ?_;intro b)|(refine uP ?_ ?_<;>(intro h;((try simp only [zs,zq,reduceCtorEq] at h);try exact zx)))|fail)
   refine Zq (i+1) uS (List.Sublist.refl _) (by omega) (by omega)
  ·have hi:i=many:=by omega
   subst hi
   repeat' (first|refine uN ?_|(refine uB ?_;intro b)|(refine uP ?_ ?_<;>(intro h;((try simp only [zs,zq,reduceCtorEq] at h);try exact zx)))|fail)
   refine Wq (qtx S (Zkl _ _ _ _) ?_) ?_
   ·simp [Yk,Y6]
   ·repeat' (first|refine uN ?_|(refine uB ?_;intro b)|(refine uP ?_ ?_<;>(intro h;((try simp only [zs,zq,reduceCtorEq] at h);try exact zx)))|fail)
    refine Xb rfl rfl (List.sublist_cons_self _ _) ⟨?_,rfl⟩
    simp [Yk]
theorem Zaw (s:List UInt8) (L:Zb) (hs:s.length≤7):HC Tryz.prog 215 [bs s] L (fun v L'=>v=iv (Zat s)∧L'=L):=by
 refine Za (fun _ _=>Tryz.call215 _ _) Tryz.func215 rfl Tryz.ntmps215 (Nat.le_of_ble_eq_true rfl) ?_;simp only [Zd,Nat.reduceAdd]
 repeat' (first|refine uN ?_|(refine uP ?_ ?_<;>(intro h;((try simp only [zs,zq,reduceCtorEq] at h);try exact zx)))|fail)
 refine Zp (σ:=Nat) (fun i=>[(0,bs s),(6,iv s.length),(7,iv i),(3,iv (Zat (s.take i)))]) (fun _=>L) (fun i=>i≤s.length) (fun i=>s.length-i) 0 uS (List.Sublist.refl _) (by omega) ?_
 intro i i1
 by_cases hlt:i<s.length
 ·have hb:=(s.getD (i:Int).toNat 0).toNat_lt
  have hr:=Zo2 (s.take i)
  have hr2:Zat (s.take i)<281474976710656:=by
   have:256 ^ (s.take i).length≤256 ^ 6:=Nat.pow_le_pow_right (by decide) (by simp;omega)
   omega
  repeat' (first|refine uN ?_|(refine uP ?_ ?_<;>(intro h;((try simp only [zs,zq,reduceCtorEq] at h);try exact zx)))|fail)
  refine Zq (i+1) ?_ (List.Sublist.refl _) (by omega) (by omega)
  have e:((((Zat (s.take i):Nat):Int)*2 ^ Int.toNat 8).toNat ||| (((s.getD (i:Int).toNat 0).toNat:Nat):Int).toNat:Nat)=Zat (s.take (i+1)):=by
   rw [List.take_succ_eq_append_getElem hlt,Zkk]
   have e1:(((Zat (s.take i):Nat):Int)*2 ^ Int.toNat 8).toNat=(Zat (s.take i)) <<< 8:=by rw [Nat.shiftLeft_eq];simp;omega
   have e2:(((s.getD (i:Int).toNat 0).toNat:Nat):Int).toNat=(s[i]).toNat:=by simp [List.getD,hlt]
   rw [e1,e2,← Nat.shiftLeft_add_eq_or_of_lt (s[i]).toNat_lt,Nat.shiftLeft_eq]
  rw [← e]
  repeat (first|exact trivial|refine ⟨rfl,?_⟩)
 ·repeat' (first|refine uN ?_|(refine uP ?_ ?_<;>(intro h;((try simp only [zs,zq,reduceCtorEq] at h);try exact zx)))|fail)
  have hi:i=s.length:=by omega
  subst hi
  (refine Xb rfl rfl ?_ ⟨?_,rfl⟩;(next=>(repeat (first|exact List.Sublist.refl _|apply List.Sublist.cons))))
  rw [List.take_length]
theorem Zi7 (e:Ent) (L:Zb):HC Tryz.prog 216 [.agg ⟨Zz0 e⟩] L (fun v L'=>v=bs (Y2 e)∧L'=L):=by
 have k1 : ∀ L,HC Tryz.prog 234 [iv e.n,iv 4] L (fun v L'=>v=bs (Xn e.n 4)∧L'=L):=fun L=>U1 e.n 4 L (by decide)
 have k2 : ∀ L,HC Tryz.prog 234 [iv e.s.ph,iv 1] L (fun v L'=>v=bs (Xn e.s.ph 1)∧L'=L):=fun L=>U1 e.s.ph 1 L (by decide)
 have k3 : ∀ L,HC Tryz.prog 234 [iv e.s.pr,iv 4] L (fun v L'=>v=bs (Xn e.s.pr 4)∧L'=L):=fun L=>U1 e.s.pr 4 L (by decide)
 have k4 : ∀ L,HC Tryz.prog 234 [iv e.s.att,iv 4] L (fun v L'=>v=bs (Xn e.s.att 4)∧L'=L):=fun L=>U1 e.s.att 4 L (by decide)
 have k5 : ∀ L,HC Tryz.prog 234 [iv (Zpw (head e)),iv 4] L (fun v L'=>v=bs (Xn (Zpw (head e)) 4)∧L'=L):=fun L=>U1 _ 4 L (by decide)
 have k6 : ∀ L,HC Tryz.prog 235 [bs (head e)] L (fun v L'=>v=iv (Zpw (head e))∧L'=L):=fun L=>Zug _ L (by simp [head,Y6])
 have n1:=Y6 e.n 4
 have n2:=Y6 e.s.ph 1
 have n3:=Y6 e.s.pr 4
 have n4:=Y6 e.s.att 4
 have n5:=Y6 (Zpw (head e)) 4
 refine Za (fun _ _=>Tryz.call216 _ _) Tryz.func216 rfl Tryz.ntmps216 (Nat.le_of_ble_eq_true rfl) ?_;simp only [Zd,Nat.reduceAdd]
 repeat' (first|refine uN ?_|refine Z2 S ?_|refine uC (k1 _) ?_|refine uC (k2 _) ?_|refine uC (k3 _) ?_|refine uC (k4 _) ?_|refine uC (k5 _) ?_|refine uC (k6 _) ?_|(refine uB ?_;intro b)|fail)
 refine Xb rfl rfl (List.sublist_cons_self _ _) ⟨?_,rfl⟩
 simp [Y2,head]
def Xa:List UInt8:=[165]
def Y5 (k:Int) (s:List UInt8):Ent:=
 let e:Ent:=⟨Zat (s.take 4),Zat ((s.take 5).drop 4),Zat ((s.take 9).drop 5),Zat ((s.take 13).drop 9)⟩
 if e.n<1∨e.n % 2≠k∨Y2 e++Xa≠s then ⟨0,0,0,0⟩ else e
def Zc7 (s:List UInt8):Ent:=⟨Zat (s.take 4),Zat ((s.take 5).drop 4),Zat ((s.take 9).drop 5),Zat ((s.take 13).drop 9)⟩
theorem Qq (k:Int) (s:List UInt8):Y5 k s=if (Zc7 s).n<1∨(Zc7 s).n % 2≠k∨Y2 (Zc7 s)++Xa≠s then ⟨0,0,0,0⟩ else Zc7 s:=rfl
theorem Zt9 (k:Int) (s:List UInt8) (L:Zb) (hs:s.length=18):HC Tryz.prog 186 [iv k,bs s] L (fun v L'=>v = .agg ⟨Zz0 (Y5 k s)⟩∧L'=L):=by
 have k1 : ∀ L,HC Tryz.prog 215 [bs (s.take 4)] L (fun v L'=>v=iv (Zat (s.take 4))∧L'=L):=fun L=>Zaw _ L (by simp;omega)
 have k2 : ∀ L,HC Tryz.prog 215 [bs ((s.take 5).drop 4)] L (fun v L'=>v=iv (Zat ((s.take 5).drop 4))∧L'=L):=fun L=>Zaw _ L (by simp;omega)
 have k3 : ∀ L,HC Tryz.prog 215 [bs ((s.take 9).drop 5)] L (fun v L'=>v=iv (Zat ((s.take 9).drop 5))∧L'=L):=fun L=>Zaw _ L (by simp;omega)
 have k4 : ∀ L,HC Tryz.prog 215 [bs ((s.take 13).drop 9)] L (fun v L'=>v=iv (Zat ((s.take 13).drop 9))∧L'=L):=fun L=>Zaw _ L (by simp;omega)
 have k5 : ∀ L,HC Tryz.prog 216 [.agg ⟨[iv (Zat (s.take 4)),iv (Zat ((s.take 5).drop 4)),iv (Zat ((s.take 9).drop 5)),iv (Zat ((s.take 13).drop 9))]⟩] L (fun v L'=>v=bs (Y2 (Zc7 s))∧L'=L):=fun L=>Zi7 (Zc7 s) L
 have hn:Zat (s.take 4)<4294967296:=by
  have:=Zo2 (s.take 4)
  rwa [show (s.take 4).length=4 by simp;omega] at this
 have hb:(Y2 (Zc7 s)).length=17:=by simp [Y2,head,Y6]
 rw [Qq]
 refine Za (fun _ _=>Tryz.call186 _ _) Tryz.func186 rfl Tryz.ntmps186 (Nat.le_of_ble_eq_true rfl) ?_;simp only [Zd,Nat.reduceAdd]
 repeat' (first|refine uN ?_|refine Z2 S ?_|refine Yp S ?_|refine uC (k1 _) ?_|refine uC (k2 _) ?_|refine uC (k3 _) ?_|refine uC (k4 _) ?_|refine uC (k5 _) ?_|refine Yb (fun _=>k1 _) ?_|refine Yc (fun _=>k1 _) ?_|refine Yd (fun _=>k1 _) ?_|refine Ye (fun _=>k1 _) ?_|refine Yb (fun _=>k2 _) ?_|refine Yc (fun _=>k2 _) ?_|refine Yd (fun _=>k2 _) ?_|refine Ye (fun _=>k2 _) ?_|refine Yb (fun _=>k3 _) ?_|refine Yc (fun _=>k3 _) ?_|refine Yd (fun _=>k3 _) ?_|refine Ye (fun _=>k3 _) ?_|refine Yb (fun _=>k4 _) ?_|refine Yc (fun _=>k4 _) ?_|refine Yd (fun _=>k4 _) ?_|refine Ye (fun _=>k4 _) ?_|refine Yb (fun _=>k5 _) ?_|refine Yc (fun _=>k5 _) ?_|refine Yd (fun _=>k5 _) ?_|refine Ye (fun _=>k5 _) ?_|(refine uB ?_;intro b)|(refine uP ?_ ?_<;>(intro h;((try simp only [zs,zq,reduceCtorEq] at h);try exact zx)))|refine da 101 ?_|fail)
 all_goals refine Z9 (LS.skip _ (LS.skip _ (LS.refl _))) ⟨?_,rfl⟩ (hv:=Xy S (hg:=Ze rfl (Ze rfl (Ze rfl (Ze rfl Z4)))))
 ·rw [if_pos (.inl h)];rfl
 ·rw [if_pos (.inr (.inl h))];rfl
 ·rw [if_pos (.inr (.inr h))];rfl
 ·rename_i h1 h2
  rw [if_neg (fun h0=>h0.elim h1 (fun h0=>h0.elim (fun h0=>h0 h2) (fun h0=>h0 h)))];rfl
end Go.HL
end

/-! JnC -/
section
namespace Go.HL
open Go Go.Proofs

structure Jn where
 l:List Ent
 dead:Bool
def Yr (bp:Nat) (j:Jn):List Value:=[pt bp 0]++(j.l.map Zz0).flatten++[.bool j.dead]
def jC (bj bp:Nat) (j:Jn):List Zr:=[(bj,.cells ⟨Yr bp j⟩ 251)]
def Zm:Ent:=⟨0,0,0,0⟩
def Uk (e0 e:Ent):Ent:=if e0.n<e.n then e else e0
def Xe (b:List UInt8) (i:Nat):List UInt8:=(b.drop (i*18)).take 18
def Vj (b:List UInt8) (d:Nat):Nat→Ent
 | 0=>Zm
 | k+1=>Uk (Vj b d k) (Y5 k (Xe b (2*d+k)))
def Xc (b:List UInt8) (d:Nat):Ent:=Vj b d 2
def Zn (b:List UInt8):List Ent:=(List.range 6).map (Xc b)
def Zh6 (b:List UInt8) (d k:Nat):List Ent:=(List.range d).map (Xc b)++Vj b d k::List.replicate (5-d) Zm
theorem lAt_len (b:List UInt8) (d k:Nat) (h:d≤5):(Zh6 b d k).length=6:=by simp [Zh6];omega
theorem lAt_get (b:List UInt8) (d k:Nat):(Zh6 b d k)[d]? = some (Vj b d k):=by
 rw [Zh6,List.getElem?_append_right (by simp)]
 simp
theorem lAt_set (b:List UInt8) (d k:Nat) (e:Ent) (h:e=Vj b d (k+1)):(Zh6 b d k).set d e=Zh6 b d (k+1):=by
 subst h
 rw [Zh6,List.set_append_right _ _ (by simp)]
 simp [Zh6]
theorem lAt_next (b:List UInt8) (d:Nat) (h:d<5):Zh6 b d 2=Zh6 b (d+1) 0:=by
 simp only [Zh6,List.range_succ,List.map_append,List.map_cons,List.map_nil,List.append_assoc,List.cons_append,List.nil_append,Vj]
 rw [show 5-d=(5-(d+1))+1 by omega,List.replicate_succ]
 rfl
theorem lAt_last (b:List UInt8):Zh6 b 5 2=Zn b:=by
 simp [Zh6,Zn,List.range_succ,Xc]
theorem Zbu (e:Ent):(Zz0 e).length=4:=rfl
theorem Zq9 {bp:Nat} {j:Jn} {d:Nat} {e:Ent} (h:j.l[d]? = some e):Gets (Yr bp j) (0+1+(d:Int).toNat*4) (Zz0 e):=by
 have:=Wx (enc:=Zz0) (sz:=4) Zbu j.l [.bool j.dead] [pt bp 0] d e h
 simpa [Yr] using this
theorem Zue {bp:Nat} {j:Jn} {d:Nat} {e:Ent} (h:j.l[d]? = some e):Gets (Yr bp j) (0+1+(d:Int).toNat*4+1) (sc e.s):=fun k v hk=>by
 have:=Zq9 (bp:=bp) h (k+1) v (by simpa [Zz0,sc] using hk)
 rw [show 0+1+(d:Int).toNat*4+1+k=0+1+(d:Int).toNat*4+(k+1) by omega]
 exact this
theorem jputs {bp:Nat} {j:Jn} {d:Nat} (e:Ent) (h:d<j.l.length):Zt (Yr bp j) (0+1+(d:Int).toNat*4) (Zz0 e) (Yr bp ⟨j.l.set d e,j.dead⟩):=by
 have:=Zc8 (enc:=Zz0) (sz:=4) Zbu j.l [.bool j.dead] [pt bp 0] d (0+1+(d:Int).toNat*4) e h (by simp)
 exact this
theorem jdead {bp:Nat} {j:Jn} (h:j.l.length=6):(Yr bp j)[0+25]? = some (.bool j.dead):=by
 unfold Yr
 rw [List.getElem?_append_right (by simp [Yx Zbu,h])]
 simp [Yx Zbu,h]
theorem jputsD {bp:Nat} {j:Jn} (h:j.l.length=6) (b:Bool):Zt (Yr bp j) (0+25) [.bool b] (Yr bp ⟨j.l,b⟩):=by
 have e:Yr bp ⟨j.l,b⟩=(Yr bp j).set (0+25) (.bool b):=by
  unfold Yr
  rw [List.set_append_right _ _ (by simp [Yx Zbu,h])]
  simp [Yx Zbu,h]
 rw [e]
 exact Vf (by simp [Yr,Yx Zbu,h])
set_option maxHeartbeats 2000000 attribute [local irreducible] HW HO HQ HD HC QOp Has Upd Zt Gets Z8 Z0 Zo Xm Zz Zj Xp Zy
attribute [local irreducible] Yr
theorem Zmi (T:Nat) (E:Nat→Addr) (bj bp:Nat) (j:Jn) (d:Int) (L:Zb) (hG:Er T E [2] L) (hl:j.l.length=6):HC Tryz.prog 163 [pt bj 0,iv d] (jC bj bp j::L) (fun v L'=>L'=jC bj bp j::L ∧
  if d<0∨6≤d then v = .tuple ⟨[.agg ⟨[iv 0,iv 0,iv 0]⟩,eV T E (some 2)]⟩ else v = .tuple ⟨[.agg ⟨sc (j.l.getD d.toNat Zm).s⟩,.nilIface]⟩):=by
 by_cases h0:d<0∨6≤d
 ·simp only [if_pos h0]
  refine Za (fun _ _=>Tryz.call163 _ _) Tryz.func163 rfl Tryz.ntmps163 (Nat.le_of_ble_eq_true rfl) ?_;simp only [Zd,Nat.reduceAdd]
  repeat' (first|refine uN ?_|refine Z2 S ?_|refine Yp S ?_|(refine uB ?_;intro b)|refine dg S 100 (fun _ _=>?_)|(refine uP ?_ ?_<;>(intro h;((try simp only [zs,zq,reduceCtorEq] at h);try exact zx)))|refine da 101 ?_|fail)
  ·exact W9 (LS.skip _ (LS.refl _)) ⟨rfl,rfl⟩ (hx:=Xy S (hg:=Ze rfl (Ze rfl (Ze rfl Z4))))
  ·exact W9 (LS.skip _ (LS.refl _)) ⟨rfl,rfl⟩ (hx:=Xy S (hg:=Ze rfl (Ze rfl (Ze rfl Z4))))
 ·simp only [if_neg h0]
  obtain ⟨d,rfl⟩:=Int.eq_ofNat_of_zero_le (show 0≤d by omega)
  have he:j.l[d]? = some (j.l.getD d Zm):=by
   rw [List.getD,List.getElem?_eq_getElem (by omega)];rfl
  have g1:=Zq9 (bp:=bp) he
  have g2:=Zue (bp:=bp) he
  refine Za (fun _ _=>Tryz.call163 _ _) Tryz.func163 rfl Tryz.ntmps163 (Nat.le_of_ble_eq_true rfl) ?_;simp only [Zd,Nat.reduceAdd]
  repeat' (first|refine uN ?_|refine Z2 S ?_|refine Yp S ?_|(refine uB ?_;intro b)|refine dg S 100 (fun _ _=>?_)|(refine uP ?_ ?_<;>(intro h;((try simp only [zs,zq,reduceCtorEq] at h);try exact zx)))|refine da 101 ?_|fail)
  refine W9 (LS.skip _ (LS.refl _)) ⟨rfl,?_⟩ (hx:=Xy S (hg:=Ze rfl (Ze rfl (Ze rfl Z4))))
  simp [sc]
end Go.HL
end

/-! JnD -/
section
namespace Go.HL
open Go Go.Proofs

theorem Zzb (m:Pl) (d k:Nat) (hd:d<6) (hk:k<2) (hl:216≤m.b.length) (ho:m.off=false):Qf m ((2*(d:Int)+(k:Int))*18) 18=(Xe m.b (2*d+k),none):=by
 have h:Wf m ((2*(d:Int)+(k:Int))*18) 18=none:=by
  unfold Wf
  rw [if_neg (by omega),if_neg (by simp [ho])]
 unfold Qf Xe
 rw [h]
 have e:((2*(d:Int)+(k:Int))*18).toNat=(2*d+k)*18:=by omega
 simp [e]
theorem Zbi (b:List UInt8) (i:Nat) (h:i<12) (hl:216≤b.length):(Xe b i).length=18:=by simp [Xe];omega
def lO (b:List UInt8) (d:Nat):List Ent:=if d<6 then Zh6 b d 0 else Zn b
theorem lO_next (b:List UInt8) (d:Nat) (h:d<6):Zh6 b d 2=lO b (d+1):=by
 unfold lO
 split
 ·exact lAt_next b d (by omega)
 ·rw [show d=5 by omega,lAt_last]
theorem lAt_upd (b:List UInt8) (d k:Nat) (h:(Vj b d k).n<(Y5 k (Xe b (2*d+k))).n):(Zh6 b d k).set d (Y5 k (Xe b (2*d+k)))=Zh6 b d (k+1):=
 lAt_set b d k _ (by simp [Vj,Uk,h])
theorem lAt_same (b:List UInt8) (d k:Nat) (h : ¬ (Vj b d k).n<(Y5 k (Xe b (2*d+k))).n):Zh6 b d k=Zh6 b d (k+1):=by
 simp [Zh6,Vj,Uk,h]
theorem jC_new (bj bp:Nat) (b:List UInt8):jC bj bp ⟨lO b 0,false⟩=[(bj,.cells ⟨[pt bp 0,iv 0,iv 0,iv 0,iv 0,iv 0,iv 0,iv 0,iv 0,iv 0,iv 0,iv 0,iv 0,iv 0,iv 0,iv 0,iv 0,iv 0,iv 0,iv 0,iv 0,iv 0,iv 0,iv 0,iv 0,.bool false]⟩ 251)]:=rfl
set_option maxHeartbeats 2000000 attribute [local irreducible] HW HO HQ HD HC QOp Has Upd Zt Gets Z8 Z0 Zo Xm Zz Zj Xp Zy
attribute [local irreducible] Yr Xl
theorem Zkb (T:Nat) (E:Nat→Addr) (bp ba:Nat) (m:Pl) (L:Zb) (hG:Er T E [2,6] L) (hl:m.b.length≤1000000):HC Tryz.prog 141 [pt bp 0] (Xl bp ba m::L) (fun v L' =>
  if m.b.length<216 then v = .tuple ⟨[.pointer none,eV T E (some 2)]⟩∧L'=Xl bp ba m::L else if m.off then v = .tuple ⟨[.pointer none,eV T E (some 6)]⟩∧L'=Xl bp ba m::L
  else ∃ bj,v = .tuple ⟨[pt bj 0,.nilIface]⟩∧L'=jC bj bp ⟨Zn m.b,false⟩::Xl bp ba m::L):=by
 have kb:=Zg7 bp ba m L
 have kp:=Zhk bp ba m L
 by_cases h1:m.b.length<216
 ·simp only [if_pos h1]
  refine Za (fun _ _=>Tryz.call141 _ _) Tryz.func141 rfl Tryz.ntmps141 (Nat.le_of_ble_eq_true rfl) ?_;simp only [Zd,Nat.reduceAdd]
  repeat' (first|refine uN ?_|refine Z2 S ?_|refine Yp S ?_|refine uC (kb) ?_|refine Yb (fun _=>kb) ?_|refine Yc (fun _=>kb) ?_|refine Yd (fun _=>kb) ?_|refine Ye (fun _=>kb) ?_|(refine uB ?_;intro b)|refine dg S 100 (fun _ _=>?_)|(refine uP ?_ ?_<;>(intro h;((try simp only [zs,zq,reduceCtorEq] at h);try exact zx)))|refine da 101 ?_|fail)
  exact Zeb rfl ⟨rfl,rfl⟩
 ·simp only [if_neg h1]
  cases h2:m.off with
  | true =>
   rw [h2] at kp
   simp only [if_true]
   refine Za (fun _ _=>Tryz.call141 _ _) Tryz.func141 rfl Tryz.ntmps141 (Nat.le_of_ble_eq_true rfl) ?_;simp only [Zd,Nat.reduceAdd]
   repeat' (first|refine uN ?_|refine Z2 S ?_|refine Yp S ?_|refine uC (kb) ?_|refine uC (kp) ?_|refine Yb (fun _=>kb) ?_|refine Yc (fun _=>kb) ?_|refine Yd (fun _=>kb) ?_|refine Ye (fun _=>kb) ?_|refine Yb (fun _=>kp) ?_|refine Yc (fun _=>kp) ?_|refine Yd (fun _=>kp) ?_|refine Ye (fun _=>kp) ?_|(refine uB ?_;intro b)|refine dg S 100 (fun _ _=>?_)|(refine uP ?_ ?_<;>(intro h;((try simp only [zs,zq,reduceCtorEq] at h);try exact zx)))|refine da 101 ?_|fail)
   exact Zeb rfl ⟨rfl,rfl⟩
  | false =>
   rw [h2] at kp
   simp only [Bool.false_eq_true,if_false]
   refine Za (fun _ _=>Tryz.call141 _ _) Tryz.func141 rfl Tryz.ntmps141 (Nat.le_of_ble_eq_true rfl) ?_;simp only [Zd,Nat.reduceAdd]
   repeat' (first|refine uN ?_|refine Z2 S ?_|refine Yp S ?_|refine uC (kb) ?_|refine uC (kp) ?_|refine Yb (fun _=>kb) ?_|refine Yc (fun _=>kb) ?_|refine Yd (fun _=>kb) ?_|refine Ye (fun _=>kb) ?_|refine Yb (fun _=>kp) ?_|refine Yc (fun _=>kp) ?_|refine Yd (fun _=>kp) ?_|refine Ye (fun _=>kp) ?_|(refine uB ?_;intro b)|refine dg S 100 (fun _ _=>?_)|(refine uP ?_ ?_<;>(intro h;((try simp only [zs,zq,reduceCtorEq] at h);try exact zx)))|refine da 101 ?_|fail)
   refine fw 1 ?_
   refine Zp (σ:=Nat) (fun d=>[(0,pt bp 0),(4,pt b 0),(28,iv d)]) (fun d=>Xl bp ba m::jC b bp ⟨lO m.b d,false⟩::L) (fun d=>d≤6) (fun d=>6-d) 0 uS ?_ (by omega) ?_
   ·rw [jC_new];exact List.Sublist.refl _
   intro d d1
   by_cases hd:d<6
   ·rw [show lO m.b d=Zh6 m.b d 0 from if_pos hd]
    repeat' (first|refine uN ?_|refine Z2 S ?_|refine Yp S ?_|(refine uB ?_;intro b)|refine dg S 100 (fun _ _=>?_)|(refine uP ?_ ?_<;>(intro h;((try simp only [zs,zq,reduceCtorEq] at h);try exact zx)))|refine da 101 ?_|fail)
    refine Zp (σ:=Nat) (fun k=>[(0,pt bp 0),(4,pt b 0),(28,iv d),(5,iv d),(31,iv k)]) (fun k=>Xl bp ba m::jC b bp ⟨Zh6 m.b d k,false⟩::L) (fun k=>k≤2) (fun k=>2-k) 0 uS (List.Sublist.refl _) (by omega) ?_
    intro k k1
    by_cases hk:k<2
    ·have kr:=Zkn T E bp ba m ((2*(d:Int)+(k:Int))*18) 18 (jC b bp ⟨Zh6 m.b d k,false⟩::L) (hG.cons _) hl
     rw [Zzb m d k hd hk (by omega) h2] at kr
     have kh : ∀ L,HC Tryz.prog 186 [iv k,bs (Xe m.b (2*d+k))] L (fun v L'=>v = .agg ⟨Zz0 (Y5 k (Xe m.b (2*d+k)))⟩∧L'=L):=fun L=>Zt9 _ _ L (Zbi _ _ (by omega) (by omega))
     have g1:=Zq9 (bp:=bp) (j:=⟨Zh6 m.b d k,false⟩) (lAt_get m.b d k)
     have p1:=jputs (bp:=bp) (j:=⟨Zh6 m.b d k,false⟩) (d:=d) (Y5 k (Xe m.b (2*d+k))) (by simp [lAt_len m.b d k (by omega)];omega)
     repeat' (first|refine uN ?_|refine Z2 S ?_|refine Yp S ?_|refine uC (kr) ?_|refine uC (kh _) ?_|refine Yb (fun _=>kr) ?_|refine Yc (fun _=>kr) ?_|refine Yd (fun _=>kr) ?_|refine Ye (fun _=>kr) ?_|refine Yb (fun _=>kh _) ?_|refine Yc (fun _=>kh _) ?_|refine Yd (fun _=>kh _) ?_|refine Ye (fun _=>kh _) ?_|(refine uB ?_;intro b)|refine dg S 100 (fun _ _=>?_)|(refine uP ?_ ?_<;>(intro h;((try simp only [zs,zq,reduceCtorEq] at h);try exact zx)))|refine da 101 ?_|fail)
     ·refine Zq (k+1) uS ?_ (by omega) (by omega)
      rw [← lAt_upd _ _ _ h]
      exact (List.Sublist.refl _).cons _
     ·refine Zq (k+1) uS ?_ (by omega) (by omega)
      rw [← lAt_same _ _ _ h]
      exact (List.Sublist.refl _).cons _
    ·rw [show k=2 by omega]
     repeat' (first|refine uN ?_|refine Z2 S ?_|refine Yp S ?_|(refine uB ?_;intro b)|refine dg S 100 (fun _ _=>?_)|(refine uP ?_ ?_<;>(intro h;((try simp only [zs,zq,reduceCtorEq] at h);try exact zx)))|refine da 101 ?_|fail)
     refine Zq (d+1) uS ?_ (by omega) (by omega)
     rw [lO_next _ _ hd]
     exact List.Sublist.refl _
   ·rw [show d=6 by omega]
    repeat' (first|refine uN ?_|refine Z2 S ?_|refine Yp S ?_|(refine uB ?_;intro b)|refine dg S 100 (fun _ _=>?_)|(refine uP ?_ ?_<;>(intro h;((try simp only [zs,zq,reduceCtorEq] at h);try exact zx)))|refine da 101 ?_|fail)
    refine W9 (L':=jC b bp ⟨Zn m.b,false⟩::Xl bp ba m::L) ?_ ⟨b,rfl,rfl⟩
    rw [show lO m.b 6=Zn m.b from rfl]
    exact LS.of_perm (by simp only [List.flatten_cons,← List.append_assoc];exact (List.perm_append_comm.append_right _))
end Go.HL
end

/-! JnE -/
section
namespace Go.HL
open Go Go.Proofs

structure PlOk (m:Pl):Prop where
 len:m.b.length≤1000000
 lo : -1≤m.cut
 hi:m.cut≤9223372036854775807
theorem Zew {m:Pl} {a n:Int} (h:Wf m a n=none):0≤a∧0≤n∧a+n≤m.b.length∧m.off=false:=by
 unfold Wf at h
 split at h
 ·cases h
 ·split at h
  ·cases h
  ·exact ⟨by omega,by omega,by omega,by simp_all⟩
theorem Zvw (m:Pl) (a:Int) (s:List UInt8):(Yg m a s).1.b.length=m.b.length:=by
 unfold Yg
 cases h:Wf m a s.length with
 | some e=>rfl
 | none =>
  obtain ⟨h1,h2,h3,h4⟩:=Zew h
  exact Zk2 (by simp;omega)
theorem Zg3 {m:Pl} (h:PlOk m) (a:Int) (s:List UInt8):PlOk (Yg m a s).1:=by
 refine ⟨by rw [Zvw];exact h.len,?_,?_⟩
 all_goals
  have h1:=h.lo
  have h2:=h.hi
  unfold Yg
  cases hm:Wf m a s.length with
  | some e=>assumption
  | none =>
   simp only [Zbo]
   split
   ·omega
   ·have:kM m s.length≤m.cut.toNat:=by unfold kM;rw [if_neg (by assumption)];omega
    omega
def Qa (deal:Int) (e:Ent):Int:=(2*deal+e.n % 2)*18
def Zbd (m:Pl) (deal:Int) (e:Ent):Pl × Option Nat:=match (Qf m (Qa deal e+18-1) 1).2 with
 | some x=>(m,some x)
 | none=>if (Qf m (Qa deal e+18-1) 1).1=[0] then (m,none) else Yg m (Qa deal e+18-1) [0]
def Zax (m:Pl) (deal:Int) (e:Ent):Pl × Option Nat:=match (Zbd m deal e).2 with
 | some x=>((Zbd m deal e).1,some x)
 | none=>Yg (Zbd m deal e).1 (Qa deal e) (Y2 e)
def Zaa (m:Pl) (deal:Int) (e:Ent):Pl × Option Nat:=match (Zax m deal e).2 with
 | some x=>((Zax m deal e).1,some x)
 | none=>Yg (Zax m deal e).1 (Qa deal e+18-1) Xa
theorem Zok {m:Pl} (h:PlOk m) (deal:Int) (e:Ent):PlOk (Zbd m deal e).1:=by
 unfold Zbd
 split
 ·exact h
 ·split
  ·exact h
  ·exact Zg3 h _ _
theorem Zol {m:Pl} (h:PlOk m) (deal:Int) (e:Ent):PlOk (Zax m deal e).1:=by
 unfold Zax
 split
 ·exact Zok h _ _
 ·exact Zg3 (Zok h _ _) _ _
theorem jwM_ok {m:Pl} (h:PlOk m) (deal:Int) (e:Ent):PlOk (Zaa m deal e).1:=by
 unfold Zaa
 split
 ·exact Zol h _ _
 ·exact Zg3 (Zol h _ _) _ _
theorem Q9 (e:Ent):(Y2 e).length=17:=by simp [Y2,head,Y6]
theorem j0 (bp:Nat) (j:Jn):(Yr bp j)[0+0]? = some (pt bp 0):=rfl
set_option maxHeartbeats 2000000 attribute [local irreducible] HW HO HQ HD HC QOp Has Upd Zt Gets Z8 Z0 Zo Xm Zz Zj Xp Zy
attribute [local irreducible] Yr Xl
theorem Zom (T:Nat) (E:Nat→Addr) (bj bp ba:Nat) (m:Pl) (j:Jn) (deal:Int) (e:Ent) (L:Zb) (hG:Er T E [2,6] L) (hm:PlOk m) (hd:0≤deal∧deal<6) (he:0≤e.n∧e.n≤4294967296) :
  HC Tryz.prog 238 [pt bj 0,iv deal,.agg ⟨Zz0 e⟩] (Xl bp ba m::jC bj bp j::L) (fun v L'=>v=eV T E (Zaa m deal e).2∧L'=Xl bp ba (Zaa m deal e).1::jC bj bp j::L):=by
 have k1 : ∀ L,Er T E [2,6] L→HC Tryz.prog 185 [pt bp 0,iv ((2*deal+e.n % 2)*18+18-1),iv 1] (Xl bp ba m::L) (fun v L'=>v = .tuple ⟨[bs (Qf m (Qa deal e+18-1) 1).1,eV T E (Qf m (Qa deal e+18-1) 1).2]⟩∧L'=Xl bp ba m::L):=fun L hg=>Zkn T E bp ba m (Qa deal e+18-1) 1 L hg hm.len
 have g0:=j0 bp j
 have kb : ∀ L,HC Tryz.prog 216 [.agg ⟨Zz0 e⟩] L (fun v L'=>v=bs (Y2 e)∧L'=L):=fun L=>Zi7 e L
 have lb:=Q9 e
 have o1:=Zok hm deal e
 have o2:=Zol hm deal e
 have w1 : ∀ L,Er T E [2,6] L→HC Tryz.prog 248 [pt bp 0,iv ((2*deal+e.n % 2)*18+18-1),bs [0]] (Xl bp ba m::L) (fun v L'=>v=eV T E (Yg m (Qa deal e+18-1) [0]).2∧L'=Xl bp ba (Yg m (Qa deal e+18-1) [0]).1::L):=fun L hg=>Zdh T E bp ba m (Qa deal e+18-1) [0] L hg hm.len (by simp) ⟨hm.lo,hm.hi⟩
 have w2 : ∀ L,Er T E [2,6] L→HC Tryz.prog 248 [pt bp 0,iv ((2*deal+e.n % 2)*18),bs (Y2 e)] (Xl bp ba (Zbd m deal e).1::L) (fun v L'=>v=eV T E (Yg (Zbd m deal e).1 (Qa deal e) (Y2 e)).2∧L'=Xl bp ba (Yg (Zbd m deal e).1 (Qa deal e) (Y2 e)).1::L):=fun L hg=>Zdh T E bp ba (Zbd m deal e).1 (Qa deal e) (Y2 e) L hg o1.len (by omega) ⟨o1.lo,o1.hi⟩
 have w3 : ∀ L,Er T E [2,6] L→HC Tryz.prog 248 [pt bp 0,iv ((2*deal+e.n % 2)*18+18-1),bs [165]] (Xl bp ba (Zax m deal e).1::L) (fun v L'=>v=eV T E (Yg (Zax m deal e).1 (Qa deal e+18-1) [165]).2∧L'=Xl bp ba (Yg (Zax m deal e).1 (Qa deal e+18-1) [165]).1::L):=fun L hg=>Zdh T E bp ba (Zax m deal e).1 (Qa deal e+18-1) Xa L hg o2.len (by simp [Xa]) ⟨o2.lo,o2.hi⟩
 refine Za (fun _ _=>Tryz.call238 _ _) Tryz.func238 rfl Tryz.ntmps238 (Nat.le_of_ble_eq_true rfl) ?_;simp only [Zd,Nat.reduceAdd]
 repeat' (first|refine uN ?_|refine Z2 S ?_|(refine uB ?_;intro b)|(refine uP ?_ ?_<;>(intro h;((try simp only [zs,zq,reduceCtorEq] at h);try exact zx)))|fail)
 refine fo 1 ?_
 have fin : ∀ (b:Nat) (o:Obj) (m':Pl),LS (Xl bp ba m'::jC bj bp j::L).flatten (Xl bp ba m'::[(b,o)]::jC bj bp j::L).flatten:=fun b o m'=>LS.boths _ (LS.skip _ (LS.refl _))
 cases h1:(Qf m (Qa deal e+18-1) 1).2 with
 | some x =>
  have e1:Zaa m deal e=(m,some x):=by simp [Zaa,Zax,Zbd,h1]
  rw [h1] at k1
  refine gc (k1 _ ((hG.cons _).cons _)) ?_
  rintro v L' ⟨rfl,rfl⟩
  repeat' (first|refine uN ?_|refine Z2 S ?_|(refine uB ?_;intro b)|(refine uP ?_ ?_<;>(intro h;((try simp only [zs,zq,reduceCtorEq] at h);try exact zx)))|fail)
  rw [e1]
  exact Z9 (fin _ _ _) ⟨rfl,rfl⟩
 | none =>
  rw [h1] at k1
  refine gc (k1 _ ((hG.cons _).cons _)) ?_
  rintro v L' ⟨rfl,rfl⟩
  by_cases h0:(Qf m (Qa deal e+18-1) 1).1=[0]
  ·have e1:Zbd m deal e=(m,none):=by simp [Zbd,h1,h0]
   rw [e1] at w2
   repeat' (first|refine uN ?_|refine Zu S ?_|refine uC (kb _) ?_|refine Yb (fun _=>kb _) ?_|refine Yc (fun _=>kb _) ?_|refine Yd (fun _=>kb _) ?_|refine Ye (fun _=>kb _) ?_|(refine uB ?_;intro b)|(refine uP ?_ ?_<;>(intro h;((try simp only [zs,zq,reduceCtorEq] at h);try exact zx)))|refine da 101 ?_|fail)
   all_goals try exact absurd h0 h
   refine gc (w2 _ ((hG.cons _).cons _)) ?_
   rintro v L' ⟨rfl,rfl⟩
   have e2:Zax m deal e=Yg m (Qa deal e) (Y2 e):=by simp [Zax,e1]
   rw [← e2]
   cases h2:(Zax m deal e).2 with
   | some x =>
    have e3:Zaa m deal e=((Zax m deal e).1,some x):=by simp [Zaa,h2]
    repeat' (first|refine uN ?_|refine Zu S ?_|refine uC (kb _) ?_|refine Yb (fun _=>kb _) ?_|refine Yc (fun _=>kb _) ?_|refine Yd (fun _=>kb _) ?_|refine Ye (fun _=>kb _) ?_|(refine uB ?_;intro b)|(refine uP ?_ ?_<;>(intro h;((try simp only [zs,zq,reduceCtorEq] at h);try exact zx)))|refine da 101 ?_|fail)
    rw [e3]
    exact Z9 (fin _ _ _) ⟨rfl,rfl⟩
   | none =>
    have e3:Zaa m deal e=Yg (Zax m deal e).1 (Qa deal e+18-1) [165]:=by simp [Zaa,h2,Xa]
    rw [← e3] at w3
    repeat' (first|refine uN ?_|refine Zu S ?_|refine uC (kb _) ?_|refine Yb (fun _=>kb _) ?_|refine Yc (fun _=>kb _) ?_|refine Yd (fun _=>kb _) ?_|refine Ye (fun _=>kb _) ?_|(refine uB ?_;intro b)|(refine uP ?_ ?_<;>(intro h;((try simp only [zs,zq,reduceCtorEq] at h);try exact zx)))|refine da 101 ?_|fail)
    refine gc (w3 _ ((hG.cons _).cons _)) ?_
    rintro v L' ⟨rfl,rfl⟩
    repeat' (first|refine uN ?_|refine Zu S ?_|refine uC (kb _) ?_|refine Yb (fun _=>kb _) ?_|refine Yc (fun _=>kb _) ?_|refine Yd (fun _=>kb _) ?_|refine Ye (fun _=>kb _) ?_|(refine uB ?_;intro b)|(refine uP ?_ ?_<;>(intro h;((try simp only [zs,zq,reduceCtorEq] at h);try exact zx)))|refine da 101 ?_|fail)
    exact Z9 (fin _ _ _) ⟨rfl,rfl⟩
  ·have e1:Zbd m deal e=Yg m (Qa deal e+18-1) [0]:=by simp [Zbd,h1,h0]
   rw [← e1] at w1
   repeat' (first|refine uN ?_|refine Zu S ?_|refine uC (kb _) ?_|refine Yb (fun _=>kb _) ?_|refine Yc (fun _=>kb _) ?_|refine Yd (fun _=>kb _) ?_|refine Ye (fun _=>kb _) ?_|(refine uB ?_;intro b)|(refine uP ?_ ?_<;>(intro h;((try simp only [zs,zq,reduceCtorEq] at h);try exact zx)))|refine da 101 ?_|fail)
   all_goals try exact absurd h h0
   refine gc (w1 _ ((hG.cons _).cons _)) ?_
   rintro v L' ⟨rfl,rfl⟩
   cases h4:(Zbd m deal e).2 with
   | some x =>
    have e3:Zaa m deal e=((Zbd m deal e).1,some x):=by simp [Zaa,Zax,h4]
    repeat' (first|refine uN ?_|refine Zu S ?_|refine uC (kb _) ?_|refine Yb (fun _=>kb _) ?_|refine Yc (fun _=>kb _) ?_|refine Yd (fun _=>kb _) ?_|refine Ye (fun _=>kb _) ?_|(refine uB ?_;intro b)|(refine uP ?_ ?_<;>(intro h;((try simp only [zs,zq,reduceCtorEq] at h);try exact zx)))|refine da 101 ?_|fail)
    rw [e3]
    exact Z9 (fin _ _ _) ⟨rfl,rfl⟩
   | none =>
    have e2:Zax m deal e=Yg (Zbd m deal e).1 (Qa deal e) (Y2 e):=by simp [Zax,h4]
    rw [← e2] at w2
    repeat' (first|refine uN ?_|refine Zu S ?_|refine uC (kb _) ?_|refine Yb (fun _=>kb _) ?_|refine Yc (fun _=>kb _) ?_|refine Yd (fun _=>kb _) ?_|refine Ye (fun _=>kb _) ?_|(refine uB ?_;intro b)|(refine uP ?_ ?_<;>(intro h;((try simp only [zs,zq,reduceCtorEq] at h);try exact zx)))|refine da 101 ?_|fail)
    refine gc (w2 _ ((hG.cons _).cons _)) ?_
    rintro v L' ⟨rfl,rfl⟩
    cases h2:(Zax m deal e).2 with
    | some x =>
     have e3:Zaa m deal e=((Zax m deal e).1,some x):=by simp [Zaa,h2]
     repeat' (first|refine uN ?_|refine Zu S ?_|refine uC (kb _) ?_|refine Yb (fun _=>kb _) ?_|refine Yc (fun _=>kb _) ?_|refine Yd (fun _=>kb _) ?_|refine Ye (fun _=>kb _) ?_|(refine uB ?_;intro b)|(refine uP ?_ ?_<;>(intro h;((try simp only [zs,zq,reduceCtorEq] at h);try exact zx)))|refine da 101 ?_|fail)
     rw [e3]
     exact Z9 (fin _ _ _) ⟨rfl,rfl⟩
    | none =>
     have e3:Zaa m deal e=Yg (Zax m deal e).1 (Qa deal e+18-1) [165]:=by simp [Zaa,h2,Xa]
     rw [← e3] at w3
     repeat' (first|refine uN ?_|refine Zu S ?_|refine uC (kb _) ?_|refine Yb (fun _=>kb _) ?_|refine Yc (fun _=>kb _) ?_|refine Yd (fun _=>kb _) ?_|refine Ye (fun _=>kb _) ?_|(refine uB ?_;intro b)|(refine uP ?_ ?_<;>(intro h;((try simp only [zs,zq,reduceCtorEq] at h);try exact zx)))|refine da 101 ?_|fail)
     refine gc (w3 _ ((hG.cons _).cons _)) ?_
     rintro v L' ⟨rfl,rfl⟩
     repeat' (first|refine uN ?_|refine Zu S ?_|refine uC (kb _) ?_|refine Yb (fun _=>kb _) ?_|refine Yc (fun _=>kb _) ?_|refine Yd (fun _=>kb _) ?_|refine Ye (fun _=>kb _) ?_|(refine uB ?_;intro b)|(refine uP ?_ ?_<;>(intro h;((try simp only [zs,zq,reduceCtorEq] at h);try exact zx)))|refine da 101 ?_|fail)
     exact Z9 (fin _ _ _) ⟨rfl,rfl⟩
end Go.HL
end

/-! JnF -/
section
namespace Go.HL
open Go Go.Proofs

def Uf (deal:Int) (s:St):Prop:=deal<0∨6≤deal∨s.ph<0∨255<s.ph∨s.pr<0∨s.att<0∨1048576<max s.pr s.att
instance (deal:Int) (s:St):Decidable (Uf deal s):=by unfold Uf;infer_instance
instance:DecidableEq St:=fun a b=>decidable_of_iff (a.ph=b.ph∧a.pr=b.pr∧a.att=b.att) (by
 obtain ⟨a1,a2,a3⟩:=a
 obtain ⟨b1,b2,b3⟩:=b
 simp)
theorem St.ext3 {a b:St} (h:a.ph=b.ph∧a.pr=b.pr∧a.att=b.att):a=b:=by
 obtain ⟨a1,a2,a3⟩:=a
 obtain ⟨b1,b2,b3⟩:=b
 simp_all
def Xt (m:Pl) (j:Jn) (deal:Int) (s:St):Pl × Jn × Option Nat:=
 if j.dead=true then (m,j,some 6) else if Uf deal s then (m,j,some 2) else
 if (j.l.getD deal.toNat Zm).s=s then (m,j,none) else
 if 4294967296≤(j.l.getD deal.toNat Zm).n+1 then (m,j,some 5) else
 match (Zaa m deal ⟨(j.l.getD deal.toNat Zm).n+1,s⟩).2 with
 | some x=>((Zaa m deal ⟨(j.l.getD deal.toNat Zm).n+1,s⟩).1,⟨j.l,true⟩,some x)
 | none=>((Zaa m deal ⟨(j.l.getD deal.toNat Zm).n+1,s⟩).1,⟨j.l.set deal.toNat ⟨(j.l.getD deal.toNat Zm).n+1,s⟩,j.dead⟩,none)
structure JnOk (j:Jn):Prop where
 len:j.l.length=6
 n0 : ∀ d,0≤(j.l.getD d Zm).n
 n1 : ∀ d,(j.l.getD d Zm).n≤4294967296
set_option maxHeartbeats 2000000 attribute [local irreducible] HW HO HQ HD HC QOp Has Upd Zt Gets Z8 Z0 Zo Xm Zz Zj Xp Zy
attribute [local irreducible] Yr Xl
theorem Zy4 (T:Nat) (E:Nat→Addr) (bj bp ba:Nat) (m:Pl) (j:Jn) (deal:Int) (s:St) (L:Zb) (hG:Er T E [2,5,6] L) (hm:PlOk m) (hj:JnOk j) :
  HC Tryz.prog 223 [pt bj 0,iv deal,.agg ⟨sc s⟩] (Xl bp ba m::jC bj bp j::L) (fun v L'=>v=eV T E (Xt m j deal s).2.2∧L'=Xl bp ba (Xt m j deal s).1::jC bj bp (Xt m j deal s).2.1::L):=by
 have gd:=jdead (bp:=bp) hj.len
 by_cases h1:j.dead=true
 ·rw [h1] at gd
  rw [show Xt m j deal s=(m,j,some 6) from if_pos h1]
  refine Za (fun _ _=>Tryz.call223 _ _) Tryz.func223 rfl Tryz.ntmps223 (Nat.le_of_ble_eq_true rfl) ?_;simp only [Zd,Nat.reduceAdd]
  repeat' (first|refine uN ?_|refine Zu S ?_|(refine uB ?_;intro b)|refine dg S 100 (fun _ _=>?_)|(refine uP ?_ ?_<;>(intro h;((try simp only [zs,zq,reduceCtorEq] at h);try exact zx)))|refine da 101 ?_|fail)
  exact Z9 (LS.skip _ (LS.refl _)) ⟨rfl,rfl⟩
 by_cases h2:Uf deal s
 ·rw [show j.dead=false by simpa using h1] at gd
  rw [show Xt m j deal s=(m,j,some 2) by unfold Xt;rw [if_neg h1,if_pos h2]]
  unfold Uf at h2
  refine Za (fun _ _=>Tryz.call223 _ _) Tryz.func223 rfl Tryz.ntmps223 (Nat.le_of_ble_eq_true rfl) ?_;simp only [Zd,Nat.reduceAdd]
  repeat' (first|refine uN ?_|refine Zu S ?_|(refine uB ?_;intro b)|refine dg S 100 (fun _ _=>?_)|(refine uP ?_ ?_<;>(intro h;((try simp only [zs,zq,reduceCtorEq] at h);try exact zx)))|refine da 101 ?_|fail)
  all_goals exact Z9 (LS.skip _ (LS.refl _)) ⟨rfl,rfl⟩
 rw [show j.dead=false by simpa using h1] at gd
 have hb:=h2
 unfold Uf at hb
 obtain ⟨d,rfl⟩:=Int.eq_ofNat_of_zero_le (show 0≤deal by omega)
 have hd:d<6:=by omega
 have hlen:=hj.len
 have n0:=hj.n0 d
 have n1:=hj.n1 d
 have hp:Xt m j d s=if (j.l.getD d Zm).s=s then (m,j,none) else if 4294967296≤(j.l.getD d Zm).n+1 then (m,j,some 5) else
   match (Zaa m d ⟨(j.l.getD d Zm).n+1,s⟩).2 with
   | some x=>((Zaa m d ⟨(j.l.getD d Zm).n+1,s⟩).1,⟨j.l,true⟩,some x)
   | none=>((Zaa m d ⟨(j.l.getD d Zm).n+1,s⟩).1,⟨j.l.set d ⟨(j.l.getD d Zm).n+1,s⟩,j.dead⟩,none):=by
  unfold Xt;rw [if_neg h1,if_neg h2];rfl
 have he:j.l[d]? = some (j.l.getD d Zm):=by
  rw [List.getD,List.getElem?_eq_getElem (by omega)];rfl
 have g1:=Zq9 (bp:=bp) he
 have g2:=Zue (bp:=bp) he
 have pD:=jputsD (bp:=bp) hlen true
 have p1:=jputs (bp:=bp) (j:=j) (d:=d) ⟨(j.l.getD d Zm).n+1,s⟩ (by omega)
 have kw:=Zom T E bj bp ba m j d ⟨(j.l.getD d Zm).n+1,s⟩
 generalize hE:j.l.getD d Zm=e at *
 clear hj h2 he hE
 by_cases h3:e.s=s
 ·rw [hp,if_pos h3]
  subst h3
  refine Za (fun _ _=>Tryz.call223 _ _) Tryz.func223 rfl Tryz.ntmps223 (Nat.le_of_ble_eq_true rfl) ?_;simp only [Zd,Nat.reduceAdd]
  repeat' (first|refine uN ?_|refine Zu S ?_|(refine uB ?_;intro b)|refine dg S 100 (fun _ _=>?_)|(refine uP ?_ ?_<;>(intro h;((try simp only [zs,zq,reduceCtorEq] at h);try exact zx)))|refine da 101 ?_|fail)
  exact Z9 (LS.skip _ (LS.refl _)) ⟨rfl,rfl⟩
 have h3' : ¬ (e.s.ph=s.ph∧e.s.pr=s.pr∧e.s.att=s.att):=fun h=>h3 (St.ext3 h)
 by_cases h4:4294967296≤e.n+1
 ·rw [hp,if_neg h3,if_pos h4]
  refine Za (fun _ _=>Tryz.call223 _ _) Tryz.func223 rfl Tryz.ntmps223 (Nat.le_of_ble_eq_true rfl) ?_;simp only [Zd,Nat.reduceAdd]
  repeat' (first|refine uN ?_|refine Zu S ?_|(refine uB ?_;intro b)|refine dg S 100 (fun _ _=>?_)|(refine uP ?_ ?_<;>(intro h;((try simp only [zs,zq,reduceCtorEq] at h);try exact zx)))|refine da 101 ?_|fail)
  exact Z9 (LS.skip _ (LS.skip _ (LS.refl _))) ⟨rfl,rfl⟩
 ·rw [hp,if_neg h3,if_neg h4]
  have fin : ∀ (b b':Nat) (o o':Obj) (m':Pl) (c:List Zr),LS (Xl bp ba m'::c::L).flatten (Xl bp ba m'::c::[(b,o)]::[(b',o')]::L).flatten:=fun b b' o o' m' c=>LS.boths _ (LS.boths _ (LS.skip _ (LS.skip _ (LS.refl _))))
  refine Za (fun _ _=>Tryz.call223 _ _) Tryz.func223 rfl Tryz.ntmps223 (Nat.le_of_ble_eq_true rfl) ?_;simp only [Zd,Nat.reduceAdd]
  repeat' (first|refine uN ?_|refine Zu S ?_|(refine uB ?_;intro b)|refine dg S 100 (fun _ _=>?_)|(refine uP ?_ ?_<;>(intro h;((try simp only [zs,zq,reduceCtorEq] at h);try exact zx)))|refine da 101 ?_|fail)
  refine fo 3 ?_
  refine fo 3 ?_
  refine gc (kw _ ((hG.cons _).cons _).sub hm (by omega) (by simp only;omega)) ?_
  rintro v L' ⟨rfl,rfl⟩
  cases h5:(Zaa m d ⟨e.n+1,s⟩).2 with
  | some x =>
   repeat' (first|refine uN ?_|refine Zu S ?_|(refine uB ?_;intro b)|refine dg S 100 (fun _ _=>?_)|(refine uP ?_ ?_<;>(intro h;((try simp only [zs,zq,reduceCtorEq] at h);try exact zx)))|refine da 101 ?_|fail)
   exact Z9 (fin _ _ _ _ _ _) ⟨rfl,rfl⟩
  | none =>
   repeat' (first|refine uN ?_|refine Zu S ?_|(refine uB ?_;intro b)|refine dg S 100 (fun _ _=>?_)|(refine uP ?_ ?_<;>(intro h;((try simp only [zs,zq,reduceCtorEq] at h);try exact zx)))|refine da 101 ?_|fail)
   exact Z9 (fin _ _ _ _ _ _) ⟨rfl,rfl⟩
end Go.HL
end

/-! TabA -/
section
namespace Go.HL
open Go Go.Proofs
set_option maxHeartbeats 2000000 attribute [local irreducible] HW HO HQ HD HC QOp Has Upd Zt Gets Z8 Z0 Zo Xm Zz Zj Xp Zy

def Vm (p:Int):Int:=if p=4 then 2 else if p=5 then 3 else 0
theorem Y1 (p:Int) (L:Zb):HC Tryz.prog 196 [iv p] L (fun v L'=>v=iv (Vm p)∧L'=L):=by
 refine Za (fun _ _=>Tryz.call196 _ _) Tryz.func196 rfl Tryz.ntmps196 (Nat.le_of_ble_eq_true rfl) ?_;simp only [Zd,Nat.reduceAdd]
 repeat' (first|refine uN ?_|(refine uP ?_ ?_<;>(intro h;((try simp only [zs,zq,reduceCtorEq] at h);try exact zx)))|fail)
 all_goals (refine Xb rfl rfl ?_ ⟨?_,rfl⟩;(next=>(repeat (first|exact List.Sublist.refl _|apply List.Sublist.cons))))
 all_goals simp [Vm, *]
theorem Xh (p:Int) (L:Zb):HC Tryz.prog 66 [iv p] L (fun v L'=>v=iv (Vm p)∧L'=L):=by
 refine Za (fun _ _=>Tryz.call66 _ _) Tryz.func66 rfl Tryz.ntmps66 (Nat.le_of_ble_eq_true rfl) ?_;simp only [Zd,Nat.reduceAdd]
 repeat' (first|refine uN ?_|(refine uP ?_ ?_<;>(intro h;((try simp only [zs,zq,reduceCtorEq] at h);try exact zx)))|fail)
 all_goals (refine Xb rfl rfl ?_ ⟨?_,rfl⟩;(next=>(repeat (first|exact List.Sublist.refl _|apply List.Sublist.cons))))
 all_goals simp [Vm, *]

def Zum (a b:Int):Bool:=decide ((0≤a∧a≤5∧0≤b∧b≤5)∧(a=b∨a=0∨(a≠2∧a≠3∧b≠0∧(a=1∨b≠1))))
def Zbk (xs:List St) (p:Int):Bool:=xs.any fun s=>decide (s.ph=p)
theorem Zvk (xs:List St) (s:St) (p:Int):Zbk (xs++[s]) p=(Zbk xs p || decide (s.ph=p)):=by simp [Zbk]
theorem toldS_of {xs:List St} {p:Int} {j:Nat} (h:j<xs.length) (hp:(xs[j]).ph=p):Zbk xs p=true:=by
 simp only [Zbk,List.any_eq_true,decide_eq_true_eq]
 exact ⟨xs[j],List.getElem_mem h,hp⟩
theorem Zvl (a:Option Addr) (cap:Nat) (xs:List St) (p:Int) (L:Zb) (hR:Rd sc 3 L a xs) (hl:xs.length≤1000000):HC Tryz.prog 127 [.slice a xs.length cap,iv p] L (fun v L'=>v = .bool (Zbk xs p)∧L'=L):=by
 refine Za (fun _ _=>Tryz.call127 _ _) Tryz.func127 rfl Tryz.ntmps127 (Nat.le_of_ble_eq_true rfl) ?_;simp only [Zd,Nat.reduceAdd]
 repeat' (first|refine uN ?_|(refine uP ?_ ?_<;>(intro h;((try simp only [zs,zq,reduceCtorEq] at h);try exact zx)))|fail)
 refine Zp (σ:=Int) (fun j=>[(0,.slice a xs.length cap),(1,iv p),(5,iv j)]) (fun _=>L) (fun j=>0≤j∧j≤xs.length∧Zbk (xs.take j.toNat) p=false) (fun j=>(xs.length-j).toNat) 0 uS (List.Sublist.refl _) ⟨by omega,by omega,by simp [Zbk]⟩ ?_
 rintro j ⟨h0,h1,h2⟩
 by_cases hlt:j<xs.length
 ·obtain ⟨b,i,l,E,fr,rfl,hb,hg⟩:=hR.at h0 hlt
  repeat' (first|refine uN ?_|(refine uP ?_ ?_<;>(intro h;((try simp only [zs,zq,reduceCtorEq] at h);try exact zx)))|fail)
  ·(refine Xb rfl rfl ?_ ⟨?_,rfl⟩;(next=>(repeat (first|exact List.Sublist.refl _|apply List.Sublist.cons))))
   rw [toldS_of _ h]
  ·exact Zq (j+1) uS (List.Sublist.refl _) ⟨by omega,by omega,by rw [Uu h0 hlt,Zvk,h2];simp [h]⟩ (by omega)
 ·repeat' (first|refine uN ?_|(refine uP ?_ ?_<;>(intro h;((try simp only [zs,zq,reduceCtorEq] at h);try exact zx)))|fail)
  (refine Xb rfl rfl ?_ ⟨?_,rfl⟩;(next=>(repeat (first|exact List.Sublist.refl _|apply List.Sublist.cons))))
  rw [Qy hlt] at h2
  rw [h2]

def prep (s:St):Bool:=decide (s.ph=4∨s.ph=5)
def Ul:List St→Int→Bool→Int × Bool
 | [],b,first=>(b,first)
 | s::r,b,first=>if prep s then (if first || decide (b<s.att) then Ul r s.att false else Ul r b false) else Ul r b first
theorem Uy (r:List St) : ∀ (l:List St) (b:Int) (f:Bool),Ul (l++r) b f=Ul r (Ul l b f).1 (Ul l b f).2
 | [],b,f=>rfl
 | s::l,b,f=>by
  simp only [List.cons_append,Ul]
  split
  ·split
   ·exact Uy r l _ _
   ·exact Uy r l _ _
  ·exact Uy r l _ _
def Yl (xs:List St):Int × Bool:=
 if Zbk xs 2 then (2,true) else if Zbk xs 3 then (3,true) else
 if xs.any (fun s=>decide (s.ph=4∧s.att=(Ul xs 0 true).1)) then (4,false) else (5,false)
theorem Zcs (a:Option Addr) (cap:Nat) (xs:List St) (L:Zb) (hR:Rd sc 3 L a xs) (hl:xs.length≤1000000):HC Tryz.prog 67 [.slice a xs.length cap] L (fun v L'=>v = .tuple ⟨[iv (Yl xs).1,.bool (Yl xs).2]⟩∧L'=L):=by
 refine Za (fun _ _=>Tryz.call67 _ _) Tryz.func67 rfl Tryz.ntmps67 (Nat.le_of_ble_eq_true rfl) ?_;simp only [Zd,Nat.reduceAdd]
 repeat' (first|refine uN ?_|refine uC (Zvl _ _ _ _ _ hR hl) ?_|(refine uP ?_ ?_<;>(intro h;((try simp only [zs,zq,reduceCtorEq] at h);try exact zx)))|fail)
 ·(refine Wb rfl rfl rfl ?_ ⟨?_,rfl⟩;(next=>(repeat (first|exact List.Sublist.refl _|apply List.Sublist.cons))))
  simp [Yl,h]
 ·(refine Wb rfl rfl rfl ?_ ⟨?_,rfl⟩;(next=>(repeat (first|exact List.Sublist.refl _|apply List.Sublist.cons))))
  rename_i h2
  simp [Yl,h,h2]
 refine Zp (σ:=Int × Int × Bool) (fun s=>[(0,.slice a xs.length cap),(4,.bool s.2.2),(5,iv s.2.1),(6,iv s.1)]) (fun _=>L) (fun s=>0≤s.1∧s.1≤xs.length∧Ul (xs.take s.1.toNat) 0 true=(s.2.1,s.2.2)) (fun s=>(xs.length-s.1).toNat) (0,0,true) uS (List.Sublist.refl _) ⟨by simp,by simp,by simp [Ul]⟩ ?_
 rintro ⟨j,qb,qf⟩ ⟨h0,h1,hq⟩
 simp only at h0 h1 hq
 by_cases hlt:j<xs.length
 ·obtain ⟨b,i,l,E,fr,rfl,hb,hg⟩:=hR.at h0 hlt
  have e:=Uy [xs[j.toNat]'(by omega)] (xs.take j.toNat) 0 true
  rw [← Uu h0 hlt,hq] at e
  clear hq
  repeat' (first|refine uN ?_|(refine uP ?_ ?_<;>(intro h;((try simp only [zs,zq,reduceCtorEq] at h);try exact zx)))|fail)
  all_goals (refine Zq (j+1,_,_) uS (List.Sublist.refl _) ⟨by show 0≤j+1;omega,by show j+1≤(xs.length:Int);omega,?_⟩ (by show (xs.length-(j+1)).toNat<(xs.length-j).toNat;omega);show Ul (List.take (j+1).toNat xs) 0 true=_;rw [e];simp [Ul,prep, *])
 ·rw [Qy hlt] at hq
  repeat' (first|refine uN ?_|(refine uP ?_ ?_<;>(intro h;((try simp only [zs,zq,reduceCtorEq] at h);try exact zx)))|fail)
  refine Zp (σ:=Int) (fun j=>[(0,.slice a xs.length cap),(5,iv qb),(7,iv j)]) (fun _=>L) (fun j=>0≤j∧j≤xs.length∧(xs.take j.toNat).any (fun s=>decide (s.ph=4∧s.att=qb))=false) (fun j=>(xs.length-j).toNat) 0 uS (List.Sublist.refl _) ⟨by omega,by omega,by simp⟩ ?_
  rintro i ⟨i0,i1,hi⟩
  by_cases hlt2:i<xs.length
  ·obtain ⟨b,i',l,E,fr,rfl,hb,hg⟩:=hR.at i0 hlt2
   have e:=Uu i0 hlt2
   repeat' (first|refine uN ?_|(refine uP ?_ ?_<;>(intro h;((try simp only [zs,zq,reduceCtorEq] at h);try exact zx)))|fail)
   ·(refine Wb rfl rfl rfl ?_ ⟨?_,rfl⟩;(next=>(repeat (first|exact List.Sublist.refl _|apply List.Sublist.cons))))
    rename_i hp
    have:xs.any (fun s=>decide (s.ph=4∧s.att=qb))=true:=by
     simp only [List.any_eq_true,decide_eq_true_eq]
     exact ⟨xs[i.toNat]'(by omega),List.getElem_mem _,hp,h⟩
    have e2:Yl xs=(4,false):=by
     unfold Yl
     rw [if_neg (by simp [*]),if_neg (by simp [*])]
     simp only [hq]
     rw [if_pos this]
    rw [e2]
   ·rename_i hp
    exact Zq (i+1) uS (List.Sublist.refl _) ⟨by omega,by omega,by rw [e,List.any_append,hi];simp [h]⟩ (by omega)
   ·exact Zq (i+1) uS (List.Sublist.refl _) ⟨by omega,by omega,by rw [e,List.any_append,hi];simp [h]⟩ (by omega)
  ·repeat' (first|refine uN ?_|(refine uP ?_ ?_<;>(intro h;((try simp only [zs,zq,reduceCtorEq] at h);try exact zx)))|fail)
   (refine Wb rfl rfl rfl ?_ ⟨?_,rfl⟩;(next=>(repeat (first|exact List.Sublist.refl _|apply List.Sublist.cons))))
   rw [Qy hlt2] at hi
   have e2:Yl xs=(5,false):=by
    unfold Yl
    rw [if_neg (by simp [*]),if_neg (by simp [*])]
    simp only [hq]
    rw [if_neg (by rw [hi];simp)]
   rw [e2]

end Go.HL
end

/-! WcA -/
section
namespace Go.HL
open Go Go.Proofs
def X5 (f:Fr):Prop:=f.fr<0∨6<f.fr∨f.to<0∨6<f.to∨f.dl<0∨5<f.dl∨f.kd<1∨7<f.kd∨f.att<0∨1048576<f.att∨f.s.pr<0∨1048576<f.s.pr∨f.s.att<0∨1048576<f.s.att∨f.s.ph<0∨5<f.s.ph
instance (f:Fr):Decidable (X5 f):=by unfold X5;infer_instance
def Zgm (f:Fr):Option Nat:=if X5 f then some 2 else none
set_option maxHeartbeats 2000000 attribute [local irreducible] HW HO HQ HD HC QOp Has Upd Zt Gets Z8 Z0 Zo Xm Zz Zj Xp Zy
set_option maxHeartbeats 1000000 in
theorem Zpr (T:Nat) (E:Nat→Addr) (f:Fr) (L:Zb) (hG:Er T E [2] L):HC Tryz.prog 221 [.agg ⟨fc f⟩] L (fun v L'=>v=eV T E (Zgm f)∧L'=L):=by
 unfold Zgm
 refine Za (fun _ _=>Tryz.call221 _ _) Tryz.func221 rfl Tryz.ntmps221 (Nat.le_of_ble_eq_true rfl) ?_;simp only [Zd,Nat.reduceAdd]
 repeat' (first|refine uN ?_|(refine uB ?_;intro b)|(refine uP ?_ ?_<;>(intro h;((try simp only [zs,zq,reduceCtorEq] at h);try exact zx)))|fail)
 refine Zye 8 ?_
 repeat' (first|refine uN ?_|(refine uB ?_;intro b)|(refine uP ?_ ?_<;>(intro h;((try simp only [zs,zq,reduceCtorEq] at h);try exact zx)))|fail)
 all_goals first
  | (exact Z9 uZ ⟨by rw [if_pos (by unfold X5;omega)],rfl⟩;done)
  | (exact Z9 uZ ⟨by rw [if_neg (by unfold X5;omega)],rfl⟩;done)
end Go.HL
end

/-! StA -/
section
namespace Go.HL
open Go Go.Proofs
set_option maxHeartbeats 2000000 attribute [local irreducible] HW HO HQ HD HC QOp Has Upd Zt Gets Z8 Z0 Zo Xm Zz Zj Xp Zy
def Zh8 (sp bj mb:Nat) (id:Int):List Zr:=[(sp,.cells ⟨[pt bj 0,iv id,.map (some mb)]⟩ 211)]
def Zii (mb:Nat) (es:List MapEntry) (ck:Nat):List Zr:=[(mb,.map ⟨es⟩ ck)]
def Zhi (st:St):Bool:=decide (st.ph≠2∧st.ph≠3)
def Zxl (ref:Int→Bool) (f:Fr) (st:St):St:=if st.ph=0 then (if ref f.dl then { st with ph:=3 } else { st with ph:=1 }) else st
def Yj (ref:Int→Bool) (f:Fr) (st:St):St × Int × Bool:=
 if f.kd=1 then (Zxl ref f st,2,decide ((Zxl ref f st).ph≠3)) else
 if f.kd=3 then ({ st with pr:=max st.pr f.att },4,decide (st.pr<f.att)) else
 if f.kd=5 then (if Vm f.s.ph=0 then (st,0,false) else if Zhi st=true∧st.pr≤f.att then (⟨f.s.ph,f.att,f.att⟩,6,true) else (st,6,false)) else
 if f.kd=7 then (if Zhi st=true∧(f.s.ph=2∨f.s.ph=3) then { st with ph:=f.s.ph } else st,0,false) else (st,0,false)
set_option maxHeartbeats 1000000 in
theorem Zvm (sp bj mb:Nat) (id:Int) (es:List MapEntry) (ck:Nat) (ref:Int→Bool) (f:Fr) (st:St) (L:Zb) (hF:Zy iv es ref) :
  HC Tryz.prog 222 [pt sp 0,.agg ⟨fc f⟩,.agg ⟨sc st⟩] (Zh8 sp bj mb id::Zii mb es ck::L) (fun v L'=>v = .tuple ⟨[.agg ⟨sc (Yj ref f st).1⟩,iv (Yj ref f st).2.1,.bool (Yj ref f st).2.2]⟩∧L'=Zh8 sp bj mb id::Zii mb es ck::L):=by
 unfold Yj
 have hop : ∀ b,Zhi st=b→(b=true↔st.ph≠2∧st.ph≠3):=fun b h=>by rw [← h];simp [Zhi]
 generalize Zhi st=op at *
 replace hop:=hop op rfl
 by_cases k1:f.kd=1
 ·rw [if_pos k1]
  unfold Zxl
  refine Za (fun _ _=>Tryz.call222 _ _) Tryz.func222 rfl Tryz.ntmps222 (Nat.le_of_ble_eq_true rfl) ?_;simp only [Zd,Nat.reduceAdd]
  repeat' (first|refine uN ?_|refine Z2 S ?_|refine Yp S ?_|(refine uB ?_;intro b)|(refine uP ?_ ?_<;>(intro h;((try simp only [zs,zq,reduceCtorEq] at h);try exact zx)))|refine da 101 ?_|fail)
  all_goals refine sp3 (LS.skip _ (LS.skip _ (LS.skip _ (LS.refl _)))) ⟨?_,rfl⟩ (hx:=Xy S (hg:=Ze rfl (Ze rfl (Ze rfl Z4))))
  all_goals simp [sc, *]
 rw [if_neg k1]
 by_cases k3:f.kd=3
 ·rw [if_pos k3]
  refine Za (fun _ _=>Tryz.call222 _ _) Tryz.func222 rfl Tryz.ntmps222 (Nat.le_of_ble_eq_true rfl) ?_;simp only [Zd,Nat.reduceAdd]
  repeat' (first|refine uN ?_|refine Z2 S ?_|refine Yp S ?_|(refine uB ?_;intro b)|(refine uP ?_ ?_<;>(intro h;((try simp only [zs,zq,reduceCtorEq] at h);try exact zx)))|refine da 101 ?_|fail)
  all_goals refine sp3 (LS.skip _ (LS.skip _ (LS.skip _ (LS.refl _)))) ⟨?_,rfl⟩ (hx:=Xy S (hg:=Ze rfl (Ze rfl (Ze rfl Z4))))
  all_goals simp [sc, *]
 rw [if_neg k3]
 by_cases k5:f.kd=5
 ·rw [if_pos k5]
  by_cases ha:Vm f.s.ph=0
  ·rw [if_pos ha]
   refine Za (fun _ _=>Tryz.call222 _ _) Tryz.func222 rfl Tryz.ntmps222 (Nat.le_of_ble_eq_true rfl) ?_;simp only [Zd,Nat.reduceAdd]
   repeat' (first|refine uN ?_|refine Z2 S ?_|refine Yp S ?_|refine uC (Y1 _ _) ?_|refine Yb (fun _=>Y1 _ _) ?_|refine Yc (fun _=>Y1 _ _) ?_|refine Yd (fun _=>Y1 _ _) ?_|refine Ye (fun _=>Y1 _ _) ?_|(refine uB ?_;intro b)|(refine uP ?_ ?_<;>(intro h;((try simp only [zs,zq,reduceCtorEq] at h);try exact zx)))|refine da 101 ?_|fail)
   all_goals refine sp3 (LS.skip _ (LS.skip _ (LS.skip _ (LS.refl _)))) ⟨?_,rfl⟩ (hx:=Xy S (hg:=Ze rfl (Ze rfl (Ze rfl Z4))))
   all_goals simp [sc]
  ·rw [if_neg ha]
   refine Za (fun _ _=>Tryz.call222 _ _) Tryz.func222 rfl Tryz.ntmps222 (Nat.le_of_ble_eq_true rfl) ?_;simp only [Zd,Nat.reduceAdd]
   repeat' (first|refine uN ?_|refine Z2 S ?_|refine Yp S ?_|refine uC (Y1 _ _) ?_|refine Yb (fun _=>Y1 _ _) ?_|refine Yc (fun _=>Y1 _ _) ?_|refine Yd (fun _=>Y1 _ _) ?_|refine Ye (fun _=>Y1 _ _) ?_|(refine uB ?_;intro b)|(refine uP ?_ ?_<;>(intro h;((try simp only [zs,zq,reduceCtorEq] at h);try exact zx)))|refine da 101 ?_|fail)
   all_goals refine sp3 (LS.skip _ (LS.skip _ (LS.skip _ (LS.refl _)))) ⟨?_,rfl⟩ (hx:=Xy S (hg:=Ze rfl (Ze rfl (Ze rfl Z4))))
   all_goals simp [sc,hop, *]
 rw [if_neg k5]
 by_cases k7:f.kd=7
 ·rw [if_pos k7]
  refine Za (fun _ _=>Tryz.call222 _ _) Tryz.func222 rfl Tryz.ntmps222 (Nat.le_of_ble_eq_true rfl) ?_;simp only [Zd,Nat.reduceAdd]
  repeat' (first|refine uN ?_|refine Z2 S ?_|refine Yp S ?_|(refine uB ?_;intro b)|(refine uP ?_ ?_<;>(intro h;((try simp only [zs,zq,reduceCtorEq] at h);try exact zx)))|refine da 101 ?_|fail)
  all_goals refine sp3 (LS.skip _ (LS.skip _ (LS.skip _ (LS.refl _)))) ⟨?_,rfl⟩ (hx:=Xy S (hg:=Ze rfl (Ze rfl (Ze rfl Z4))))
  all_goals simp [sc,hop, *]
 rw [if_neg k7]
 refine Za (fun _ _=>Tryz.call222 _ _) Tryz.func222 rfl Tryz.ntmps222 (Nat.le_of_ble_eq_true rfl) ?_;simp only [Zd,Nat.reduceAdd]
 repeat' (first|refine uN ?_|refine Z2 S ?_|refine Yp S ?_|(refine uB ?_;intro b)|(refine uP ?_ ?_<;>(intro h;((try simp only [zs,zq,reduceCtorEq] at h);try exact zx)))|refine da 101 ?_|fail)
 all_goals refine sp3 (LS.skip _ (LS.skip _ (LS.skip _ (LS.refl _)))) ⟨?_,rfl⟩ (hx:=Xy S (hg:=Ze rfl (Ze rfl (Ze rfl Z4))))
 all_goals simp [sc]
end Go.HL
end

/-! StB -/
section
namespace Go.HL
open Go Go.Proofs
def Zm9 (id:Int) (m:Pl):Option Nat:=if id<0∨7≤id then some 2 else if m.b.length<216 then some 2 else if m.off then some 6 else none
set_option maxHeartbeats 2000000 attribute [local irreducible] HW HO HQ HD HC QOp Has Upd Zt Gets Z8 Z0 Zo Xm Zz Zj Xp Zy
attribute [local irreducible] Yr Xl
theorem Zhc (bj bp:Nat) (j:Jn) (d:Nat) (L:Zb) (hb:Has L bj (.cells ⟨Yr bp j⟩ 251)) (hl:j.l.length=6) (hd:d<6):HC Tryz.prog 163 [pt bj 0,iv d] L (fun v L'=>v = .tuple ⟨[.agg ⟨sc (j.l.getD d Zm).s⟩,.nilIface]⟩∧L'=L):=by
 refine hcHas (fun L=>?_) hb
 have he:j.l[d]? = some (j.l.getD d Zm):=by
  rw [List.getD,List.getElem?_eq_getElem (by omega)];rfl
 have g1:=Zq9 (bp:=bp) he
 have g2:=Zue (bp:=bp) he
 refine Za (fun _ _=>Tryz.call163 _ _) Tryz.func163 rfl Tryz.ntmps163 (Nat.le_of_ble_eq_true rfl) ?_;simp only [Zd,Nat.reduceAdd]
 repeat' (first|refine uN ?_|refine Z2 S ?_|refine Yp S ?_|(refine uB ?_;intro b)|refine dg S 100 (fun _ _=>?_)|(refine uP ?_ ?_<;>(intro h;((try simp only [zs,zq,reduceCtorEq] at h);try exact zx)))|refine da 101 ?_|fail)
 exact W9 (LS.skip _ (LS.refl _)) ⟨rfl,rfl⟩ (hx:=Xy S (hg:=Ze rfl (Ze rfl (Ze rfl Z4))))
theorem Zk1 (T:Nat) (E:Nat→Addr) (id:Int) (bp ba:Nat) (m:Pl) (L:Zb) (hG:Er T E [2,3,6] L) (hm:m.b.length≤1000000):HC Tryz.prog 80 [iv id,pt bp 0] (Xl bp ba m::L) (fun v L'=>match Zm9 id m with
  | some e=>v = .tuple ⟨[.pointer none,eV T E (some e)]⟩∧L'=Xl bp ba m::L
  | none => ∃ sp bj mb,v = .tuple ⟨[pt sp 0,.nilIface]⟩∧L'=Zh8 sp bj mb id::Zii mb [] 0::Xl bp ba m::jC bj bp ⟨Zn m.b,false⟩::L):=by
 have ko:=Zkb T E bp ba m L hG.sub hm
 have hG2:=hG.cons (Xl bp ba m)
 unfold Zm9
 by_cases h1:id<0∨7≤id
 ·rw [if_pos h1]
  refine Za (fun _ _=>Tryz.call80 _ _) Tryz.func80 rfl Tryz.ntmps80 (Nat.le_of_ble_eq_true rfl) ?_;simp only [Zd,Nat.reduceAdd]
  repeat' (first|refine uN ?_|refine Zu S ?_|(refine uB ?_;intro b)|refine dg S 100 (fun _ _=>?_)|(refine uP ?_ ?_<;>(intro h;((try simp only [zs,zq,reduceCtorEq] at h);try exact zx)))|refine da 101 ?_|fail)
  all_goals exact W9 (LS.refl _) ⟨rfl,rfl⟩
 rw [if_neg h1]
 by_cases h2:m.b.length<216
 ·simp only [if_pos h2] at ko ⊢
  refine Za (fun _ _=>Tryz.call80 _ _) Tryz.func80 rfl Tryz.ntmps80 (Nat.le_of_ble_eq_true rfl) ?_;simp only [Zd,Nat.reduceAdd]
  repeat' (first|refine uN ?_|refine Zu S ?_|(refine uB ?_;intro b)|refine dg S 100 (fun _ _=>?_)|(refine uP ?_ ?_<;>(intro h;((try simp only [zs,zq,reduceCtorEq] at h);try exact zx)))|refine da 101 ?_|fail)
  refine gc ko ?_
  rintro v L' ⟨rfl,rfl⟩
  repeat' (first|refine uN ?_|refine Zu S ?_|(refine uB ?_;intro b)|refine dg S 100 (fun _ _=>?_)|(refine uP ?_ ?_<;>(intro h;((try simp only [zs,zq,reduceCtorEq] at h);try exact zx)))|refine da 101 ?_|fail)
  exact W9 (LS.refl _) ⟨rfl,rfl⟩
 simp only [if_neg h2] at ko ⊢
 by_cases h3:m.off=true
 ·simp only [if_pos h3] at ko ⊢
  refine Za (fun _ _=>Tryz.call80 _ _) Tryz.func80 rfl Tryz.ntmps80 (Nat.le_of_ble_eq_true rfl) ?_;simp only [Zd,Nat.reduceAdd]
  repeat' (first|refine uN ?_|refine Zu S ?_|(refine uB ?_;intro b)|refine dg S 100 (fun _ _=>?_)|(refine uP ?_ ?_<;>(intro h;((try simp only [zs,zq,reduceCtorEq] at h);try exact zx)))|refine da 101 ?_|fail)
  refine gc ko ?_
  rintro v L' ⟨rfl,rfl⟩
  repeat' (first|refine uN ?_|refine Zu S ?_|(refine uB ?_;intro b)|refine dg S 100 (fun _ _=>?_)|(refine uP ?_ ?_<;>(intro h;((try simp only [zs,zq,reduceCtorEq] at h);try exact zx)))|refine da 101 ?_|fail)
  exact W9 (LS.refl _) ⟨rfl,rfl⟩
 simp only [if_neg h3] at ko ⊢
 refine Za (fun _ _=>Tryz.call80 _ _) Tryz.func80 rfl Tryz.ntmps80 (Nat.le_of_ble_eq_true rfl) ?_;simp only [Zd,Nat.reduceAdd]
 repeat' (first|refine uN ?_|refine Zu S ?_|(refine uB ?_;intro b)|refine dg S 100 (fun _ _=>?_)|(refine uP ?_ ?_<;>(intro h;((try simp only [zs,zq,reduceCtorEq] at h);try exact zx)))|refine da 101 ?_|fail)
 refine gc ko ?_
 rintro v L' ⟨bj,rfl,rfl⟩
 repeat' (first|refine uN ?_|refine Zu S ?_|(refine uB ?_;intro b)|refine dg S 100 (fun _ _=>?_)|(refine uP ?_ ?_<;>(intro h;((try simp only [zs,zq,reduceCtorEq] at h);try exact zx)))|refine da 101 ?_|fail)
 exact W9 uL ⟨_,_,_,rfl,rfl⟩
theorem Zo5 (T:Nat) (E:Nat→Addr) (sp bj mb bp:Nat) (id:Int) (es:List MapEntry) (ck:Nat) (ref:Int→Bool) (j:Jn) (d:Int) (L:Zb) (hG:Er T E [2] L) (hl:j.l.length=6) (hF:Zy iv es ref) :
  HC Tryz.prog 146 [pt sp 0,iv d] (Zh8 sp bj mb id::Zii mb es ck::jC bj bp j::L) (fun v L'=>if d<0∨6≤d then v=eV T E (some 2)∧L'=Zh8 sp bj mb id::Zii mb es ck::jC bj bp j::L
   else ∃ es' ck',Zy iv es' (fun x=>if x=d then true else ref x)∧v = .nilIface∧L'=Zh8 sp bj mb id::Zii mb es' ck'::jC bj bp j::L):=by
 have kg:=fun L hG=>Zmi T E bj bp j d L hG hl
 by_cases h:d<0∨6≤d
 ·simp only [if_pos h] at kg ⊢
  refine Za (fun _ _=>Tryz.call146 _ _) Tryz.func146 rfl Tryz.ntmps146 (Nat.le_of_ble_eq_true rfl) ?_;simp only [Zd,Nat.reduceAdd]
  repeat' (first|refine uN ?_|(refine uB ?_;intro b)|(refine uP ?_ ?_<;>(intro h;((try simp only [zs,zq,reduceCtorEq] at h);try exact zx)))|fail)
  refine fo 2 ?_
  refine gc (kg _ ((hG.cons _).cons _)) ?_
  rintro v L' ⟨rfl,rfl⟩
  repeat' (first|refine uN ?_|(refine uB ?_;intro b)|(refine uP ?_ ?_<;>(intro h;((try simp only [zs,zq,reduceCtorEq] at h);try exact zx)))|fail)
  exact Z9 uL ⟨rfl,rfl⟩
 ·simp only [if_neg h] at kg ⊢
  refine Za (fun _ _=>Tryz.call146 _ _) Tryz.func146 rfl Tryz.ntmps146 (Nat.le_of_ble_eq_true rfl) ?_;simp only [Zd,Nat.reduceAdd]
  repeat' (first|refine uN ?_|(refine uB ?_;intro b)|(refine uP ?_ ?_<;>(intro h;((try simp only [zs,zq,reduceCtorEq] at h);try exact zx)))|fail)
  refine fo 2 ?_
  refine gc (kg _ ((hG.cons _).cons _)) ?_
  rintro v L' ⟨rfl,rfl⟩
  repeat' (first|refine uN ?_|(refine uB ?_;intro b)|(refine uP ?_ ?_<;>(intro h;((try simp only [zs,zq,reduceCtorEq] at h);try exact zx)))|fail)
  refine fo 3 ?_
  refine wmI S hF (fun es' ck' hF'=>?_)
  repeat' (first|refine uN ?_|(refine uB ?_;intro b)|(refine uP ?_ ?_<;>(intro h;((try simp only [zs,zq,reduceCtorEq] at h);try exact zx)))|fail)
  exact Z9 uL ⟨_,_,hF',rfl,rfl⟩
end Go.HL
end

/-! StC -/
section
namespace Go.HL
open Go Go.Proofs
def Zs (id:Int) (ref:Int→Bool) (m:Pl) (j:Jn) (f:Fr):Pl × Jn × List Fr × Option Nat:=
 if X5 f then (m,j,[],some 2) else if f.to≠id then (m,j,[],some 3) else
 match (Xt m j f.dl (Yj ref f (j.l.getD f.dl.toNat Zm).s).1).2.2 with
 | some e=>((Xt m j f.dl (Yj ref f (j.l.getD f.dl.toNat Zm).s).1).1,(Xt m j f.dl (Yj ref f (j.l.getD f.dl.toNat Zm).s).1).2.1,[],some e)
 | none=>((Xt m j f.dl (Yj ref f (j.l.getD f.dl.toNat Zm).s).1).1,(Xt m j f.dl (Yj ref f (j.l.getD f.dl.toNat Zm).s).1).2.1,
  if (Yj ref f (j.l.getD f.dl.toNat Zm).s).2.1=0 then [] else [⟨id,f.fr,f.dl,(Yj ref f (j.l.getD f.dl.toNat Zm).s).2.1,f.att,(Yj ref f (j.l.getD f.dl.toNat Zm).s).2.2,(Yj ref f (j.l.getD f.dl.toNat Zm).s).1⟩],none)
theorem Zxe {α:Type} {E sz:Nat} {enc:α→List Value} {b:Nat} (x:α) (hsz:(enc x).length=sz):Vec E sz enc (sl b 0 1 1) [x] [(b,.cells ⟨enc x⟩ E)]:=
 .inr ⟨b,1,[],rfl,by simp,by simp [hsz],by simp,by simp [hsz]⟩
set_option maxHeartbeats 2000000 attribute [local irreducible] HW HO HQ HD HC QOp Has Upd Zt Gets Z8 Z0 Zo Xm Zz Zj Xp Zy
attribute [local irreducible] Yr Xl Xt Yj
set_option maxHeartbeats 1000000 in
theorem Zss (T:Nat) (E:Nat→Addr) (sp bj mb bp ba:Nat) (id:Int) (es:List MapEntry) (ck:Nat) (ref:Int→Bool) (m:Pl) (j:Jn) (f:Fr) (L:Zb) (hG:Er T E [2,3,5,6] L) (hF:Zy iv es ref) (hm:PlOk m) (hj:JnOk j) :
  HC Tryz.prog 199 [pt sp 0,.agg ⟨fc f⟩] (Zh8 sp bj mb id::Zii mb es ck::Xl bp ba m::jC bj bp j::L) (fun v L' => ∃ fv c,v = .tuple ⟨[fv,eV T E (Zs id ref m j f).2.2.2]⟩∧Z7 fv (Zs id ref m j f).2.2.1 c ∧
   L'=Zh8 sp bj mb id::Zii mb es ck::Xl bp ba (Zs id ref m j f).1::jC bj bp (Zs id ref m j f).2.1::c::L):=by
 have hG4:=(((hG.cons (jC bj bp j)).cons (Xl bp ba m)).cons (Zii mb es ck)).cons (Zh8 sp bj mb id)
 have kc:=fun L hG=>Zpr T E f L hG
 unfold Zs Zgm at *
 by_cases hb:X5 f
 ·simp only [if_pos hb] at kc ⊢
  refine Za (fun _ _=>Tryz.call199 _ _) Tryz.func199 rfl Tryz.ntmps199 (Nat.le_of_ble_eq_true rfl) ?_;simp only [Zd,Nat.reduceAdd]
  repeat' (first|refine uN ?_|refine Z2 S ?_|refine Yp S ?_|refine Wq (qC (kc _ (hG4.sub.cons _))) ?_|refine Qr (qC (kc _ (hG4.sub.cons _))) ?_|refine Yb (fun _=>kc _ (hG4.sub.cons _)) ?_|refine Yc (fun _=>kc _ (hG4.sub.cons _)) ?_|refine Yd (fun _=>kc _ (hG4.sub.cons _)) ?_|refine Ye (fun _=>kc _ (hG4.sub.cons _)) ?_|(refine uB ?_;intro b)|refine dg S 100 (fun _ _=>?_)|(refine uP ?_ ?_<;>(intro h;((try simp only [zs,zq,reduceCtorEq] at h);try exact zx)))|refine da 101 ?_|fail)
  exact W9 (L':=Zh8 sp bj mb id::Zii mb es ck::Xl bp ba m::jC bj bp j::[]::L) (LS.skip _ (LS.refl _)) ⟨_,[],rfl,Zv,rfl⟩
 simp only [if_neg hb] at kc ⊢
 by_cases hto:f.to=id
 ·simp only [ne_eq,hto,not_true_eq_false,if_false]
  unfold X5 at hb
  obtain ⟨fr0,to0,dl0,kd0,at0,ys0,fs0⟩:=f
  simp only at hb hto ⊢
  subst hto
  obtain ⟨d,rfl⟩:=Int.eq_ofNat_of_zero_le (show 0≤dl0 by omega)
  have hd6:d<6:=by omega
  clear hb
  simp only [Int.toNat_natCast]
  have kg:=fun L h=>Zhc bj bp j d L h hj.len hd6
  generalize hst:(j.l.getD d Zm).s=st at *
  have kt:=fun L=>Zvm sp bj mb to0 es ck ref ⟨fr0,to0,d,kd0,at0,ys0,fs0⟩ st L hF
  generalize htr:Yj ref ⟨fr0,to0,d,kd0,at0,ys0,fs0⟩ st=tr at *
  have kp:=Zy4 T E bj bp ba m j d tr.1
  generalize hpr:Xt m j d tr.1=pr at *
  refine Za (fun _ _=>Tryz.call199 _ _) Tryz.func199 rfl Tryz.ntmps199 (Nat.le_of_ble_eq_true rfl) ?_;simp only [Zd,Nat.reduceAdd]
  repeat' (first|refine uN ?_|refine Z2 S ?_|refine Yp S ?_|refine Wq (qC (kc _ (hG4.sub.cons _))) ?_|refine Qr (qC (kc _ (hG4.sub.cons _))) ?_|refine Yb (fun _=>kc _ (hG4.sub.cons _)) ?_|refine Yc (fun _=>kc _ (hG4.sub.cons _)) ?_|refine Yd (fun _=>kc _ (hG4.sub.cons _)) ?_|refine Ye (fun _=>kc _ (hG4.sub.cons _)) ?_|(refine uB ?_;intro b)|refine dg S 100 (fun _ _=>?_)|(refine uP ?_ ?_<;>(intro h;((try simp only [zs,zq,reduceCtorEq] at h);try exact zx)))|refine da 101 ?_|fail)
  refine dcF 0 [(bj,.cells ⟨Yr bp j⟩ 251)] (fun L hL=>kg L (hL _ (List.mem_singleton.2 rfl))) (fun p hp=>by
   rw [List.mem_singleton.1 hp]
   exact Zc (Zc (Zc (Zc Zh)))) ?_
  simp only [List.map_cons,List.map_nil,List.cons_append,List.nil_append]
  repeat' (first|refine uN ?_|refine Z2 S ?_|refine Yp S ?_|refine Wq (qC (kc _ (hG4.sub.cons _))) ?_|refine Qr (qC (kc _ (hG4.sub.cons _))) ?_|refine Yb (fun _=>kc _ (hG4.sub.cons _)) ?_|refine Yc (fun _=>kc _ (hG4.sub.cons _)) ?_|refine Yd (fun _=>kc _ (hG4.sub.cons _)) ?_|refine Ye (fun _=>kc _ (hG4.sub.cons _)) ?_|(refine uB ?_;intro b)|refine dg S 100 (fun _ _=>?_)|(refine uP ?_ ?_<;>(intro h;((try simp only [zs,zq,reduceCtorEq] at h);try exact zx)))|refine da 101 ?_|fail)
  repeat' (first|refine uN ?_|refine Zu S ?_|refine Wq (qC (hq2 kt 2 2)) ?_|refine Yb (fun _=>hq2 kt 2 2) ?_|refine Yc (fun _=>hq2 kt 2 2) ?_|refine Yd (fun _=>hq2 kt 2 2) ?_|refine Ye (fun _=>hq2 kt 2 2) ?_|(refine uB ?_;intro b)|refine dg S 100 (fun _ _=>?_)|(refine uP ?_ ?_<;>(intro h;((try simp only [zs,zq,reduceCtorEq] at h);try exact zx)))|refine da 101 ?_|fail)
  refine fo 6 ?_
  refine fo 6 ?_
  refine gc (kp _ (((((hG.cons _).cons _).cons _).cons _).cons _).sub hm hj) ?_
  rintro v L' ⟨rfl,rfl⟩
  cases he:pr.2.2 with
  | some e =>
   simp only
   repeat' (first|refine uN ?_|refine Zu S ?_|(refine uB ?_;intro b)|refine dg S 100 (fun _ _=>?_)|(refine uP ?_ ?_<;>(intro h;((try simp only [zs,zq,reduceCtorEq] at h);try exact zx)))|refine da 101 ?_|fail)
   exact W9 (L':=Zh8 sp bj mb to0::Zii mb es ck::Xl bp ba pr.1::jC bj bp pr.2.1::[]::L) uL ⟨_,[],rfl,Zv,rfl⟩
  | none =>
   simp only
   by_cases hk:tr.2.1=0
   ·simp only [if_pos hk]
    repeat' (first|refine uN ?_|refine Zu S ?_|(refine uB ?_;intro b)|refine dg S 100 (fun _ _=>?_)|(refine uP ?_ ?_<;>(intro h;((try simp only [zs,zq,reduceCtorEq] at h);try exact zx)))|refine da 101 ?_|fail)
    exact W9 (L':=Zh8 sp bj mb to0::Zii mb es ck::Xl bp ba pr.1::jC bj bp pr.2.1::[]::L) uL ⟨_,[],rfl,Zv,rfl⟩
   ·simp only [if_neg hk]
    repeat' (first|refine uN ?_|refine Zu S ?_|(refine uB ?_;intro b)|refine dg S 100 (fun _ _=>?_)|(refine uP ?_ ?_<;>(intro h;((try simp only [zs,zq,reduceCtorEq] at h);try exact zx)))|refine da 101 ?_|fail)
    exact W9 (L':=Zh8 sp bj mb to0::Zii mb es ck::Xl bp ba pr.1::jC bj bp pr.2.1::[(b,.cells ⟨fc ⟨to0,fr0,d,tr.2.1,at0,tr.2.2,tr.1⟩⟩ 97)]::L) (LS.p6 (LS.p6 (LS.p1 (LS.p1 (LS.p0 (LS.c (LS.c (LS.c (LS.refl _))))))))) ⟨_,_,rfl,Zxe _ rfl,rfl⟩
 ·simp only [ne_eq,hto,not_false_eq_true,if_true]
  refine Za (fun _ _=>Tryz.call199 _ _) Tryz.func199 rfl Tryz.ntmps199 (Nat.le_of_ble_eq_true rfl) ?_;simp only [Zd,Nat.reduceAdd]
  repeat' (first|refine uN ?_|refine Z2 S ?_|refine Yp S ?_|refine Wq (qC (kc _ (hG4.sub.cons _))) ?_|refine Qr (qC (kc _ (hG4.sub.cons _))) ?_|refine Yb (fun _=>kc _ (hG4.sub.cons _)) ?_|refine Yc (fun _=>kc _ (hG4.sub.cons _)) ?_|refine Yd (fun _=>kc _ (hG4.sub.cons _)) ?_|refine Ye (fun _=>kc _ (hG4.sub.cons _)) ?_|(refine uB ?_;intro b)|refine dg S 100 (fun _ _=>?_)|(refine uP ?_ ?_<;>(intro h;((try simp only [zs,zq,reduceCtorEq] at h);try exact zx)))|refine da 101 ?_|fail)
  exact W9 (L':=Zh8 sp bj mb id::Zii mb es ck::Xl bp ba m::jC bj bp j::[]::L) (LS.skip _ (LS.refl _)) ⟨_,[],rfl,Zv,rfl⟩
end Go.HL
end

/-! JnN -/
section
namespace Go.HL
open Go Go.Proofs
theorem Zza (s:List UInt8) (a:Nat):s.foldl (fun n b=>n*256+b.toNat) a=a*256 ^ s.length+Zat s:=by
 induction s generalizing a with
 | nil=>simp [Zat]
 | cons b s ih =>
  rw [Zat,List.foldl_cons,List.foldl_cons,ih,ih]
  simp only [List.length_cons,Nat.pow_succ]
  have e:a*256*256 ^ s.length=a*(256 ^ s.length*256):=by rw [Nat.mul_assoc,Nat.mul_comm 256]
  rw [Nat.add_mul,e,Nat.zero_mul,Nat.zero_add]
  omega
theorem rdN_cons (b:UInt8) (s:List UInt8):Zat (b::s)=b.toNat*256 ^ s.length+Zat s:=by
 rw [Zat,List.foldl_cons,Zza];simp
theorem bt_nat (n k:Nat):(bt (n:Int) k).toNat=n / 256 ^ k % 256:=by
 have h:=Ztt (n:Int) k
 have e:(n:Int) / 2 ^ (8*k) % 256=((n / 256 ^ k % 256:Nat):Int):=by
  rw [Int.pow_mul]
  simp
 rw [e] at h
 exact Int.ofNat.inj h
theorem rdN_numB (n k:Nat):Zat (Xn (n:Int) k)=n % 256 ^ k:=by
 induction k with
 | zero=>simp [Xn,Zat,Nat.mod_one]
 | succ k ih =>
  rw [Xn,rdN_cons,ih,bt_nat,Y6,Nat.pow_succ,Nat.mod_mul]
  rw [Nat.mul_comm,Nat.add_comm]
theorem Zo4 {n:Int} {k:Nat} (h0:0≤n) (h1:n<256 ^ k):((Zat (Xn n k):Nat):Int)=n:=by
 obtain ⟨n,rfl⟩:=Int.eq_ofNat_of_zero_le h0
 rw [rdN_numB,Nat.mod_eq_of_lt]
 exact Int.ofNat_lt.1 (by simpa using h1)
end Go.HL
end

/-! JnG -/
section
namespace Go.HL
open Go Go.Proofs

structure EntOk (e:Ent):Prop where
 n0:1≤e.n
 n1:e.n<4294967296
 p0:0≤e.s.ph
 p1:e.s.ph≤255
 r0:0≤e.s.pr
 r1:e.s.pr≤1048576
 a0:0≤e.s.att
 a1:e.s.att≤1048576
theorem Zuw {e:Ent} (h:EntOk e) (r:List UInt8):Zc7 (Y2 e++r)=e:=by
 obtain ⟨n,⟨p,q,a⟩⟩:=e
 have l1:=Y6 n 4
 have l2:=Y6 p 1
 have l3:=Y6 q 4
 have l4:=Y6 a 4
 have h1:=h.n0;have h2:=h.n1;have h3:=h.p0;have h4:=h.p1;have h5:=h.r0;have h6:=h.r1;have h7:=h.a0;have h8:=h.a1
 simp only at h1 h2 h3 h4 h5 h6 h7 h8
 have e1:Y2 ⟨n,p,q,a⟩++r=Xn n 4++(Xn p 1++(Xn q 4++(Xn a 4++(Xn (Zpw (head ⟨n,p,q,a⟩)) 4++r)))):=by simp [Y2,head]
 have t1:(Y2 ⟨n,p,q,a⟩++r).take 4=Xn n 4:=by rw [e1,List.take_left' l1]
 have t2:((Y2 ⟨n,p,q,a⟩++r).take 5).drop 4=Xn p 1:=by
  rw [e1,← List.append_assoc,List.take_left' (by simp [l1,l2]),List.drop_left' l1]
 have t3:((Y2 ⟨n,p,q,a⟩++r).take 9).drop 5=Xn q 4:=by
  rw [e1,← List.append_assoc,← List.append_assoc,List.take_left' (by simp [l1,l2,l3]),List.drop_left' (by simp [l1,l2])]
 have t4:((Y2 ⟨n,p,q,a⟩++r).take 13).drop 9=Xn a 4:=by
  rw [e1,← List.append_assoc,← List.append_assoc,← List.append_assoc,List.take_left' (by simp [l1,l2,l3,l4]),List.drop_left' (by simp [l1,l2,l3])]
 unfold Zc7
 rw [t1,t2,t3,t4,Zo4 (by omega) (by omega),Zo4 (by omega) (by omega),Zo4 (by omega) (by omega),Zo4 (by omega) (by omega)]
theorem Zx8 {e:Ent} (h:EntOk e):Y5 (e.n % 2) (Y2 e++Xa)=e:=by
 rw [Qq,Zuw h]
 rw [if_neg]
 have:=h.n0
 simp
 omega
theorem Zig (k:Int) (s:List UInt8) (hs:4≤s.length):0≤(Y5 k s).n∧(Y5 k s).n<4294967296:=by
 rw [Qq]
 split
 ·simp
 ·have:=Zo2 (s.take 4)
  rw [show (s.take 4).length=4 by simp;omega] at this
  show 0≤((Zat (s.take 4):Nat):Int)∧((Zat (s.take 4):Nat):Int)<4294967296
  omega
theorem Zdf (a b:Ent):(Uk a b).n=max a.n b.n:=by
 unfold Uk
 split<;>omega
theorem Znc (Pr X R:List UInt8) (i:Nat) (hP:Pr.length=i*18) (hX:X.length=18):Xe (Pr++X++R) i=X:=by
 unfold Xe
 rw [List.append_assoc,List.drop_left' hP,List.take_left' hX]
theorem Znb (Pr X Y R:List UInt8) (i i':Nat) (hP:Pr.length=i*18) (hX:X.length=18) (hY:Y.length=18) (h:i'≠i):Xe (Pr++X++R) i'=Xe (Pr++Y++R) i':=by
 unfold Xe
 rcases Nat.lt_or_gt_of_ne h with h|h
 ·have e : ∀ Z:List UInt8,((Pr++Z++R).drop (i'*18)).take 18=(Pr.drop (i'*18)).take 18:=fun Z=>by
   rw [List.append_assoc,List.drop_append_of_le_length (by omega),List.take_append_of_le_length (by simp;omega)]
  rw [e,e]
 ·have e : ∀ Z:List UInt8,Z.length=18→((Pr++Z++R).drop (i'*18)).take 18=(R.drop (i'*18-(i*18+18))).take 18:=fun Z hZ=>by
   have hl:(Pr++Z).length=i*18+18:=by simp [hP,hZ]
   rw [List.drop_append,hl,List.drop_of_length_le (by omega),List.nil_append]
  rw [e X hX,e Y hY]
theorem Zvh (Pr S X R:List UInt8) (h:X.length=S.length):Ws (Pr++S++R) Pr.length X=Pr++X++R:=by
 unfold Ws
 have e1:(Pr++S++R).take Pr.length=Pr:=by rw [List.append_assoc,List.take_left' rfl]
 have e2:(Pr++S++R).drop (Pr.length+X.length)=R:=by rw [List.drop_left' (by simp [h])]
 rw [e1,e2]
end Go.HL
end

/-! JnH -/
section
namespace Go.HL
open Go Go.Proofs

theorem cut_slot (b:List UInt8) (i:Nat) (h:i*18+18≤b.length) : ∃ Pr S c R,b=Pr++(S++[c])++R∧Pr.length=i*18∧S.length=17:=by
 have hd:i*18+17<b.length:=by omega
 refine ⟨b.take (i*18),(b.drop (i*18)).take 17,b[i*18+17],b.drop (i*18+18),?_,by simp;omega,by simp;omega⟩
 have e1:b.drop (i*18)=(b.drop (i*18)).take 17++b.drop (i*18+17):=by
  have:=(List.take_append_drop 17 (b.drop (i*18))).symm
  rwa [List.drop_drop] at this
 have e2:b.drop (i*18+17)=b[i*18+17]::b.drop (i*18+18):=List.drop_eq_getElem_cons hd
 have e3:=(List.take_append_drop (i*18) b).symm
 rw [e1,e2] at e3
 simpa using e3
theorem Zdu {Pr S X R:List UInt8} {n:Nat} (hn:n=Pr.length) (h:X.length=S.length):Ws (Pr++S++R) n X=Pr++X++R:=by
 subst hn;exact Zvh Pr S X R h
theorem Zwx {b:List UInt8} {d:Nat} (hd:d<6) (hl:216≤b.length) (k:Nat) (hk:k≤2):0≤(Vj b d k).n∧(Vj b d k).n<4294967296:=by
 induction k with
 | zero=>simp [Vj,Zm]
 | succ k ih =>
  have h1:=ih (by omega)
  have h2:=Zig k (Xe b (2*d+k)) (by rw [Zbi _ _ (by omega) hl];omega)
  rw [Vj,Zdf]
  omega
theorem deal_new {b b':List UInt8} {d:Nat} {e:Ent} (hl:216≤b.length) (hd:d<6) (he:EntOk e) (hn:e.n=(Xc b d).n+1) {Pr S R:List UInt8} (hb:b=Pr++S++R) (hb':b'=Pr++(Y2 e++Xa)++R) (hP:Pr.length=(2*d+(e.n % 2).toNat)*18) (hS:S.length=18) :
  Zn b'=(Zn b).set d e:=by
 have hX:(Y2 e++Xa).length=18:=by simp [Q9,Xa]
 have hk:e.n % 2=0∨e.n % 2=1:=by omega
 have here:Xe b' (2*d+(e.n % 2).toNat)=Y2 e++Xa:=by rw [hb'];exact Znc _ _ _ _ hP hX
 have els : ∀ i,i≠2*d+(e.n % 2).toNat→Xe b' i=Xe b i:=fun i hi=>by rw [hb,hb'];exact Znb _ _ _ _ _ _ hP hX hS hi
 have hh:=Zx8 he
 have h0:=he.n0
 have hd2:Xc b' d=e:=by
  have q1:Xc b d=Uk (Uk Zm (Y5 0 (Xe b (2*d+0)))) (Y5 1 (Xe b (2*d+1))):=rfl
  have q2:Xc b' d=Uk (Uk Zm (Y5 0 (Xe b' (2*d+0)))) (Y5 1 (Xe b' (2*d+1))):=rfl
  have m1:(Xc b d).n=max (max 0 (Y5 0 (Xe b (2*d+0))).n) (Y5 1 (Xe b (2*d+1))).n:=by rw [q1,Zdf,Zdf];rfl
  rcases hk with hk|hk
  ·rw [hk] at here hh els
   rw [q2,show Xe b' (2*d+0)=Y2 e++Xa from here,hh,els (2*d+1) (by simp)]
   have u1:Uk Zm e=e:=by unfold Uk;rw [if_pos (by show (0:Int)<e.n;omega)]
   rw [u1]
   unfold Uk
   rw [if_neg (by omega)]
  ·rw [hk] at here hh els
   rw [q2,show Xe b' (2*d+1)=Y2 e++Xa from here,hh,els (2*d+0) (by simp)]
   have u1:(Uk Zm (Y5 0 (Xe b (2*d+0)))).n=max 0 (Y5 0 (Xe b (2*d+0))).n:=by rw [Zdf];rfl
   generalize Uk Zm (Y5 0 (Xe b (2*d+0)))=u at *
   unfold Uk
   rw [if_pos (by omega)]
 have hdo : ∀ i,i≠d→Xc b' i=Xc b i:=fun i hi=>by
  unfold Xc Vj Vj Vj
  rw [els (2*i+0) (by omega),els (2*i+1) (by omega)]
 apply List.ext_getElem?
 intro i
 rw [List.getElem?_set]
 by_cases hi:d=i
 ·subst hi
  simp [Zn,hd,hd2]
 ·simp only [hi,if_false,Zn,List.getElem?_map]
  by_cases h6:i<6
  ·simp [h6,hdo i (fun h=>hi h.symm)]
  ·simp [h6]
structure Good (m:Pl) (j:Jn):Prop where
 off:m.off=false
 cut:m.cut = -1
 lo:216≤m.b.length
 hi:m.b.length≤1000000
 dead:j.dead=false
 l:j.l=Zn m.b
theorem Zmy {b:List UInt8} {d:Nat} (hd:d<6):(Zn b).getD d Zm=Xc b d:=by simp [Zn,hd]
theorem Zww {b:List UInt8} (hl:216≤b.length):JnOk ⟨Zn b,false⟩:=by
 have key : ∀ d,0≤((Zn b).getD d Zm).n∧((Zn b).getD d Zm).n<4294967296:=fun d=>by
  by_cases hd:d<6
  ·rw [Zmy hd];exact Zwx hd hl 2 (by omega)
  ·simp [Zn,hd,Zm]
 exact ⟨by simp [Zn],fun d=>(key d).1,fun d=>by have:=(key d).2;show ((Zn b).getD d Zm).n≤_;omega⟩
theorem Good.ok {m:Pl} {j:Jn} (h:Good m j):PlOk m∧JnOk j:=by
 obtain ⟨jl,jd⟩:=j
 have h1:=h.dead
 have h2:=h.l
 simp only at h1 h2
 subst h1;subst h2
 exact ⟨⟨h.hi,by rw [h.cut];decide,by rw [h.cut];decide⟩,Zww h.lo⟩
theorem Zex {n:Nat} (h:216≤n):Zn (Yk n)=List.replicate 6 Zm:=by
 have hs : ∀ i,i<12→Xe (Yk n) i=Yk 18:=fun i hi=>by
  unfold Xe Yk
  rw [List.drop_replicate,List.take_replicate,Nat.min_eq_left (by omega)]
 have hh : ∀ k,Y5 k (Yk 18)=Zm:=fun k=>by
  rw [Qq,if_pos (.inl (by decide))];rfl
 have hd : ∀ d,d<6→Xc (Yk n) d=Zm:=fun d hd=>by
  unfold Xc Vj Vj Vj
  rw [hs _ (by omega),hs _ (by omega),hh,hh]
  rfl
 apply List.ext_getElem?
 intro i
 by_cases h:i<6
 ·rw [List.getElem?_replicate,if_pos h];simp [Zn,h,hd i h]
 ·simp [Zn,h]
theorem Znp (n:Nat):(Yk n).length=n:=by simp [Yk]
end Go.HL
end

/-! JnK -/
section
namespace Go.HL
open Go Go.Proofs
def Za7 (c:Int) (n:Nat):Int:=if c = -1 then -1 else c-n
theorem Zvv {b:List UInt8} {c a:Int} {s:List UInt8} (h0:0≤a) (h1:a+s.length≤b.length) :
  Yg ⟨b,false,c⟩ a s=Zbo ⟨b,false,c⟩ a.toNat s:=by
 unfold Yg Wf
 simp only [Bool.false_eq_true,if_false]
 rw [if_neg (by omega)]
theorem Zlc {b:List UInt8} {c:Int} {a:Nat} {s:List UInt8} (h:c = -1∨s.length≤c.toNat):Zbo ⟨b,false,c⟩ a s=(⟨Ws b a s,false,Za7 c s.length⟩,none):=by
 have hk:kM ⟨b,false,c⟩ s.length=s.length:=by
  unfold kM;split
  ·rfl
  ·rcases h with h|h
   ·contradiction
   ·simp only;omega
 simp [Zbo,hk,Za7]
theorem Zg2 {b:List UInt8} {c:Int} {a:Nat} {s:List UInt8} (h0:0≤c) (h:c.toNat<s.length):Zbo ⟨b,false,c⟩ a s=(⟨Ws b a (s.take c.toNat),true,0⟩,some 6):=by
 have hk:kM ⟨b,false,c⟩ s.length=c.toNat:=by
  unfold kM;rw [if_neg (by simp only;omega)];simp only;omega
 simp only [Zbo,hk]
 rw [if_neg (by omega),if_pos h]
 simp [h]
 omega
theorem read_C {b:List UInt8} {c a:Int} {n:Int} (h0:0≤a) (h2:0≤n) (h1:a+n≤b.length):Qf ⟨b,false,c⟩ a n=((b.drop a.toNat).take n.toNat,none):=by
 unfold Qf Wf
 simp only [Bool.false_eq_true,if_false]
 rw [if_neg (by omega)]
def JW (b:List UInt8) (Pr R:List UInt8) (e:Ent) (r:Pl × Option Nat):Prop:=
 (r.2=none∧r.1.off=false∧r.1.b=Pr++(Y2 e++Xa)++R ∧ -1≤r.1.cut) ∨
 (r.2=some 6∧r.1.off=true∧r.1.cut=0∧(r.1.b=b ∨ ∃ X,X.length=17∧r.1.b=Pr++(X++[0])++R))
theorem jw_cut {b:List UInt8} {ct:Int} {d:Nat} {e:Ent} (hct : -1≤ct) (hl:216≤b.length) (hd:d<6) (he:0≤e.n) : ∃ Pr S c R,b=Pr++(S++[c])++R∧Pr.length=(2*d+(e.n % 2).toNat)*18∧S.length=17 ∧
  JW b Pr R e (Zaa ⟨b,false,ct⟩ d e):=by
 have hk:0≤e.n % 2∧e.n % 2<2:=by omega
 obtain ⟨Pr,S,c,R,hb,hP,hS⟩:=cut_slot b (2*d+(e.n % 2).toNat) (by omega)
 refine ⟨Pr,S,c,R,hb,hP,hS,?_⟩
 have hlen:b.length=(2*d+(e.n % 2).toNat)*18+18+R.length:=by rw [hb];simp [hP,hS];omega
 have ha:Qa d e=((Pr.length:Nat):Int):=by unfold Qa;omega
 have lb:=Q9 e
 have r1:Qf ⟨b,false,ct⟩ (Qa d e+18-1) 1=([c],none):=by
  rw [read_C (by omega) (by omega) (by omega)]
  have e1:(Qa (d:Int) e+18-1).toNat=(Pr++S).length:=by simp [hS];omega
  rw [e1,hb,← List.append_assoc,List.append_assoc (Pr++S),List.drop_left' rfl]
  rfl
 have w1:(∃ c1,-1≤c1∧Zbd ⟨b,false,ct⟩ d e=(⟨Pr++(S++[0])++R,false,c1⟩,none))∨Zbd ⟨b,false,ct⟩ d e=(⟨b,true,0⟩,some 6):=by
  unfold Zbd
  rw [r1]
  simp only
  split
  ·rename_i h
   refine .inl ⟨ct,hct,?_⟩
   rw [hb,show c=0 by simpa using h]
  ·have hz:Pr++(S++[c])++R=(Pr++S)++[c]++R:=by simp
   rw [Zvv (by omega) (by simp;omega)]
   by_cases hc:ct = -1∨1≤ct.toNat
   ·refine .inl ⟨Za7 ct 1,by unfold Za7;split<;>omega,?_⟩
    rw [Zlc (by simpa using hc),hb,hz,Zdu (S:=[c]) (X:=[0]) (by simp [hS];omega) rfl]
    simp
   ·refine .inr ?_
    rw [Zg2 (by omega) (by simp;omega),show ct.toNat=0 by omega]
    simp [Ze4]
 unfold JW Zaa Zax
 rcases w1 with ⟨c1,hc1,w1⟩|w1
 ·rw [w1]
  simp only
  have hl1:(Pr++(S++[0])++R).length=b.length:=by rw [hb];simp
  have hz:Pr++(S++[0])++R=Pr++S++([0]++R):=by simp
  rw [Zvv (by omega) (by rw [hl1];omega)]
  by_cases hc:c1 = -1∨17≤c1.toNat
  ·rw [Zlc (by rw [lb];exact hc),hz,Zdu (by omega) (by omega)]
   simp only
   have hl2:(Pr++Y2 e++([0]++R)).length=b.length:=by rw [hb];simp [lb,hS]
   have hz2:Pr++Y2 e++([0]++R)=(Pr++Y2 e)++[0]++R:=by simp
   have hc2 : -1≤Za7 c1 17:=by unfold Za7;split<;>omega
   rw [lb,Zvv (by omega) (by rw [hl2];simp [Xa];omega)]
   by_cases hc3:Za7 c1 17 = -1∨1≤(Za7 c1 17).toNat
   ·left
    rw [Zlc (by simpa [Xa] using hc3),hz2,Zdu (S:=[0]) (X:=Xa) (by simp [lb];omega) rfl]
    refine ⟨rfl,rfl,by simp,?_⟩
    show -1≤Za7 (Za7 c1 17) 1
    generalize Za7 c1 17=q at *
    unfold Za7;split<;>omega
   ·right
    rw [Zg2 (by omega) (by simp [Xa];omega),show (Za7 c1 17).toNat=0 by omega]
    refine ⟨rfl,rfl,rfl,.inr ⟨Y2 e,lb,?_⟩⟩
    simp [Ze4]
  ·right
   rw [Zg2 (by omega) (by omega),hz]
   refine ⟨rfl,rfl,rfl,.inr ⟨(Y2 e).take c1.toNat++S.drop c1.toNat,by simp [lb,hS];omega,?_⟩⟩
   have hS2:S=S.take c1.toNat++S.drop c1.toNat:=(List.take_append_drop _ _).symm
   have:Pr++S++([0]++R)=Pr++S.take c1.toNat++(S.drop c1.toNat++([0]++R)):=by
    rw [← List.append_assoc (Pr++S.take c1.toNat),List.append_assoc Pr (S.take c1.toNat),← hS2]
   show Ws (Pr++S++([0]++R)) _ _=_
   rw [this,Zdu (by omega) (by simp [lb,hS])]
   simp
 ·right
  rw [w1]
  exact ⟨rfl,rfl,rfl,.inl rfl⟩
theorem Zmm {k:Int} {X:List UInt8}:Y5 k (X++[0])=Zm:=by
 rw [Qq]
 split
 ·rfl
 ·rename_i h
  exfalso
  apply h
  right;right
  intro e
  have:=congrArg List.getLast? e
  simp [Xa] at this
theorem Zq3 {k:Int} {s:List UInt8} (h:(Y5 k s).n≠0):(Y5 k s).n % 2=k:=by
 rw [Qq] at *
 split at h
 ·exact absurd rfl h
 ·rename_i hc
  rw [if_neg hc]
  by_cases e:(Zc7 s).n % 2=k
  ·exact e
  ·exact absurd (.inr (.inl e)) hc
theorem deal_zap {b b':List UInt8} {d:Nat} (hl:216≤b.length) (hd:d<6) {Pr S R X:List UInt8} {st:Int} (hst:st=((Xc b d).n+1) % 2) (hb:b=Pr++S++R) (hb':b'=Pr++(X++[0])++R) (hP:Pr.length=(2*d+st.toNat)*18) (hS:S.length=18) (hX:X.length=17) :
  Zn b'=Zn b:=by
 have hX':(X++[0]).length=18:=by simp [hX]
 have hk:st=0∨st=1:=by omega
 have here:Xe b' (2*d+st.toNat)=X++[0]:=by rw [hb'];exact Znc _ _ _ _ hP hX'
 have els : ∀ i,i≠2*d+st.toNat→Xe b' i=Xe b i:=fun i hi=>by rw [hb,hb'];exact Znb _ _ _ _ _ _ hP hX' hS hi
 have q1:Xc b d=Uk (Uk Zm (Y5 0 (Xe b (2*d+0)))) (Y5 1 (Xe b (2*d+1))):=rfl
 have q2:Xc b' d=Uk (Uk Zm (Y5 0 (Xe b' (2*d+0)))) (Y5 1 (Xe b' (2*d+1))):=rfl
 have m1:(Xc b d).n=max (max 0 (Y5 0 (Xe b (2*d+0))).n) (Y5 1 (Xe b (2*d+1))).n:=by rw [q1,Zdf,Zdf];rfl
 have l0:=Zbi b (2*d+0) (by omega) hl
 have l1:=Zbi b (2*d+1) (by omega) hl
 have n0:=Zig 0 (Xe b (2*d+0)) (by omega)
 have n1:=Zig 1 (Xe b (2*d+1)) (by omega)
 have p0:=Zq3 (k:=0) (s:=Xe b (2*d+0))
 have p1:=Zq3 (k:=1) (s:=Xe b (2*d+1))
 have hz : ∀ e:Ent,e.n=0→Uk Zm e=Zm:=fun e h=>by unfold Uk;rw [if_neg (by show ¬ (0:Int)<e.n;omega)]
 have hd2:Xc b' d=Xc b d:=by
  rcases hk with rfl|rfl
  ·rw [q2,show Xe b' (2*d+0)=X++[0] from here,Zmm,els (2*d+1) (by simp),q1]
   generalize Y5 0 (Xe b (2*d+0))=u at *
   generalize Y5 1 (Xe b (2*d+1))=v at *
   have hzz:Uk Zm Zm=Zm:=by unfold Uk;rw [if_neg (by show ¬ (0:Int)<0;omega)]
   rw [hzz]
   have hun:(Uk Zm u).n=max 0 u.n:=by rw [Zdf];rfl
   generalize hw:Uk Zm u=w at *
   have hlt:w.n<v.n:=by
    by_cases hu0:u.n=0
    ·omega
    ·have:=p0 hu0
     omega
   unfold Uk
   rw [if_pos (by show (0:Int)<v.n;omega),if_pos hlt]
  ·rw [q2,show Xe b' (2*d+1)=X++[0] from here,Zmm,els (2*d+0) (by simp),q1]
   generalize Y5 0 (Xe b (2*d+0))=u at *
   generalize Y5 1 (Xe b (2*d+1))=v at *
   have hun:(Uk Zm u).n=max 0 u.n:=by rw [Zdf];rfl
   generalize Uk Zm u=w at *
   have hle:v.n≤w.n:=by
    by_cases hv0:v.n=0
    ·omega
    ·have:=p1 hv0
     omega
   unfold Uk
   rw [if_neg (by show ¬ w.n<(0:Int);omega),if_neg (by omega)]
 have hdo : ∀ i,i≠d→Xc b' i=Xc b i:=fun i hi=>by
  unfold Xc Vj Vj Vj
  rw [els (2*i+0) (by omega),els (2*i+1) (by omega)]
 unfold Zn
 apply List.map_congr_left
 intro i hi
 by_cases e:i=d
 ·subst e;exact hd2
 ·exact hdo i e
structure JI (m:Pl) (j:Jn):Prop where
 lo:216≤m.b.length
 hi:m.b.length≤1000000
 c0 : -1≤m.cut
 c1:m.cut≤9223372036854775807
 off:j.dead=m.off
 l:j.l=Zn m.b
theorem JI.pl {m:Pl} {j:Jn} (h:JI m j):PlOk m:=⟨h.hi,h.c0,h.c1⟩
theorem JI.jn {m:Pl} {j:Jn} (h:JI m j):JnOk j:=by
 have:=Zww h.lo
 exact ⟨by rw [h.l];exact this.len,by rw [h.l];exact this.n0,by rw [h.l];exact this.n1⟩
theorem Zf1 {m:Pl} {j:Jn} (h:JI m j) (deal:Int) (s:St):JI (Xt m j deal s).1 (Xt m j deal s).2.1∧(Xt m j deal s).1.b.length=m.b.length ∧
    (((Xt m j deal s).2.1.l=j.l∧(((Xt m j deal s).2.2=some 6∧(Xt m j deal s).1.off=true)∨(Xt m j deal s).2.2=some 2∧Uf deal s∨(Xt m j deal s).2.2=some 5∧4294967296≤(j.l.getD deal.toNat Zm).n+1)) ∨
     (¬ Uf deal s∧(Xt m j deal s).2.2=none∧m.off=false∧(Xt m j deal s).1.off=false∧(((j.l.getD deal.toNat Zm).s=s∧(Xt m j deal s).2.1.l=j.l∧(Xt m j deal s).1=m) ∨
        (j.l.getD deal.toNat Zm).s≠s∧(Xt m j deal s).2.1.l=j.l.set deal.toNat ⟨(j.l.getD deal.toNat Zm).n+1,s⟩))):=by
  obtain ⟨b,off,cut⟩:=m
  obtain ⟨jl,dead⟩:=j
  have hJ:=h
  obtain ⟨h1,h2,h3,h4,h5,h6⟩:=h
  simp only at h1 h2 h3 h4 h5 h6
  subst h5;subst h6
  unfold Xt
  by_cases hdd:dead=true
  · subst hdd
    simp only [if_true]
    exact ⟨hJ,by trivial,.inl ⟨by trivial,.inl ⟨by trivial,by trivial⟩⟩⟩
  have hdd':dead=false:=by simpa using hdd
  subst hdd'
  simp only [Bool.false_eq_true,if_false]
  by_cases hb:Uf deal s
  · rw [if_pos hb]
    exact ⟨hJ,by trivial,.inl ⟨by trivial,.inr (.inl ⟨by trivial,hb⟩)⟩⟩
  rw [if_neg hb]
  have hb2:=hb
  unfold Uf at hb2
  obtain ⟨d,rfl⟩:=Int.eq_ofNat_of_zero_le (show 0≤deal by omega)
  have hd:d<6:=by omega
  simp only [Int.toNat_natCast,Zmy hd]
  by_cases he:(Xc b d).s=s
  · rw [if_pos he]
    exact ⟨hJ,rfl,.inr ⟨hb,by trivial,by trivial,by trivial,.inl ⟨he,by trivial,by trivial⟩⟩⟩
  rw [if_neg he]
  by_cases hf:4294967296≤(Xc b d).n+1
  · rw [if_pos hf]
    exact ⟨hJ,rfl,.inl ⟨rfl,.inr (.inr ⟨by trivial,hf⟩)⟩⟩
  rw [if_neg hf]
  have hn:=Zwx hd h1 2 (by omega)
  have hn':0≤(Xc b d).n∧(Xc b d).n<4294967296:=hn
  obtain ⟨Pr,S,c,R,e1,e2,e3,hjw⟩:=jw_cut (b:=b) (d:=d) (ct:=cut) (e:=⟨(Xc b d).n+1,s⟩) h3 h1 hd (by simp only;omega)
  have hpl:=jwM_ok hJ.pl d ⟨(Xc b d).n+1,s⟩
  generalize Zaa ⟨b,false,cut⟩ d ⟨(Xc b d).n+1,s⟩=r at *
  obtain ⟨⟨b',off',cut'⟩,er⟩:=r
  simp only [JW] at hjw
  rcases hjw with ⟨rfl,rfl,rfl,hc⟩|⟨rfl,rfl,rfl,hc⟩
  · have hok:EntOk ⟨(Xc b d).n+1,s⟩:=⟨by simp only;omega,by simp only;omega,by simp only;omega,by simp only;omega,by simp only;omega,by simp only;omega,by simp only;omega,by simp only;omega⟩
    have hnew:=deal_new (b':=Pr++(Y2 ⟨(Xc b d).n+1,s⟩++Xa)++R) h1 hd hok rfl e1 rfl e2 (by simp [e3])
    have hL:(Pr++(Y2 ⟨(Xc b d).n+1,s⟩++Xa)++R).length=b.length:=by rw [e1];simp [Q9,Xa,e3]
    refine ⟨⟨by rw [hL];exact h1,by rw [hL];exact h2,hc,hpl.hi,rfl,hnew.symm⟩,hL,.inr ⟨hb,by trivial,by trivial,by trivial,.inr ⟨he,by trivial⟩⟩⟩
  · have hopen:Zn b'=Zn b:=by
      rcases hc with hc|⟨X,hX,hc⟩
      · rw [hc]
      · exact deal_zap h1 hd rfl e1 hc e2 (by simp [e3]) hX
    have hL:b'.length=b.length:=by
      rcases hc with hc|⟨X,hX,hc⟩
      · rw [hc]
      · rw [hc,e1];simp [hX,e3]
    refine ⟨⟨by rw [hL];exact h1,by rw [hL];exact h2,by simp,by simp,rfl,hopen.symm⟩,hL,.inl ⟨by trivial,.inl ⟨by trivial,by trivial⟩⟩⟩
theorem JI.cut {m:Pl} {j:Jn} (h:JI m j) {n:Int} (h0:0≤n) (h1:n≤9223372036854775807):JI { m with cut:=n } j:=⟨h.lo,h.hi,by simp only;omega,h1,h.off,h.l⟩
theorem JI.boot {m:Pl} {j:Jn} (h:JI m j):JI { m with off:=false,cut := -1 } ⟨Zn m.b,false⟩:=⟨h.lo,h.hi,by simp,by simp,rfl,rfl⟩
end Go.HL
end

/-! StD -/
section
namespace Go.HL
open Go Go.Proofs
def Zgy (s:St):Prop:=0≤s.ph∧s.ph≤5∧0≤s.att∧s.att≤s.pr∧s.pr≤1048576
def Zpj (a b:St):Prop:=a.pr≤b.pr∧a.att≤b.att∧Zum a.ph b.ph=true
theorem Ut {a:St} (h:Zgy a):Zpj a a:=by
 obtain ⟨h1,h2,-⟩:=h
 exact ⟨Int.le_refl _,Int.le_refl _,decide_eq_true (by omega)⟩
def Yq (j:Jn) (d:Nat):St:=(j.l.getD d Zm).s
theorem afterS_pos {p:Int}:Vm p≠0↔p=4∨p=5:=by unfold Vm;split<;>(try split)<;>omega
theorem Zpm {ref:Int→Bool} {f:Fr} {st:St} (h:Zgy st) (hf : ¬ X5 f):Zgy (Yj ref f st).1∧Zpj st (Yj ref f st).1:=by
 obtain ⟨h1,h2,h3,h4,h5⟩:=h
 unfold X5 at hf
 unfold Yj
 split
 ·unfold Zxl
  split
  ·split
   ·exact ⟨⟨by simp,by simp,h3,h4,h5⟩,by simp,by simp,decide_eq_true (by simp only;omega)⟩
   ·exact ⟨⟨by simp,by simp,h3,h4,h5⟩,by simp,by simp,decide_eq_true (by simp only;omega)⟩
  ·exact ⟨⟨h1,h2,h3,h4,h5⟩,Ut ⟨h1,h2,h3,h4,h5⟩⟩
 split
 ·have e1:st.pr≤max st.pr f.att:=Int.le_max_left _ _
  have e2:max st.pr f.att≤1048576:=by omega
  exact ⟨⟨h1,h2,h3,Int.le_trans h4 e1,e2⟩,e1,Int.le_refl _,decide_eq_true (by show _∧(st.ph=st.ph∨_);exact ⟨⟨h1,h2,h1,h2⟩,.inl rfl⟩)⟩
 split
 ·split
  ·exact ⟨⟨h1,h2,h3,h4,h5⟩,Ut ⟨h1,h2,h3,h4,h5⟩⟩
  ·rename_i ha
   have ha':=afterS_pos.1 ha
   split
   ·rename_i ho
    have ho':st.ph≠2∧st.ph≠3:=by simpa [Zhi] using ho.1
    exact ⟨⟨by simp only;omega,by simp only;omega,by simp only;omega,by simp,by simp only;omega⟩,by simp only;omega,by simp only;omega,decide_eq_true (by simp only;omega)⟩
   ·exact ⟨⟨h1,h2,h3,h4,h5⟩,Ut ⟨h1,h2,h3,h4,h5⟩⟩
 split
 ·split
  ·rename_i ho
   have ho':st.ph≠2∧st.ph≠3:=by simpa [Zhi] using ho.1
   exact ⟨⟨by simp only;omega,by simp only;omega,h3,h4,h5⟩,by simp,by simp,decide_eq_true (by simp only;omega)⟩
  ·exact ⟨⟨h1,h2,h3,h4,h5⟩,Ut ⟨h1,h2,h3,h4,h5⟩⟩
 ·exact ⟨⟨h1,h2,h3,h4,h5⟩,Ut ⟨h1,h2,h3,h4,h5⟩⟩
structure SI (m:Pl) (j:Jn):Prop where
 ji:JI m j
 st : ∀ d,d<6→Zgy (Yq j d)
theorem SI.boot {m:Pl} {j:Jn} (h:SI m j):SI { m with off:=false,cut := -1 } ⟨Zn m.b,false⟩:=⟨h.ji.boot,fun d hd=>by have:=h.st d hd;unfold Yq at *;rw [h.ji.l] at this;exact this⟩
theorem SI.cut {m:Pl} {j:Jn} (h:SI m j) {n:Int} (h0:0≤n) (h1:n≤9223372036854775807):SI { m with cut:=n } j:=⟨h.ji.cut h0 h1,h.st⟩
theorem Zdc {id:Int} {ref:Int→Bool} {m:Pl} {j:Jn} (h:SI m j) (f:Fr):SI (Zs id ref m j f).1 (Zs id ref m j f).2.1∧(Zs id ref m j f).1.b.length=m.b.length∧(∀ d,d<6→Zpj (Yq j d) (Yq (Zs id ref m j f).2.1 d)) ∧
  (((Zs id ref m j f).2.2.1=[])∨(¬ X5 f∧f.to=id∧(Zs id ref m j f).2.2.2=none∧(Yj ref f (Yq j f.dl.toNat)).2.1≠0∧Yq (Zs id ref m j f).2.1 f.dl.toNat=(Yj ref f (Yq j f.dl.toNat)).1 ∧
   (∀ d,d<6→d≠f.dl.toNat→Yq (Zs id ref m j f).2.1 d=Yq j d) ∧
   (Zs id ref m j f).2.2.1=[⟨id,f.fr,f.dl,(Yj ref f (Yq j f.dl.toNat)).2.1,f.att,(Yj ref f (Yq j f.dl.toNat)).2.2,(Yj ref f (Yq j f.dl.toNat)).1⟩])):=by
 unfold Zs
 have same : ∀ d,d<6→Zpj (Yq j d) (Yq j d):=fun d hd=>Ut (h.st d hd)
 by_cases hb:X5 f
 ·simp only [if_pos hb]
  exact ⟨h,by trivial,same,.inl (by trivial)⟩
 simp only [if_neg hb]
 by_cases hto:f.to=id
 ·simp only [ne_eq,hto,not_true_eq_false,if_false]
  have hb2:=hb
  unfold X5 at hb2
  obtain ⟨d,hd⟩:=Int.eq_ofNat_of_zero_le (show 0≤f.dl by omega)
  have hd6:d<6:=by omega
  rw [hd]
  simp only [Int.toNat_natCast]
  show _∧_∧_∧_
  have ht:=Zpm (ref:=ref) (h.st d hd6) hb
  change Zgy (Yj ref f (j.l.getD d Zm).s).1∧Zpj (Yq j d) (Yj ref f (j.l.getD d Zm).s).1 at ht
  have est:Yq j d=(j.l.getD d Zm).s:=rfl
  rw [est]
  generalize htr:Yj ref f (j.l.getD d Zm).s=tr at *
  have hp:=Zf1 h.ji d tr.1
  generalize Xt m j d tr.1=r at *
  obtain ⟨m',j',er⟩:=r
  simp only at hp ⊢
  obtain ⟨hJ,hL,hp⟩:=hp
  rcases hp with ⟨hl,he⟩|⟨hnb,he,ho,ho',hp⟩
  ·have hsame : ∀ q,Yq j' q=Yq j q:=fun q=>by unfold Yq;rw [hl]
   have hS:SI m' j':=⟨hJ,fun q hq=>by rw [hsame];exact h.st q hq⟩
   have he2 : ∃ x,er=some x:=by
    rcases he with ⟨he,-⟩|⟨he,-⟩|⟨he,-⟩<;>exact ⟨_,he⟩
   obtain ⟨x,rfl⟩:=he2
   exact ⟨hS,hL,fun q hq=>by rw [hsame];exact same q hq,.inl rfl⟩
  ·subst he
   simp only [Int.toNat_natCast] at hp
   have hlen:j.l.length=6:=h.ji.jn.len
   have hst':Yq j' d=tr.1 ∧ ∀ q,q≠d→Yq j' q=Yq j q:=by
    rcases hp with ⟨h1,h2,-⟩|⟨h1,h2⟩
    ·refine ⟨by unfold Yq;rw [h2,h1],fun q _=>by unfold Yq;rw [h2]⟩
    ·refine ⟨by unfold Yq;rw [h2];simp [List.getD,hlen,hd6],fun q hq=>by unfold Yq;rw [h2];simp [List.getD,List.getElem?_set,Ne.symm hq]⟩
   have hS:SI m' j':=⟨hJ,fun q hq=>by
    by_cases e:q=d
    ·rw [e,hst'.1];exact ht.1
    ·rw [hst'.2 q e];exact h.st q hq⟩
   refine ⟨hS,hL,fun q hq=>?_,?_⟩
   ·by_cases e:q=d
    ·rw [e,hst'.1];exact ht.2
    ·rw [hst'.2 q e];exact same q hq
   ·by_cases hk:tr.2.1=0
    ·exact .inl (if_pos hk)
    ·exact .inr ⟨hb,by trivial,rfl,hk,hst'.1,fun q _ hq=>hst'.2 q hq,if_neg hk⟩
 ·simp only [ne_eq,hto,not_false_eq_true,if_true]
  exact ⟨h,by trivial,same,.inl (by trivial)⟩
end Go.HL
end

/-! TabB -/
section
namespace Go.HL
open Go Go.Proofs
set_option maxHeartbeats 2000000 attribute [local irreducible] HW HO HQ HD HC QOp Has Upd Zt Gets Z8 Z0 Zo Xm Zz Zj Xp Zy

theorem Zvi (s:St) (b:Nat) (p:Int) (L:Zb) {F:Nat} {fr:Nat × Nat} (hb:Has L b (.cells ⟨[iv p]⟩ F fr)) :
  HC Tryz.prog 220 [.agg ⟨sc s⟩,pt b 0] L (fun v L'=>v = .bool (decide (s.ph=p))∧L'=L):=by
 refine Za (fun _ _=>Tryz.call220 _ _) Tryz.func220 rfl Tryz.ntmps220 (Nat.le_of_ble_eq_true rfl) ?_;simp only [Zd,Nat.reduceAdd]
 repeat' (first|refine uN ?_|(refine uB ?_;intro b)|fail)
 (refine Xb rfl rfl ?_ ⟨?_,rfl⟩;(next=>(repeat (first|exact List.Sublist.refl _|apply List.Sublist.cons))))
 rfl
theorem Zn9 {xs:List St} {f:St→Bool} {j:Int} (h0:0≤j) (hlt:j<xs.length) (hn:(xs.take j.toNat).any f=false) (h:f (xs[j.toNat]'(by omega))=true):xs.any f=true∧(xs.findIdx f:Int)=j:=by
 have hj:j.toNat<xs.length:=by omega
 refine ⟨List.any_eq_true.2 ⟨_,List.getElem_mem hj,h⟩,?_⟩
 have:xs.findIdx f=j.toNat:=by
  rw [List.findIdx_eq hj]
  refine ⟨h,fun k hk=>?_⟩
  rw [List.any_eq_false] at hn
  have hk':k<(xs.take j.toNat).length:=by simp;omega
  have:=hn _ (List.getElem_mem hk')
  rw [List.getElem_take] at this
  simpa using this
 omega
theorem Zq6 (a:Option Addr) (cap:Nat) (xs:List St) (F:Nat) (cs:List Value) (f:St→Bool) (L:Zb) (hR:Rd sc 3 L a xs) (hl:xs.length≤1000000)
  (hf : ∀ s,HC Tryz.prog F (.agg ⟨sc s⟩::cs) L (fun v L'=>v = .bool (f s)∧L'=L)) :
  HC Tryz.prog 237 [.slice a xs.length cap,.func (.func F) #[] ⟨cs⟩] L (fun v L'=>v=iv (if xs.any f then (xs.findIdx f:Int) else -1)∧L'=L):=by
 refine Za (fun _ _=>Tryz.call237 _ _) Tryz.func237 rfl Tryz.ntmps237 (Nat.le_of_ble_eq_true rfl) ?_;simp only [Zd,Nat.reduceAdd]
 repeat' (first|refine uN ?_|(refine uP ?_ ?_<;>(intro h;((try simp only [zs,zq,reduceCtorEq] at h);try exact zx)))|fail)
 refine Zp (σ:=Int) (fun j=>[(0,.slice a xs.length cap),(1,.func (.func F) #[] ⟨cs⟩),(6,.slice a xs.length cap),(7,iv xs.length),(8,iv j)]) (fun _=>L) (fun j=>0≤j∧j≤xs.length∧(xs.take j.toNat).any f=false) (fun j=>(xs.length-j).toNat) 0 uS (List.Sublist.refl _) ⟨by omega,by omega,by simp⟩ ?_
 rintro j ⟨h0,h1,h2⟩
 by_cases hlt:j<xs.length
 ·obtain ⟨b,i,l,E,fr,rfl,hb,hg⟩:=hR.at h0 hlt
  repeat' (first|refine uN ?_|refine uC (hf _) ?_|(refine uP ?_ ?_<;>(intro h;((try simp only [zs,zq,reduceCtorEq] at h);try exact zx)))|fail)
  ·(refine Xb rfl rfl ?_ ⟨?_,rfl⟩;(next=>(repeat (first|exact List.Sublist.refl _|apply List.Sublist.cons))))
   obtain ⟨e1,e2⟩:=Zn9 h0 hlt h2 (by assumption)
   rw [if_pos e1,e2]
  ·exact Zq (j+1) uS (List.Sublist.refl _) ⟨by omega,by omega,by rw [Uu h0 hlt,List.any_append,h2];simp [*]⟩ (by omega)
 ·repeat' (first|refine uN ?_|(refine uP ?_ ?_<;>(intro h;((try simp only [zs,zq,reduceCtorEq] at h);try exact zx)))|fail)
  (refine Xb rfl rfl ?_ ⟨?_,rfl⟩;(next=>(repeat (first|exact List.Sublist.refl _|apply List.Sublist.cons))))
  rw [Qy hlt] at h2
  rw [if_neg (by simp [h2])]
theorem Zja (a:Option Addr) (cap:Nat) (xs:List St) (F:Nat) (cs:List Value) (f:St→Bool) (L:Zb) (hR:Rd sc 3 L a xs) (hl:xs.length≤1000000)
  (hf : ∀ s,HC Tryz.prog F (.agg ⟨sc s⟩::cs) L (fun v L'=>v = .bool (f s)∧L'=L)) :
  HC Tryz.prog 219 [.slice a xs.length cap,.func (.func F) #[] ⟨cs⟩] L (fun v L'=>v = .bool (xs.any f)∧L'=L):=by
 refine Za (fun _ _=>Tryz.call219 _ _) Tryz.func219 rfl Tryz.ntmps219 (Nat.le_of_ble_eq_true rfl) ?_;simp only [Zd,Nat.reduceAdd]
 repeat' (first|refine uN ?_|refine uC (Zq6 _ _ _ _ _ f _ hR hl hf) ?_|fail)
 (refine Xb rfl rfl ?_ ⟨?_,rfl⟩;(next=>(repeat (first|exact List.Sublist.refl _|apply List.Sublist.cons))))
 refine congrArg Value.bool ?_
 cases hx:xs.any f<;>simp
theorem Zmk (p:Int) (a:Option Addr) (cap:Nat) (xs:List St) (L:Zb) (b E:Nat) (fr:Nat × Nat) (hb:Has L b (.cells ⟨[.slice a xs.length cap]⟩ E fr)) (hR:Rd sc 3 L a xs) (hl:xs.length≤1000000) :
  HC Tryz.prog 218 [iv p,pt b 0] L (fun v L'=>v = .bool (Zbk xs p)∧L'=L):=by
 refine Za (fun _ _=>Tryz.call218 _ _) Tryz.func218 rfl Tryz.ntmps218 (Nat.le_of_ble_eq_true rfl) ?_;simp only [Zd,Nat.reduceAdd]
 repeat' (first|refine uN ?_|refine Wq (qC (Zja _ _ _ _ _ (fun s=>decide (s.ph=p)) _ (hR.cons _) hl (fun s=>Zvi s _ p _ Zh))) ?_|(refine uB ?_;intro b)|fail)
 (refine Xb rfl rfl ?_ ⟨?_,rfl⟩;(next=>(repeat (first|exact List.Sublist.refl _|apply List.Sublist.cons))))
 rfl
def Znh (m s:St):St:=if prep s then (if m.ph=0∨m.att<s.att∨(s.att=m.att∧s.ph=4) then s else m) else m
def Q4 (xs:List St):St:=xs.foldl Znh ⟨0,0,0⟩
theorem Zi5 (xs:List St) (s:St):Q4 (xs++[s])=Znh (Q4 xs) s:=by simp [Q4]
def BI (xs:List St) (m:St) (b:Int × Bool):Prop:=
 (m=⟨0,0,0⟩∧b=(0,true) ∧ ∀ s∈xs,prep s=false) ∨
 (b=(m.att,false)∧(m.ph=4∧(∃ s∈xs,s.ph=4∧s.att=m.att)∨m.ph=5 ∧ ∀ s∈xs,¬ (s.ph=4∧s.att=m.att)) ∧ ∀ s∈xs,prep s=true→s.att≤m.att)
theorem bi_step (xs:List St) (m s:St) (b:Int × Bool) (h:BI xs m b):BI (xs++[s]) (Znh m s) (Ul [s] b.1 b.2):=by
 unfold BI at *
 simp only [Ul,Znh,List.mem_append,List.mem_singleton]
 by_cases hp:prep s=true
 ·have hp':s.ph=4∨s.ph=5:=by simpa [prep] using hp
  rw [if_pos hp,if_pos hp]
  right
  rcases h with ⟨rfl,rfl,hall⟩|⟨rfl,hm,hle⟩
  ·simp only [Bool.true_or,if_true,true_or]
   refine ⟨trivial,?_,?_⟩
   ·rcases hp' with h4|h5
    ·exact .inl ⟨h4,s,.inr rfl,h4,rfl⟩
    ·refine .inr ⟨h5,fun x hx h=>?_⟩
     rcases hx with hx|rfl
     ·have:=hall x hx;simp [prep,h.1] at this
     ·omega
   ·intro x hx hpx
    rcases hx with hx|rfl
    ·rw [hall x hx] at hpx;cases hpx
    ·omega
  ·have hm0:m.ph≠0:=by rcases hm with h|h<;>omega
   simp only [Bool.false_or,decide_eq_true_eq]
   by_cases hlt:m.att<s.att
   ·rw [if_pos hlt,if_pos (.inr (.inl hlt))]
    refine ⟨rfl,?_,?_⟩
    ·rcases hp' with h4|h5
     ·exact .inl ⟨h4,s,.inr rfl,h4,rfl⟩
     ·refine .inr ⟨h5,fun x hx h=>?_⟩
      rcases hx with hx|rfl
      ·have:=hle x hx (by simp [prep,h.1]);omega
      ·omega
    ·intro x hx hpx
     rcases hx with hx|rfl
     ·have:=hle x hx hpx;omega
     ·omega
   ·rw [if_neg hlt]
    by_cases he:s.att=m.att∧s.ph=4
    ·rw [if_pos (.inr (.inr he))]
     refine ⟨by rw [he.1],.inl ⟨he.2,s,.inr rfl,he.2,rfl⟩,?_⟩
     intro x hx hpx
     rcases hx with hx|rfl
     ·have:=hle x hx hpx;omega
     ·omega
    ·rw [if_neg (by simp [hm0,hlt];omega)]
     refine ⟨rfl,?_,?_⟩
     ·rcases hm with ⟨h4,x,hx,hx2⟩|⟨h5,hno⟩
      ·exact .inl ⟨h4,x,.inl hx,hx2⟩
      ·refine .inr ⟨h5,fun x hx h=>?_⟩
       rcases hx with hx|rfl
       ·exact hno x hx h
       ·exact he ⟨h.2,h.1⟩
     ·intro x hx hpx
      rcases hx with hx|rfl
      ·exact hle x hx hpx
      ·omega
 ·have hp':prep s=false:=by simpa using hp
  have h4:s.ph≠4:=fun e=>by simp [prep,e] at hp
  rw [if_neg hp,if_neg hp]
  rcases h with ⟨rfl,rfl,hall⟩|⟨rfl,hm,hle⟩
  ·refine .inl ⟨rfl,rfl,fun x hx=>?_⟩
   rcases hx with hx|rfl
   ·exact hall x hx
   ·exact hp'
  ·refine .inr ⟨rfl,?_,fun x hx hpx=>?_⟩
   ·rcases hm with ⟨h4',x,hx,hx2⟩|⟨h5,hno⟩
    ·exact .inl ⟨h4',x,.inl hx,hx2⟩
    ·refine .inr ⟨h5,fun x hx h=>?_⟩
     rcases hx with hx|rfl
     ·exact hno x hx h
     ·exact h4 h.1
   ·rcases hx with hx|rfl
    ·exact hle x hx hpx
    ·rw [hp'] at hpx;cases hpx
theorem bi_all (xs:List St):BI xs (Q4 xs) (Ul xs 0 true):=by
 have key : ∀ ys:List St,BI ys.reverse (Q4 ys.reverse) (Ul ys.reverse 0 true):=by
  intro ys
  induction ys with
  | nil=>exact .inl ⟨rfl,rfl,by simp⟩
  | cons s ys ih =>
   rw [List.reverse_cons,Zi5,Uy]
   exact bi_step _ _ s _ ih
 simpa using key xs.reverse
theorem best_inv (xs:List St) :
  (Q4 xs=⟨0,0,0⟩∧(Ul xs 0 true)=(0,true)∧xs.all (fun s => !prep s)=true) ∨
  ((Q4 xs).ph=4∧Ul xs 0 true=((Q4 xs).att,false)∧xs.any (fun s=>decide (s.ph=4∧s.att=(Q4 xs).att))=true) ∨
  ((Q4 xs).ph=5∧Ul xs 0 true=((Q4 xs).att,false)∧xs.any (fun s=>decide (s.ph=4∧s.att=(Q4 xs).att))=false):=by
 rcases bi_all xs with ⟨h1,h2,h3⟩|⟨h1,h2|h2,h3⟩
 ·exact .inl ⟨h1,h2,by simpa using h3⟩
 ·refine .inr (.inl ⟨h2.1,h1,?_⟩)
  simp only [List.any_eq_true,decide_eq_true_eq]
  exact h2.2
 ·refine .inr (.inr ⟨h2.1,h1,?_⟩)
  rw [List.any_eq_false]
  intro x hx
  simpa using h2.2 x hx
theorem Zny (a:Option Addr) (cap:Nat) (xs:List St) (L:Zb) (hR:Rd sc 3 L a xs) (hl:xs.length≤1000000):HC Tryz.prog 197 [.slice a xs.length cap] L (fun v L'=>v = .tuple ⟨[iv (Yl xs).1,.bool (Yl xs).2]⟩∧L'=L):=by
 refine Za (fun _ _=>Tryz.call197 _ _) Tryz.func197 rfl Tryz.ntmps197 (Nat.le_of_ble_eq_true rfl) ?_;simp only [Zd,Nat.reduceAdd]
 repeat' (first|refine uN ?_|(refine uB ?_;intro b)|(refine uP ?_ ?_<;>(intro h;((try simp only [zs,zq,reduceCtorEq] at h);try exact zx)))|fail)
 rename_i b1
 refine Zp (σ:=Int) (fun j=>[(1,pt b1 0),(4,.func (.func 218) #[] ⟨[pt b1 0]⟩),(11,sl b 0 2 2),(12,iv 2),(13,iv j)]) (fun _=>[(b,.cells ⟨[iv 2,iv 3]⟩ 3)]::[(b1,.cells ⟨[.slice a xs.length cap]⟩ 87)]::L)
  (fun j=>0≤j∧j≤2∧(1≤j→Zbk xs 2=false)∧(2≤j→Zbk xs 3=false)) (fun j=>(2-j).toNat) 0 uS (List.Sublist.refl _) ⟨by omega,by omega,by omega,by omega⟩ ?_
 rintro j ⟨h0,h1,h2,h3⟩
 have hj:j=0∨j=1∨j=2:=by omega
 rcases hj with rfl|rfl|rfl
 ·repeat' (first|refine uN ?_|refine Wq (qC (Zmk _ _ _ _ _ _ _ _ (Zc Zh) ((hR.cons _).cons _) hl)) ?_|(refine uB ?_;intro b)|(refine uP ?_ ?_<;>(intro h;((try simp only [zs,zq,reduceCtorEq] at h);try exact zx)))|fail)
  ·(refine Wb rfl rfl rfl ?_ ⟨?_,rfl⟩;(next=>(repeat (first|exact List.Sublist.refl _|apply List.Sublist.cons))))
   simp [Yl, *]
  ·exact Zq 1 uS (List.Sublist.refl _) ⟨by omega,by omega,fun _=>by assumption,by omega⟩ (by decide)
 ·repeat' (first|refine uN ?_|refine Wq (qC (Zmk _ _ _ _ _ _ _ _ (Zc Zh) ((hR.cons _).cons _) hl)) ?_|(refine uB ?_;intro b)|(refine uP ?_ ?_<;>(intro h;((try simp only [zs,zq,reduceCtorEq] at h);try exact zx)))|fail)
  ·(refine Wb rfl rfl rfl ?_ ⟨?_,rfl⟩;(next=>(repeat (first|exact List.Sublist.refl _|apply List.Sublist.cons))))
   have e:=h2 (by omega)
   simp [Yl, *]
  ·exact Zq 2 uS (List.Sublist.refl _) ⟨by omega,by omega,fun _=>h2 (by omega),fun _=>by assumption⟩ (by decide)
 ·have e2:=h2 (by omega)
  have e3:=h3 (by omega)
  repeat' (first|refine uN ?_|(refine uB ?_;intro b)|(refine uP ?_ ?_<;>(intro h;((try simp only [zs,zq,reduceCtorEq] at h);try exact zx)))|fail)
  clear h0 h1 h2 h3
  refine Zp (σ:=Int × St) (fun s=>[(7,pt b 0),(22,.slice a xs.length cap),(23,iv xs.length),(24,iv s.1)]) (fun s=>[(b,.cells ⟨sc s.2⟩ 69)]::L)
   (fun s=>0≤s.1∧s.1≤xs.length∧Q4 (xs.take s.1.toNat)=s.2) (fun s=>(xs.length-s.1).toNat) (0,⟨0,0,0⟩) uS (by exact .cons_cons _ (.cons _ (.cons _ (.refl _)))) ⟨by simp,by simp,by simp [Q4]⟩ ?_
  rintro ⟨j,m⟩ ⟨j0,j1,hm⟩
  simp only at j0 j1 hm
  by_cases hlt:j<xs.length
  ·obtain ⟨bb,i,l,E,fr,rfl,hb,hg⟩:=hR.at j0 hlt
   have e:=Zi5 (xs.take j.toNat) (xs[j.toNat]'(by omega))
   rw [← Uu j0 hlt,hm] at e
   clear hm
   repeat' (first|refine uN ?_|(refine uB ?_;intro b)|(refine uP ?_ ?_<;>(intro h;((try simp only [zs,zq,reduceCtorEq] at h);try exact zx)))|fail)
   all_goals first
    | ((refine Zq (j+1,xs[j.toNat]'(by omega)) ?_ ?_ ?_ ?_;(next=>(repeat (first|exact trivial|refine ⟨rfl,?_⟩)));(next=>(repeat (first|exact List.Sublist.refl _|apply List.Sublist.cons))));(next=>refine ⟨?_,?_,?_⟩;(next=>show 0≤j+1;omega);(next=>show j+1≤(xs.length:Int);omega);(next=>show Q4 (List.take (j+1).toNat xs)=_;rw [e];simp [Znh,prep, *];done));(next=>show (xs.length-(j+1)).toNat<(xs.length-j).toNat;omega))
    | ((refine Zq (j+1,m) ?_ ?_ ?_ ?_;(next=>(repeat (first|exact trivial|refine ⟨rfl,?_⟩)));(next=>(repeat (first|exact List.Sublist.refl _|apply List.Sublist.cons))));(next=>refine ⟨?_,?_,?_⟩;(next=>show 0≤j+1;omega);(next=>show j+1≤(xs.length:Int);omega);(next=>show Q4 (List.take (j+1).toNat xs)=_;rw [e];simp [Znh,prep, *];done));(next=>show (xs.length-(j+1)).toNat<(xs.length-j).toNat;omega))
  ·rw [Qy hlt] at hm
   have hinv:=best_inv xs
   rw [hm] at hinv
   repeat' (first|refine uN ?_|(refine uB ?_;intro b)|(refine uP ?_ ?_<;>(intro h;((try simp only [zs,zq,reduceCtorEq] at h);try exact zx)))|fail)
   ·(refine Wb rfl rfl rfl ?_ ⟨?_,rfl⟩;(next=>(repeat (first|exact List.Sublist.refl _|apply List.Sublist.cons))))
    have e4:Yl xs=(5,false):=by
     unfold Yl
     rw [if_neg (by simp [*]),if_neg (by simp [*])]
     rcases hinv with ⟨rfl,h5,h6⟩|⟨h4,-,-⟩|⟨h4,-,-⟩
     ·rw [if_neg]
      simp only [List.any_eq_true,not_exists,not_and,decide_eq_true_eq]
      intro x hx h4
      have:=List.all_eq_true.1 h6 x hx
      simp [prep,h4] at this
     ·simp_all
     ·simp_all
    rw [e4]
   ·(refine Wb rfl rfl rfl ?_ ⟨?_,rfl⟩;(next=>(repeat (first|exact List.Sublist.refl _|apply List.Sublist.cons))))
    have e4:Yl xs=(m.ph,false):=by
     unfold Yl
     rw [if_neg (by simp [*]),if_neg (by simp [*])]
     rcases hinv with ⟨rfl,h5,h6⟩|⟨h4,h5,h6⟩|⟨h4,h5,h6⟩
     ·simp_all
     ·rw [h5,if_pos h6,h4]
     ·rw [h5,if_neg (by rw [h6];simp),h4]
    rw [e4]
end Go.HL
end

/-! WgA -/
section
namespace Go.HL
open Go Go.Proofs

def Q0 (n:Nat):Nat:=if n=0 then 0 else Nat.log2 n+1
theorem blen_le {n k:Nat}:Q0 n≤k↔n<2 ^ k:=by
 unfold Q0
 split
 ·rename_i h
  subst h
  simp [Nat.two_pow_pos]
 ·rename_i h
  rw [← Nat.log2_lt h]
  omega
theorem Zi6 {n k:Nat} (h:2 ^ k≤n):Q0 n=Q0 (n / 2 ^ k)+k:=by
 have key : ∀ j,Q0 n≤j↔Q0 (n / 2 ^ k)+k≤j:=fun j=>by
  constructor
  ·intro h1
   have h2:=blen_le.1 h1
   have h3:k<j:=by
    rcases Nat.lt_or_ge k j with h3|h3
    ·exact h3
    ·have:=Nat.pow_le_pow_right (n:=2) (by decide) h3
     omega
   have h4:Q0 (n / 2 ^ k)≤j-k:=blen_le.2 (by
    rw [Nat.div_lt_iff_lt_mul (Nat.two_pow_pos k),← Nat.pow_add,Nat.sub_add_cancel (by omega)]
    exact h2)
   omega
  ·intro h1
   have h4:Q0 (n / 2 ^ k)≤j-k:=by omega
   have h5:=blen_le.1 h4
   rw [Nat.div_lt_iff_lt_mul (Nat.two_pow_pos k),← Nat.pow_add,Nat.sub_add_cancel (by omega)] at h5
   exact blen_le.2 h5
 have h1:=(key (Q0 n)).1 (Nat.le_refl _)
 have h2:=(key (Q0 (n / 2 ^ k)+k)).2 (Nat.le_refl _)
 omega
theorem tab_ok {l:List UInt8} (h:((List.range 256).all fun i=>Nat.beq (l.getD i 0).toNat (Q0 i))=true) {i:Nat} (hi:i<256):(l.getD i 0).toNat=Q0 i:=
 Nat.eq_of_beq_eq_true (List.all_eq_true.1 h i (List.mem_range.2 hi))
theorem ho_len8 {P:Program} (S:Tab P) {n:Nat} {ops:List Oper} {Q:Exit→Z5→Zb→Prop} {rest:List Oper} {ρ:Z5} {L:Zb} {ty:TypeId} {pos:String} {af:Array Edge} {d t:Nat} {l:List UInt8} {k:IntKind} {j:Int} {ti:TyI} {y:Operand} {c:Value}
  (hc:c=bs l) (hy:ev ρ y=some (.int k j)) (ht:Yh S.ty t=some ti) (hk:Nat.beq ti.kind 3=true) (hn:Nat.blt d n=true) (hl:Nat.beq l.length 256=true) (htab:((List.range 256).all fun i=>Nat.beq (l.getD i 0).toNat (Q0 i))=true) (hj:0≤j∧j<256)
  (h : ∀ m:Nat,m=Q0 j.toNat→m≤8→HO P n ops Q rest ((d,.int .u8 (m:Int))::ρ) L):HO P n ops Q (⟨some d,.index t (.const c) y,ty,pos,af,none⟩::rest) ρ L:=by
 have h1:=h _ rfl (blen_le.2 (by omega))
 rw [← tab_ok htab (i:=j.toNat) (by omega)] at h1
 exact ho_go rfl hn (q_ixT S hc hy ht hk hl hj) h1
set_option maxHeartbeats 2000000 attribute [local irreducible] HW HO HQ HD HC QOp Has Upd Zt Gets Z8 Z0 Zo Xm Zz Zj Xp Zy
set_option maxRecDepth 100000 in
theorem Zrf (n:Nat) (hn:n<18446744073709551616) (L:Zb):HC Tryz.prog 241 [.int .u64 n] L (fun v L'=>v=iv (Q0 n)∧L'=L):=by
 refine Za (fun _ _=>Tryz.call241 _ _) Tryz.func241 rfl Tryz.ntmps241 (Nat.le_of_ble_eq_true rfl) ?_;simp only [Zd,Nat.reduceAdd]
 repeat' (first|refine uN ?_|(refine uP ?_ ?_<;>(intro h;((try simp only [zs,zq,reduceCtorEq] at h);try exact zx)))|fail)
 all_goals try simp only [Int.reduceToNat,Int.reducePow] at *
 all_goals (apply ho_len8 S;(case hc=>exact rfl);(case hy=>exact rfl);(case ht=>exact rfl);(case hk=>exact rfl);(case hn=>exact rfl);(case hl=>exact rfl);(case htab=>decide +kernel);(case hj=>omega);(case' h=>intro m hm hm8))
 all_goals repeat' (first|refine uN ?_|(refine uP ?_ ?_<;>(intro h;((try simp only [zs,zq,reduceCtorEq] at h);try exact zx)))|fail)
 all_goals (refine Xb rfl rfl ?_ ⟨?_,rfl⟩;(next=>(repeat (first|exact List.Sublist.refl _|apply List.Sublist.cons))))
 all_goals refine congrArg iv ?_
 all_goals (have e1 : ∀ x,4294967296≤x→Q0 x=Q0 (x / 4294967296)+32:=fun x hx=>Zi6 (k:=32) hx)
 all_goals (have e2 : ∀ x,65536≤x→Q0 x=Q0 (x / 65536)+16:=fun x hx=>Zi6 (k:=16) hx)
 all_goals (have e3 : ∀ x,256≤x→Q0 x=Q0 (x / 256)+8:=fun x hx=>Zi6 (k:=8) hx)
 all_goals first
  | (have g0:=e1 (n) (by omega);have g1:=e2 (n / 4294967296) (by omega);have g2:=e3 (n / 4294967296 / 65536) (by omega);have g9:((n:Int) / 4294967296 / 65536 / 256).toNat=n / 4294967296 / 65536 / 256:=(by omega);rw [g9] at hm;omega)
  | (have g0:=e1 (n) (by omega);have g1:=e2 (n / 4294967296) (by omega);have g9:((n:Int) / 4294967296 / 65536).toNat=n / 4294967296 / 65536:=(by omega);rw [g9] at hm;omega)
  | (have g0:=e1 (n) (by omega);have g1:=e3 (n / 4294967296) (by omega);have g9:((n:Int) / 4294967296 / 256).toNat=n / 4294967296 / 256:=(by omega);rw [g9] at hm;omega)
  | (have g0:=e1 (n) (by omega);have g9:((n:Int) / 4294967296).toNat=n / 4294967296:=(by omega);rw [g9] at hm;omega)
  | (have g0:=e2 (n) (by omega);have g1:=e3 (n / 65536) (by omega);have g9:((n:Int) / 65536 / 256).toNat=n / 65536 / 256:=(by omega);rw [g9] at hm;omega)
  | (have g0:=e2 (n) (by omega);have g9:((n:Int) / 65536).toNat=n / 65536:=(by omega);rw [g9] at hm;omega)
  | (have g0:=e3 (n) (by omega);have g9:((n:Int) / 256).toNat=n / 256:=(by omega);rw [g9] at hm;omega)
  | (have g9:((n:Int)).toNat=n:=(by omega);rw [g9] at hm;omega)
theorem Zyk (n:Nat) (hn:n<18446744073709551616) (L:Zb):HC Tryz.prog 236 [.int .u64 n] L (fun v L'=>v=iv (Q0 n)∧L'=L):=by
 refine Za (fun _ _=>Tryz.call236 _ _) Tryz.func236 rfl Tryz.ntmps236 (Nat.le_of_ble_eq_true rfl) ?_;simp only [Zd,Nat.reduceAdd]
 repeat' (first|refine uN ?_|refine uC (Zrf _ hn _) ?_|(refine uP ?_ ?_<;>(intro h;((try simp only [zs,zq,reduceCtorEq] at h);try exact zx)))|fail)
 all_goals (refine Xb rfl rfl ?_ ⟨?_,rfl⟩;(next=>(repeat (first|exact List.Sublist.refl _|apply List.Sublist.cons))))
 all_goals rfl
def mx:List Int→Int
 | []=>0
 | x::r=>r.foldl max x
theorem mx_snoc {l:List Int} {y:Int} (h:l≠[]):mx (l++[y])=max (mx l) y:=by
 cases l with
 | nil=>exact absurd rfl h
 | cons x r=>simp [mx]
theorem Zyq (a:Option Addr) (cap:Nat) (xs:List Int) (L:Zb) (hR:Rd ic 1 L a xs) (h1:1≤xs.length) (hl:xs.length≤1000000) :
  HC Tryz.prog 140 [.slice a xs.length cap] L (fun v L'=>v=iv (mx xs)∧L'=L):=by
 refine Za (fun _ _=>Tryz.call140 _ _) Tryz.func140 rfl Tryz.ntmps140 (Nat.le_of_ble_eq_true rfl) ?_;simp only [Zd,Nat.reduceAdd]
 obtain ⟨b,i,l,E,fr,rfl,hb,hg⟩:=hR.at1 (j:=0) (by omega) (by omega)
 repeat' (first|refine uN ?_|(refine uP ?_ ?_<;>(intro h;((try simp only [zs,zq,reduceCtorEq] at h);try exact zx)))|fail)
 refine Zp (σ:=Int × Int) (fun s=>[(0,.slice (some ⟨b,i,none⟩) xs.length cap),(3,iv s.2),(4,iv s.1)]) (fun _=>L) (fun s=>1≤s.1∧s.1≤xs.length∧mx (xs.take s.1.toNat)=s.2) (fun s=>(xs.length-s.1).toNat) (1,xs[Int.toNat 0]) uS (List.Sublist.refl _) ⟨by simp,by simp;omega,?_⟩ ?_
 ·cases xs with
  | nil=>simp at h1
  | cons x r=>rfl
 clear hb hg
 rintro ⟨j,m⟩ ⟨h0,h2,hm⟩
 simp only at h0 h2 hm
 by_cases hlt:j<xs.length
 ·obtain ⟨b',i',l',E',fr',e,hb',hg'⟩:=hR.at1 (j:=j) (by omega) hlt
  cases e
  repeat' (first|refine uN ?_|(refine uP ?_ ?_<;>(intro h;((try simp only [zs,zq,reduceCtorEq] at h);try exact zx)))|fail)
  refine Zq (j+1,_) uS (List.Sublist.refl _) ⟨by show 1≤j+1;omega,by show j+1≤(xs.length:Int);omega,?_⟩ (by show (xs.length-(j+1)).toNat<(xs.length-j).toNat;omega)
  show mx (xs.take (j+1).toNat)=_
  rw [Uu (by omega) hlt,mx_snoc (by intro e;have h5:(xs.take j.toNat).length=0:=(by rw [e];rfl);rw [List.length_take] at h5;omega),hm]
 ·repeat' (first|refine uN ?_|(refine uP ?_ ?_<;>(intro h;((try simp only [zs,zq,reduceCtorEq] at h);try exact zx)))|fail)
  (refine Xb rfl rfl ?_ ⟨?_,rfl⟩;(next=>(repeat (first|exact List.Sublist.refl _|apply List.Sublist.cons))))
  rw [Qy hlt] at hm
  rw [hm]
theorem Zxp (x:Int) (L:Zb):HC Tryz.prog 139 [iv x] L (fun v L'=>v = .bool (decide (x<0∨1000<x))∧L'=L):=by
 refine Za (fun _ _=>Tryz.call139 _ _) Tryz.func139 rfl Tryz.ntmps139 (Nat.le_of_ble_eq_true rfl) ?_;simp only [Zd,Nat.reduceAdd]
 repeat' (first|refine uN ?_|(refine uP ?_ ?_<;>(intro h;((try simp only [zs,zq,reduceCtorEq] at h);try exact zx)))|fail)
 all_goals (refine Xb rfl rfl ?_ ⟨?_,rfl⟩;(next=>(repeat (first|exact List.Sublist.refl _|apply List.Sublist.cons))))
 all_goals (refine congrArg Value.bool ?_;first|(refine Eq.symm (decide_eq_true ?_);omega)|(refine Eq.symm (decide_eq_false ?_);omega)|(refine decide_eq_decide.2 ?_;omega))
theorem Zln {α:Type} {xs:List α} {f:α→Bool} {j:Int} (h0:0≤j) (hlt:j<xs.length) (hn:(xs.take j.toNat).any f=false) (h:f (xs[j.toNat]'(by omega))=true):xs.any f=true∧(xs.findIdx f:Int)=j:=by
 have hj:j.toNat<xs.length:=by omega
 refine ⟨List.any_eq_true.2 ⟨_,List.getElem_mem hj,h⟩,?_⟩
 have:xs.findIdx f=j.toNat:=by
  rw [List.findIdx_eq hj]
  refine ⟨h,fun k hk=>?_⟩
  rw [List.any_eq_false] at hn
  have hk':k<(xs.take j.toNat).length:=by simp;omega
  have:=hn _ (List.getElem_mem hk')
  rw [List.getElem_take] at this
  simpa using this
 omega
theorem Zof (a:Option Addr) (cap:Nat) (xs:List Int) (F:Nat) (cs:List Value) (f:Int→Bool) (L:Zb) (hR:Rd ic 1 L a xs) (hl:xs.length≤1000000)
  (hf : ∀ s,HC Tryz.prog F (iv s::cs) L (fun v L'=>v = .bool (f s)∧L'=L)) :
  HC Tryz.prog 183 [.slice a xs.length cap,.func (.func F) #[] ⟨cs⟩] L (fun v L'=>v=iv (if xs.any f then (xs.findIdx f:Int) else -1)∧L'=L):=by
 refine Za (fun _ _=>Tryz.call183 _ _) Tryz.func183 rfl Tryz.ntmps183 (Nat.le_of_ble_eq_true rfl) ?_;simp only [Zd,Nat.reduceAdd]
 repeat' (first|refine uN ?_|(refine uP ?_ ?_<;>(intro h;((try simp only [zs,zq,reduceCtorEq] at h);try exact zx)))|fail)
 refine Zp (σ:=Int) (fun j=>[(0,.slice a xs.length cap),(1,.func (.func F) #[] ⟨cs⟩),(6,.slice a xs.length cap),(7,iv xs.length),(8,iv j)]) (fun _=>L) (fun j=>0≤j∧j≤xs.length∧(xs.take j.toNat).any f=false) (fun j=>(xs.length-j).toNat) 0 uS (List.Sublist.refl _) ⟨by omega,by omega,by simp⟩ ?_
 rintro j ⟨h0,h1,h2⟩
 by_cases hlt:j<xs.length
 ·obtain ⟨b,i,l,E,fr,rfl,hb,hg⟩:=hR.at1 h0 hlt
  repeat' (first|refine uN ?_|refine uC (hf _) ?_|(refine uP ?_ ?_<;>(intro h;((try simp only [zs,zq,reduceCtorEq] at h);try exact zx)))|fail)
  ·(refine Xb rfl rfl ?_ ⟨?_,rfl⟩;(next=>(repeat (first|exact List.Sublist.refl _|apply List.Sublist.cons))))
   obtain ⟨e1,e2⟩:=Zln h0 hlt h2 (by assumption)
   rw [if_pos e1,e2]
  ·exact Zq (j+1) uS (List.Sublist.refl _) ⟨by omega,by omega,by rw [Uu h0 hlt,List.any_append,h2];simp [*]⟩ (by omega)
 ·repeat' (first|refine uN ?_|(refine uP ?_ ?_<;>(intro h;((try simp only [zs,zq,reduceCtorEq] at h);try exact zx)))|fail)
  (refine Xb rfl rfl ?_ ⟨?_,rfl⟩;(next=>(repeat (first|exact List.Sublist.refl _|apply List.Sublist.cons))))
  rw [Qy hlt] at h2
  rw [if_neg (by simp [h2])]
theorem Zh4 (a:Option Addr) (cap:Nat) (xs:List Int) (F:Nat) (cs:List Value) (f:Int→Bool) (L:Zb) (hR:Rd ic 1 L a xs) (hl:xs.length≤1000000)
  (hf : ∀ s,HC Tryz.prog F (iv s::cs) L (fun v L'=>v = .bool (f s)∧L'=L)) :
  HC Tryz.prog 138 [.slice a xs.length cap,.func (.func F) #[] ⟨cs⟩] L (fun v L'=>v = .bool (xs.any f)∧L'=L):=by
 refine Za (fun _ _=>Tryz.call138 _ _) Tryz.func138 rfl Tryz.ntmps138 (Nat.le_of_ble_eq_true rfl) ?_;simp only [Zd,Nat.reduceAdd]
 repeat' (first|refine uN ?_|refine uC (Zof _ _ _ _ _ f _ hR hl hf) ?_|fail)
 (refine Xb rfl rfl ?_ ⟨?_,rfl⟩;(next=>(repeat (first|exact List.Sublist.refl _|apply List.Sublist.cons))))
 refine congrArg Value.bool ?_
 cases hx:xs.any f<;>simp
 done
def Znu (x:Int):Bool:=decide (x<0∨1000<x)
def Ym (ws:List Int):Option Nat:=if ws.length<1∨7<ws.length then some 3 else if ws.any Znu then some 2 else if mx ws=0 then some 4 else none
theorem Zcp (T:Nat) (E:Nat→Addr) (a:Option Addr) (cap:Nat) (xs:List Int) (L:Zb) (hG:Er T E [2,3,4] L) (hR:Rd ic 1 L a xs) (hl:xs.length≤1000000) :
  HC Tryz.prog 77 [.slice a xs.length cap] L (fun v L'=>v=eV T E (Ym xs)∧L'=L):=by
 refine Za (fun _ _=>Tryz.call77 _ _) Tryz.func77 rfl Tryz.ntmps77 (Nat.le_of_ble_eq_true rfl) ?_;simp only [Zd,Nat.reduceAdd]
 repeat' (first|refine uN ?_|refine Wq (qC (Zh4 _ _ _ _ _ Znu _ hR hl (fun s=>Zxp s _))) ?_|refine Wq (qC (Zyq _ _ _ _ hR (by omega) hl)) ?_|(refine uP ?_ ?_<;>(intro h;((try simp only [zs,zq,reduceCtorEq] at h);try exact zx)))|fail)
 all_goals (refine Xb rfl rfl ?_ ⟨?_,rfl⟩;(next=>(repeat (first|exact List.Sublist.refl _|apply List.Sublist.cons))))
 all_goals (unfold Ym)
 all_goals first
  | (rw [if_pos (by omega)];rfl)
  | (rw [if_neg (by omega),if_pos (by assumption)];rfl)
  | (rw [if_neg (by omega),if_neg (by simp [*]),if_pos (by assumption)];rfl)
  | (rw [if_neg (by omega),if_neg (by simp [*]),if_neg (by assumption)];rfl)
end Go.HL
end
