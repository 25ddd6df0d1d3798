/- Texts laid into one, without what the claim does not use. Conditions: none. -/
import Derived.Test.YtkookaogdkdegaaGreatDoorMSpE
import Derived.Below
set_option linter.unusedVariables false
set_option linter.unusedSimpArgs false
/-! RfW -/
section
namespace Go.HL
open Go Go.Proofs
def cdN':Option Nat→Int
 | none=>0
 | some c=>c
def Zbc:List Int→Int
 | []=>0
 | x::r=>x+Zbc r
theorem Zyh (l:List Int) (y:Int):Zbc (l++[y])=Zbc l+y:=by
 induction l with
 | nil=>simp [Zbc]
 | cons x r ih=>simp only [List.cons_append,Zbc,ih];omega
theorem Zwl : ∀ (l:List Int),(∀ x∈l,0≤x∧x≤1000)→0≤Zbc l∧Zbc l≤1000*l.length
 | [],_=>by simp [Zbc]
 | x::r,h=>by
  have h1:=Zwl r (fun y hy=>h y (by simp [hy]))
  have h2:=h x (by simp)
  simp only [Zbc,List.length_cons];omega
theorem Zmo : ∀ (l:List Int),(∀ x∈l,0≤x)→(Zbc l=0 ↔ ∀ x∈l,x=0)
 | [],_=>by simp [Zbc]
 | x::r,h=>by
  have h1:=Zmo r (fun y hy=>h y (by simp [hy]))
  have h2:=h x (by simp)
  have h3:0≤Zbc r:=by
   have : ∀ (l:List Int),(∀ x∈l,0≤x)→0≤Zbc l:=by
    intro l
    induction l with
    | nil=>intro _;simp [Zbc]
    | cons y l ih=>intro hl;have:=ih (fun z hz=>hl z (by simp [hz]));have:=hl y (by simp);simp only [Zbc];omega
   exact this r (fun y hy=>h y (by simp [hy]))
  simp only [Zbc,List.forall_mem_cons,← h1]
  omega
theorem mx_ge : ∀ (l:List Int) (x:Int),x∈l→x≤mx l:=by
 intro l
 have key : ∀ (r:List Int) (m:Int),m≤r.foldl max m ∧ ∀ y∈r,y≤r.foldl max m:=by
  intro r
  induction r with
  | nil=>intro m;simp
  | cons z r ih =>
   intro m
   obtain ⟨h1,h2⟩:=ih (max m z)
   simp only [List.foldl_cons,List.mem_cons]
   refine ⟨by omega,fun y hy=>?_⟩
   rcases hy with rfl|hy
   ·omega
   ·exact h2 y hy
 cases l with
 | nil=>intro x hx;cases hx
 | cons z r =>
  intro x hx
  obtain ⟨h1,h2⟩:=key r z
  simp only [List.mem_cons] at hx
  rcases hx with rfl|hx
  ·exact h1
  ·exact h2 x hx
theorem mx_zero {l:List Int} (h:l≠[]) (h0 : ∀ x∈l,0≤x):mx l=0↔Zbc l=0:=by
 rw [Zmo l h0]
 constructor
 ·intro e x hx
  have:=mx_ge l x hx
  have:=h0 x hx
  omega
 ·intro e
  exact e _ (mx_mem h)
theorem bit_div (n k:Nat):((n:Int) / 2 ^ k % 2=1)↔n / 2 ^ k % 2=1:=by
 have:((n:Int) / 2 ^ k)=((n / 2 ^ k:Nat):Int):=by simp
 rw [this];omega
set_option maxHeartbeats 2000000 attribute [local irreducible] HW HO HQ HD HC QOp Has Upd Zt Gets Z8 Z0 Zo Xm Zz Zj Xp Zy
theorem Ze8 (a:Option Addr) (cap:Nat) (xs:List Int) (L:Zb) (hR:Rd ic 1 L a xs):HC Tryz.prog 6 [.slice a xs.length cap] L (fun v L'=>v=iv (cdN' (Ym xs))∧L'=L):=by
 refine Za (fun _ _=>Tryz.call6 _ _) Tryz.func6 rfl Tryz.ntmps6 (Nat.le_of_ble_eq_true rfl) ?_;simp only [Zd,Nat.reduceAdd]
 repeat' (first|refine uN ?_|(refine uP ?_ ?_<;>(intro h;((try simp only [zs,zq,reduceCtorEq] at h);try exact zx)))|fail)
 ·exact Z9 (LS.refl _) ⟨by unfold Ym;rw [if_pos (by omega)],rfl⟩
 ·exact Z9 (LS.refl _) ⟨by unfold Ym;rw [if_pos (by omega)],rfl⟩
 refine Zp (σ:=Nat × Int) (fun q=>[(0,.slice a xs.length cap),(3,iv q.2),(4,iv q.1)]) (fun _=>L) (fun q=>q.1≤xs.length∧Zbc (xs.take q.1)=q.2 ∧ ∀ x∈xs.take q.1,0≤x∧x≤1000) (fun q=>xs.length-q.1) (0,0) uS (List.Sublist.refl _) ⟨by simp,by simp [Zbc],by simp⟩ ?_
 rintro ⟨i,s⟩ ⟨hi,hs,hx⟩
 simp only at hi hs hx ⊢
 have hlen : ¬ (xs.length<1∨7<xs.length):=by omega
 have hb:=Zwl _ hx
 rw [hs,List.length_take] at hb
 by_cases hlt:i<xs.length
 ·obtain ⟨b,ia,l,E,fr,rfl,hb',hg'⟩:=hR.at1 (j:=(i:Int)) (by omega) (by omega)
  have hbad:Znu xs[i]=true→xs.any Znu=true:=fun h=>List.any_eq_true.2 ⟨_,List.getElem_mem hlt,h⟩
  have hsn:Zbc (xs.take (i+1))=s+xs[i]:=by rw [List.take_succ_eq_append_getElem hlt,Zyh,hs]
  have he:xs[(i:Int).toNat]'(by omega)=xs[i]:=rfl
  rw [he] at hg'
  generalize hxi:xs[i]=x at *
  repeat' (first|refine uN ?_|(refine uP ?_ ?_<;>(intro h;((try simp only [zs,zq,reduceCtorEq] at h);try exact zx)))|fail)
  ·exact Z9 (LS.refl _) ⟨by unfold Ym;rw [if_neg hlen,if_pos (hbad (by simp [Znu];omega))],rfl⟩
  ·exact Z9 (LS.refl _) ⟨by unfold Ym;rw [if_neg hlen,if_pos (hbad (by simp [Znu];omega))],rfl⟩
  ·refine Zq (i+1,s+x) uS (List.Sublist.refl _) ⟨by simp only;omega,hsn,?_⟩ (by simp only;omega)
   simp only
   rw [List.take_succ_eq_append_getElem hlt,hxi]
   intro y hy
   simp only [List.mem_append,List.mem_singleton] at hy
   rcases hy with hy|rfl
   ·exact hx y hy
   ·omega
 ·have e:xs.take i=xs:=List.take_of_length_le (by omega)
  rw [e] at hs hx
  have hne:xs≠[]:=fun e=>hlen (by simp [e])
  have hz:=mx_zero hne (fun x h=>(hx x h).1)
  rw [hs] at hz
  have hnb : ¬ xs.any Znu=true:=by
   simp only [Bool.not_eq_true,List.any_eq_false,Znu,decide_eq_true_eq]
   intro x h
   have:=hx x h
   omega
  repeat' (first|refine uN ?_|(refine uP ?_ ?_<;>(intro h;((try simp only [zs,zq,reduceCtorEq] at h);try exact zx)))|fail)
  ·exact Z9 (LS.refl _) ⟨by unfold Ym;rw [if_neg hlen,if_neg hnb,if_pos (hz.2 h)],rfl⟩
  ·exact Z9 (LS.refl _) ⟨by unfold Ym;rw [if_neg hlen,if_neg hnb,if_neg (fun e=>h (hz.1 e))],rfl⟩
theorem Zu4 (n k:Nat) (hk:k≤30) (hn:(n:Int)≤9223372036854775807) (L:Zb):HC Tryz.prog 172 [iv n,iv k] L (fun v L'=>v = .bool (decide (n / 2 ^ k % 2=1))∧L'=L):=by
 have hp:=Zkd hk
 have hq:0≤(n:Int) / 2 ^ k∧(n:Int) / 2 ^ k≤9223372036854775807:=by
  have:=Znw n k hn
  simp only [Zck] at this
  omega
 refine Za (fun _ _=>Tryz.call172 _ _) Tryz.func172 rfl Tryz.ntmps172 (Nat.le_of_ble_eq_true rfl) ?_;simp only [Zd,Nat.reduceAdd]
 repeat' (first|refine uN ?_|refine uC (Zbm k hk _) ?_|fail)
 refine Z9 (LS.refl _) ⟨congrArg Value.bool (decide_eq_decide.2 (bit_div n k)),rfl⟩
theorem Zkj (a:Option Addr) (cap:Nat) (xs:List Int) (n:Nat) (L:Zb) (hR:Rd ic 1 L a xs) (h7:xs.length≤7) (h3 : ∀ x∈xs,0≤x∧x≤1000) (hn:(n:Int)≤9223372036854775807):HC Tryz.prog 126 [.slice a xs.length cap,iv n] L (fun v L'=>v=iv (Za4 xs n)∧L'=L):=by
 refine Za (fun _ _=>Tryz.call126 _ _) Tryz.func126 rfl Tryz.ntmps126 (Nat.le_of_ble_eq_true rfl) ?_;simp only [Zd,Nat.reduceAdd]
 repeat' (first|refine uN ?_|(refine uP ?_ ?_<;>(intro h;((try simp only [zs,zq,reduceCtorEq] at h);try exact zx)))|fail)
 refine Zp (σ:=Nat × Int) (fun q=>[(0,.slice a xs.length cap),(1,iv n),(5,iv q.2),(6,iv q.1)]) (fun _=>L) (fun q=>q.1≤xs.length∧Za4 (xs.take q.1) n=q.2) (fun q=>xs.length-q.1) (0,0) uS (List.Sublist.refl _) ⟨by simp,by simp [Za4]⟩ ?_
 rintro ⟨i,s⟩ ⟨hi,hs⟩
 simp only at hi hs ⊢
 have hb:=Zdx (xs.take i) n (fun x hx=>h3 x (List.mem_of_mem_take hx))
 rw [hs,List.length_take] at hb
 by_cases hlt:i<xs.length
 ·obtain ⟨b,ia,l,E,fr,rfl,hb',hg'⟩:=hR.at1 (j:=(i:Int)) (by omega) (by omega)
  have hx:=h3 xs[i] (List.getElem_mem hlt)
  have hsn:=Zg4 xs[i] (xs.take i) n
  rw [← List.take_succ_eq_append_getElem hlt,List.length_take,Nat.min_eq_left (by omega),hs] at hsn
  have he:xs[(i:Int).toNat]'(by omega)=xs[i]:=rfl
  rw [he] at hg'
  generalize hxi:xs[i]=x at *
  repeat' (first|refine uN ?_|refine Wq (qC (Zu4 n i (by omega) hn _)) ?_|(refine uP ?_ ?_<;>(intro h;((try simp only [zs,zq,reduceCtorEq] at h);try exact zx)))|fail)
  ·refine Zq (i+1,s+x) uS (List.Sublist.refl _) ⟨by simp only;omega,?_⟩ (by simp only;omega)
   simp only
   rw [hsn,if_pos h]
  ·refine Zq (i+1,s) uS (List.Sublist.refl _) ⟨by simp only;omega,?_⟩ (by simp only;omega)
   simp only
   rw [hsn,if_neg h];omega
 ·have e:xs.take i=xs:=List.take_of_length_le (by omega)
  rw [e] at hs
  repeat' (first|refine uN ?_|(refine uP ?_ ?_<;>(intro h;((try simp only [zs,zq,reduceCtorEq] at h);try exact zx)))|fail)
  exact Z9 (LS.refl _) ⟨by rw [hs],rfl⟩
theorem Zef (a:Option Addr) (cap:Nat) (xs:List Int) (n:Nat) (L:Zb) (hR:Rd ic 1 L a xs) (h7:xs.length≤7) (h3 : ∀ x∈xs,0≤x∧x≤1000) (hn:(n:Int)≤9223372036854775807):HC Tryz.prog 65 [.slice a xs.length cap,iv n] L (fun v L'=>v = .bool (Zu3 xs n)∧L'=L):=by
 have k1:=Zkj a cap xs n L hR h7 h3 hn
 have hp:=Zkd (n:=xs.length) (by omega)
 have e:((2:Int) ^ xs.length-1)=((2 ^ xs.length-1:Nat):Int):=by
  have:=Nat.two_pow_pos xs.length
  rw [Int.ofNat_sub (by omega)];simp
 have k2:=Zkj a cap xs (2 ^ xs.length-1) L hR h7 h3 (by omega)
 rw [← e] at k2
 have b1:=Zdx xs n h3
 have b2:=Zdx xs (2 ^ xs.length-1) h3
 refine Za (fun _ _=>Tryz.call65 _ _) Tryz.func65 rfl Tryz.ntmps65 (Nat.le_of_ble_eq_true rfl) ?_;simp only [Zd,Nat.reduceAdd]
 repeat' (first|refine uN ?_|refine uC (k1) ?_|refine uC (k2) ?_|refine Wq (qC (Zbm xs.length (by omega) _)) ?_|fail)
 refine Z9 (LS.refl _) ⟨congrArg Value.bool ?_,rfl⟩
 unfold Zu3
 exact decide_eq_decide.2 (by omega)
end Go.HL
end

/-! RfA -/
section
namespace Go.HL
open Go Go.Proofs
set_option maxHeartbeats 2000000 attribute [local irreducible] HW HO HQ HD HC QOp Has Upd Zt Gets Z8 Z0 Zo Xm Zz Zj Xp Zy
theorem Zpl {α:Type} {xs ys:List α} {i:Nat} (h:i<xs.length) (h':i<ys.length):xs.take (i+1)=ys.take (i+1)↔xs.take i=ys.take i∧xs[i]=ys[i]:=by
 rw [List.take_succ_eq_append_getElem h,List.take_succ_eq_append_getElem h']
 constructor
 ·intro e
  obtain ⟨e1,e2⟩:=List.append_inj e (by simp;omega)
  exact ⟨e1,by simpa using e2⟩
 ·rintro ⟨e1,e2⟩
  rw [e1,e2]
end Go.HL
end

/-! RfF -/
section
namespace Go.HL
open Go Go.Proofs
set_option maxHeartbeats 2000000 attribute [local irreducible] HW HO HQ HD HC QOp Has Upd Zt Gets Z8 Z0 Zo Xm Zz Zj Xp Zy
end Go.HL
end

/-! LdE -/
section
namespace Go.HL
open Go Go.Proofs
set_option maxHeartbeats 2000000 attribute [local irreducible] HW HO HQ HD HC QOp Has Upd Zt Gets Z8 Z0 Zo Xm Zz Zj Xp Zy
structure LdIs (ws:List Int) (id deal att:Int) (m:Ld):Prop where
 hid:m.id=id
 hdl:m.deal=deal
 hat:m.att=att
 hw:m.w=ws
 htl:m.told.length=7
 hhd:m.heard<2 ^ ws.length
theorem LdIs.ok {w:List Int} {id deal att:Int} {m m':Ld} {wv:Value} {wc:List Zr} (h:LdIs w id deal att m) (h':LdIs w id deal att m') (ho:LdOk wv wc m):LdOk wv wc m':=ho.of (by rw [h.hw,h'.hw]) (by rw [h.htl,h'.htl])
theorem LdIs.done {w:List Int} {id deal att:Int} {m:Ld} (h:LdIs w id deal att m):LdIs w id deal att (Vo m):=⟨h.hid,h.hdl,h.hat,h.hw,h.htl,h.hhd⟩
theorem LdIs.prep {w:List Int} {id deal att:Int} {m:Ld} (h:LdIs w id deal att m) (p:Int):LdIs w id deal att (Qe m p):=⟨h.hid,h.hdl,h.hat,h.hw,h.htl,Nat.two_pow_pos _⟩
theorem LdIs.m1 {w:List Int} {id deal att:Int} {m:Ld} (h:LdIs w id deal att m) (f:Fr):LdIs w id deal att (Q8 m f):=by
 unfold Q8;split
 ·exact h
 ·exact ⟨h.hid,h.hdl,h.hat,h.hw,h.htl,h.hhd⟩
theorem LdIs.m2 {w:List Int} {id deal att:Int} {m:Ld} (h:LdIs w id deal att m) (f:Fr) (hf:X2 m f):LdIs w id deal att (Qm m f):=by
 have h1:=h.m1 f
 refine ⟨h1.hid,h1.hdl,h1.hat,h1.hw,?_,?_⟩
 ·simp [Qm,h.htl]
 ·have:=hf.2.2.2.2.2.1
  have:=hf.2.2.2.2.1
  rw [h.hw] at *
  exact Zfo h.hhd (by omega)
theorem LdIs.count {w:List Int} {id deal att:Int} {m:Ld} (h:LdIs w id deal att m):LdIs w id deal att (Yf m).1:=by
 unfold Yf
 split
 ·exact h.prep _
 split
 ·exact h
 split
 ·exact h.done
 split
 ·exact h.done
 ·exact h.prep _
theorem LdIs.hear {w:List Int} {id deal att:Int} {m:Ld} (h:LdIs w id deal att m) (f:Fr):LdIs w id deal att (Zw m f).1:=by
 unfold Zw
 split
 ·exact h
 rename_i hw
 have hf:X2 m f:=by
  by_cases hf:X2 m f
  ·exact hf
  ·exact absurd (.inr hf) hw
 split
 ·unfold Zz2
  have h1:=h.m1 f
  split
  ·exact h1.done
  ·exact ⟨h1.hid,h1.hdl,h1.hat,h1.hw,h1.htl,h1.hhd⟩
 ·exact (h.m2 f hf).count
theorem Zix (m:Ld) (k p:Int):(Zci m k p).length≤m.w.length:=Un (Zaz m k p) (Ze9 m k p) m.w.length
theorem Zba (m:Ld) (f:Fr):(Zw m f).2.length≤m.w.length:=by
 have e1:(Q8 m f).w=m.w:=by unfold Q8;split<;>rfl
 have e2:(Qm m f).w=m.w:=e1
 unfold Zw
 split
 ·simp
 split
 ·unfold Zz2
  split
  ·have:=Zix (Vo (Q8 m f)) 7 3
   rw [show (Vo (Q8 m f)).w=m.w from e1] at this
   exact this
  ·simp
 ·unfold Yf
  have hp : ∀ p,(Zlr (Qm m f) p).2.length≤m.w.length:=fun p=>by
   have:=Zix (Qe (Qm m f) p) 5 p
   rw [show (Qe (Qm m f) p).w=m.w from e1] at this
   exact this
  have hd : ∀ p,(Zcu (Qm m f) p).2.length≤m.w.length:=fun p=>by
   have:=Zix (Vo (Qm m f)) 7 p
   rw [show (Vo (Qm m f)).w=m.w from e1] at this
   exact this
  split
  ·exact hp _
  split
  ·simp
  split
  ·exact hd _
  split
  ·exact hd _
  ·exact hp _
end Go.HL
end

/-! WoI -/
section
namespace Go.HL
open Go Go.Proofs
def Zil (n:Nat) (f:Fr):Prop := ¬ X5 f∧f.to<n∧f.fr<n
theorem SI.eq {m:Pl} {j:Jn} (h:SI m j):j=⟨Zn m.b,m.off⟩:=by
 obtain ⟨l,d⟩:=j
 have h1:d=m.off:=h.ji.off
 have h2:l=Zn m.b:=h.ji.l
 rw [h1,h2]
theorem Zfa {m:Ld} {k p:Int} {f:Fr} (h:f∈Zci m k p) : ∃ i,i<m.w.length∧f=⟨m.id,i,m.deal,k,m.att,false,⟨p,0,0⟩⟩∧(k≠3∨(i:Int)≠m.id):=by
 unfold Zci at h
 obtain ⟨i,hi,hf⟩:=List.mem_flatMap.1 h
 unfold Zaz at hf
 split at hf
 ·rename_i hc
  simp at hf
  exact ⟨i,List.mem_range.1 hi,hf,hc⟩
 ·cases hf
theorem Zfb {w:List Int} {s d:Nat} {m:Ld} (hi:LdI w s d m) (hs:s<w.length) (hw:w.length≤7) (hd:d<6) {k p:Int} (hk:1≤k∧k≤7) (hp:0≤p∧p≤5) : ∀ f∈Zci m k p,Zil w.length f:=by
 intro f hf
 obtain ⟨i,h1,rfl,-⟩:=Zfa hf
 rw [hi.ww] at h1
 have e1:=hi.id
 have e2:=hi.deal
 have e3:=hi.att0
 have e4:=hi.att1
 unfold Zil X5
 simp only
 omega
theorem LdI.is {w:List Int} {s d:Nat} {x:Ld} (h:LdI w s d x):LdIs w s d x.att x:=⟨h.id,h.deal,rfl,h.ww,h.told,h.heard⟩
theorem LdI.of {w:List Int} {s d:Nat} {x y:Ld} (h:LdI w s d x) (hy:LdIs w s d x.att y) (ht : ∀ t∈y.told,0≤t.ph∧t.ph≤5) (hp:0≤y.phase∧y.phase≤5) (hs:0≤y.seen∧y.seen≤1048576):LdI w s d y:=
 ⟨hy.hw,hy.hid,hy.hdl,by rw [hy.hat];exact h.att0,by rw [hy.hat];exact h.att1,hy.htl,ht,hy.hhd,hp.1,hp.2,hs.1,hs.2⟩
theorem LdI.done {w:List Int} {s d:Nat} {x:Ld} (h:LdI w s d x):LdI w s d (Vo x):=h.of h.is.done h.tok ⟨h.ph0,h.ph1⟩ ⟨h.seen0,h.seen1⟩
theorem LdI.prep {w:List Int} {s d:Nat} {x:Ld} (h:LdI w s d x) {p:Int} (hp:0≤p∧p≤5):LdI w s d (Qe x p):=h.of (h.is.prep p) h.tok hp ⟨h.seen0,h.seen1⟩
theorem LdI.m1 {w:List Int} {s d:Nat} {x:Ld} (h:LdI w s d x) {f:Fr} (hf : ¬ X5 f):LdI w s d (Q8 x f):=by
 refine h.of (h.is.m1 f) ?_ ?_ ?_
 ·unfold Q8;split<;>exact h.tok
 ·unfold Q8;split<;>exact ⟨h.ph0,h.ph1⟩
 ·have h1:=h.seen0
  have h2:=h.seen1
  unfold X5 at hf
  unfold Q8
  split
  ·exact ⟨h1,h2⟩
  ·simp only
   omega
theorem LdI.m2 {w:List Int} {s d:Nat} {x:Ld} (h:LdI w s d x) {f:Fr} (hf : ¬ X5 f) (hfit:X2 x f):LdI w s d (Qm x f):=by
 have h1:=h.m1 hf
 refine h.of (h.is.m2 f hfit) ?_ ⟨h1.ph0,h1.ph1⟩ ⟨h1.seen0,h1.seen1⟩
 intro t ht
 unfold Qm at ht
 rcases List.mem_or_eq_of_mem_set ht with h2|h2
 ·exact h.tok t h2
 ·subst h2
  unfold X5 at hf
  omega
theorem Zxi (p:Int):0≤Vm p∧Vm p≤5:=by unfold Vm;split<;>(try split)<;>omega
theorem Zi9 (xs:List St):0≤(Yl xs).1∧(Yl xs).1≤5:=by
 unfold Yl
 split
 ·simp
 split
 ·simp
 split<;>simp
theorem LdI.count {w:List Int} {s d:Nat} {x:Ld} (h:LdI w s d x) (hs:s<w.length) (hw:w.length≤7) (hd:d<6):LdI w s d (Yf x).1 ∧ ∀ f∈(Yf x).2,Zil w.length f:=by
 have hpre : ∀ p,0≤p∧p≤5→LdI w s d (Zlr x p).1 ∧ ∀ f∈(Zlr x p).2,Zil w.length f:=fun p hp=>⟨h.prep hp,Zfb (h.prep hp) hs hw hd (by omega) hp⟩
 have hdec : ∀ p,0≤p∧p≤5→LdI w s d (Zcu x p).1 ∧ ∀ f∈(Zcu x p).2,Zil w.length f:=fun p hp=>⟨h.done,Zfb h.done hs hw hd (by omega) hp⟩
 unfold Yf
 split
 ·exact hpre 4 (by omega)
 split
 ·exact ⟨h,fun f hf=>by cases hf⟩
 split
 ·exact hdec _ (Zxi _)
 split
 ·exact hdec _ (Zi9 _)
 ·exact hpre _ (Zi9 _)
theorem LdI.hear {w:List Int} {s d:Nat} {x:Ld} (h:LdI w s d x) (hs:s<w.length) (hw:w.length≤7) (hd:d<6) {f:Fr} (hf : ¬ X5 f):LdI w s d (Zw x f).1 ∧ ∀ g∈(Zw x f).2,Zil w.length g:=by
 unfold Zw
 split
 ·exact ⟨h,fun g hg=>by cases hg⟩
 rename_i hwt
 have hfit:X2 x f:=by
  by_cases hfit:X2 x f
  ·exact hfit
  ·exact absurd (.inr hfit) hwt
 split
 ·unfold Zz2
  have h1:=h.m1 hf
  split
  ·exact ⟨h1.done,Zfb h1.done hs hw hd (by omega) (by omega)⟩
  ·exact ⟨⟨h1.ww,h1.id,h1.deal,h1.att0,h1.att1,h1.told,h1.tok,h1.heard,h1.ph0,h1.ph1,h1.seen0,h1.seen1⟩,fun g hg=>by cases hg⟩
 ·exact (h.m2 hf hfit).count hs hw hd
theorem Zij {w:List Int} {s d:Nat} {a k:Int} (h0:0≤a) (h1:a≤1048576):LdI w s d (Zi s d w a k):=
 ⟨rfl,rfl,rfl,h0,h1,rfl,fun t ht=>by
  rw [List.mem_replicate.1 ht |>.2]
  simp [W4],Nat.two_pow_pos _,by simp [Zi],by simp [Zi],by simp [Zi],by simp [Zi]⟩
theorem Zng {w:List Int} {s d:Nat} {m:Ld} (hi:LdI w s d m) (hs:s<w.length) (hw:w.length≤7) (hd:d<6) : ∀ f∈Xk m,Zil w.length f:=by
 unfold Xk
 split
 ·exact Zfb hi hs hw hd (by omega) (by omega)
 ·exact Zfb hi hs hw hd (by omega) (by omega)
theorem WI.set {M:Wm} (h:WI M) {s:Int} {m:Nd} (h0:0≤s) (hm:NdI M.w s.toNat m):WI (Y0 M s m):=by
 refine ⟨h.w0,h.wl,h.w1,by simp [Y0,h.wn],h.fr,h.evl,fun q x hx=>?_⟩
 simp only [Y0,List.getElem?_set] at hx
 by_cases hq:s.toNat=q
 ·rw [if_pos hq] at hx
  split at hx
  ·cases hx
   rw [← hq]
   exact hm
  ·cases hx
 ·rw [if_neg hq] at hx
  exact h.nd q x hx
theorem WI.setL {M:Wm} (h:WI M) {l:List Fr} (hl : ∀ f∈l,Zil M.w.length f):WI { M with l:=l }:=⟨h.w0,h.wl,h.w1,h.wn,hl,h.evl,h.nd⟩
theorem WI.setE {M:Wm} (h:WI M) {l:List Evt} (hl:l.length≤500):WI { M with ev:=l }:=⟨h.w0,h.wl,h.w1,h.wn,h.fr,hl,h.nd⟩
theorem WI.setB {M:Wm} (h:WI M) (f:Int × Int→Bool):WI { M with br:=f }:=⟨h.w0,h.wl,h.w1,h.wn,h.fr,h.evl,h.nd⟩
theorem WI.erase {M:Wm} (h:WI M) (k:Nat):WI { M with l:=M.l.eraseIdx k }:=h.setL fun f hf=>h.fr f (List.mem_of_mem_eraseIdx hf)
theorem Zmu (s:Int) (m:Nd) (ev:List Evt):(Xd s m ev).1.length=m.done.length:=by
 unfold Xd
 split
 ·rfl
 ·exact Zbe 6
theorem Zry (s:Int) (m:Nd) (ev:List Evt) (h:ev.length≤500):(Xd s m ev).2.length≤500:=by
 unfold Xd
 split
 ·exact h
 ·exact Zfv h 6
theorem NdI.fall {w:List Int} {s:Nat} {m:Nd} (h:NdI w s m) {pl:Pl} (hb:pl.b.length=512) (hsi:SI pl ⟨Zn pl.b,pl.off⟩) (hoff:pl.off=true):NdI w s ⟨pl,none,noLeads,m.done⟩:=
 ⟨by simp [noLeads],h.done,hb,hsi,fun j ref hs=>(by cases hs),fun _=>hoff,fun d x hx=>(by
  simp only [noLeads,List.getElem?_replicate] at hx
  split at hx<;>cases hx)⟩
theorem NdI.lead {w:List Int} {s:Nat} {m:Nd} (h:NdI w s m) {d:Nat} {x:Ld} (hx:LdI w s d x):NdI w s { m with leads:=m.leads.set d (some x) }:=by
 refine ⟨by simp [h.leads],h.done,h.b512,h.si,h.up,h.dn,fun q y hy=>?_⟩
 simp only [List.getElem?_set] at hy
 by_cases hq:d=q
 ·rw [if_pos hq] at hy
  split at hy
  ·cases hy
   rw [← hq]
   exact hx
  ·cases hy
 ·rw [if_neg hq] at hy
  exact h.ldi q y hy
theorem Zy0 {n:Nat} {s:Nat} {f:Fr} {ref:Int→Bool} {st:St} (hs:s<n) (hn:n≤7) (hf : ¬ X5 f) (hfr:f.fr<n) (hst:Zgy st) (hk:(Yj ref f st).2.1≠0):Zil n ⟨s,f.fr,f.dl,(Yj ref f st).2.1,f.att,(Yj ref f st).2.2,(Yj ref f st).1⟩:=by
 obtain ⟨⟨g1,g2,g3,g4,g5⟩,-⟩:=Zpm (ref:=ref) hst hf
 have hk7:(Yj ref f st).2.1=0∨(Yj ref f st).2.1=2∨(Yj ref f st).2.1=4∨(Yj ref f st).2.1=6:=by
  unfold Yj
  split
  ·simp
  split
  ·simp
  split
  ·split
   ·simp
   ·split<;>simp
  split<;>simp
 unfold Zil X5 at *
 simp only
 omega
theorem NdI.hear {w:List Int} {s:Nat} {m:Nd} (h:NdI w s m) (hs:s<w.length) (hw:w.length≤7) (ev:List Evt) (hev:ev.length≤500) {f:Fr} (hfr:f.fr<w.length) :
  NdI w s (Y7 s m ev f).1∧(Y7 s m ev f).2.1.length≤500 ∧ ∀ g∈(Y7 s m ev f).2.2.1,Zil w.length g:=by
 unfold Y7
 cases hsi:m.site with
 | none=>exact ⟨h,hev,fun g hg=>by cases hg⟩
 | some q =>
  obtain ⟨j,ref⟩:=q
  simp only
  have hS:=h.jn hsi
  obtain ⟨a1,a2,a3,a4⟩:=Zdc (id:=(s:Int)) (ref:=ref) hS f
  generalize hr:Zs s ref m.pl j f=r at *
  obtain ⟨pl',j',fs,er⟩:=r
  simp only at a1 a2 a3 a4 ⊢
  have hj':=a1.eq
  have hb:pl'.b.length=512:=by rw [a2];exact h.b512
  split
  ·rename_i hoff
   exact ⟨h.fall hb (hj'▸a1) hoff,hev,fun g hg=>by cases hg⟩
  ·rename_i hoff
   have hoff':pl'.off=false:=by simpa using hoff
   refine ⟨⟨h.leads,by rw [Zmu];exact h.done,hb,hj'▸a1,fun j2 r2 e=>?_,fun e=>(by cases e),h.ldi⟩,Zry _ _ _ hev,?_⟩
   ·cases e
    rw [hj']
    exact ⟨by rw [hoff'],hoff'⟩
   ·intro g hg
    rcases a4 with a4|⟨b1,b2,b3,b4,b5,b6,b7⟩
    ·rw [a4] at hg;cases hg
    ·rw [b7] at hg
     simp only [List.mem_singleton] at hg
     subst hg
     unfold X5 at b1
     exact Zy0 hs hw (by unfold X5;exact b1) hfr (hS.st f.dl.toNat (by omega)) b4
theorem WI.hear {M:Wm} (h:WI M) {s:Int} (h0:0≤s) (h1:s<M.n.length) {f:Fr} (hfr:f.fr<M.w.length):WI (Yt M s f).1 ∧ ∀ g∈(Yt M s f).2.1,Zil M.w.length g:=by
 have hn:=h.wn
 have hx:=h.nd s.toNat (Zf M s) (getD_some (by omega))
 have e:((s.toNat:Nat):Int)=s:=by omega
 have key:=hx.hear (by omega) h.wl M.ev h.evl hfr
 rw [e] at key
 obtain ⟨k1,k2,k3⟩:=key
 exact ⟨(h.set h0 k1).setE k2,k3⟩
theorem Zdn {w:List Int} {s d:Nat} (hs:s<w.length) (hw:w.length≤7) (hd:d<6) : ∀ (l:List Fr) (x:Ld) (acc:List Fr),LdI w s d x→(∀ f∈l,Zil w.length f)→(∀ f∈acc,Zil w.length f) →
  LdI w s d (l.foldl (fun q f=>((Zw q.1 f).1,q.2++(Zw q.1 f).2)) (x,acc)).1 ∧ ∀ f∈(l.foldl (fun q f=>((Zw q.1 f).1,q.2++(Zw q.1 f).2)) (x,acc)).2,Zil w.length f
 | [],x,acc,hx,_,ha=>⟨hx,ha⟩
 | f::l,x,acc,hx,hl,ha=>by
  rw [List.foldl_cons]
  obtain ⟨k1,k2⟩:=hx.hear hs hw hd (hl f (by simp)).1
  refine Zdn hs hw hd l _ _ k1 (fun g hg=>hl g (by simp [hg])) fun g hg=>?_
  rcases List.mem_append.1 hg with hg|hg
  ·exact ha g hg
  ·exact k2 g hg
end Go.HL
end

/-! WoS -/
section
namespace Go.HL
open Go Go.Proofs
theorem Zle {α β:Type} (f:α→β→List Zr) : ∀ {l:List α} {k:List β} {d:Nat} {a:α} {b:β},l[d]? = some a→k[d]? = some b → ∃ A B,(List.zipWith f l k).flatten=A++(f a b++B) ∧ ∀ a' b',(List.zipWith f (l.set d a') (k.set d b')).flatten=A++(f a' b'++B)
 | [],_,_,_,_,h,_=>by simp at h
 | _::_,[],_,_,_,_,h=>by simp at h
 | x::l,y::k,0,a,b,h1,h2=>by
  simp at h1 h2
  subst h1;subst h2
  exact ⟨[],(List.zipWith f l k).flatten,by simp,fun a' b'=>by simp⟩
 | x::l,y::k,d+1,a,b,h1,h2=>by
  obtain ⟨A,B,e1,e2⟩:=Zle f (l:=l) (k:=k) (d:=d) (a:=a) (b:=b) (by simpa using h1) (by simpa using h2)
  exact ⟨f x y++A,B,by simp [e1],fun a' b'=>by simp [e2]⟩
theorem Zjv {g:NdG} {m:Nd} {d:Nat} {o:Option Ld} {q:Nat × Value × List Zr} (h1:m.leads[d]? = some o) (h2:g.ld[d]? = some q) :
  ∃ A B,Zbz g m=A++(ldB o q++B) ∧ ∀ o' q' (m':Nd) (g':NdG),m'.leads=m.leads.set d o'→g'.ld=g.ld.set d q'→Zbz g' m'=A++(ldB o' q'++B):=by
 obtain ⟨A,B,e1,e2⟩:=Zle ldB h1 h2
 refine ⟨A,B,e1,fun o' q' m' g' h3 h4=>?_⟩
 unfold Zbz
 rw [h3,h4]
 exact e2 o' q'
theorem Zbh {α:Type} {l:List α} {d:Nat} {x:α} (h:l[d]? = some x):l.set d x=l:=by
 refine List.ext_getElem? fun i=>?_
 rw [List.getElem?_set]
 split
 ·rename_i e
  subst e
  rw [h,if_pos (List.getElem?_eq_some_iff.1 h).1]
 ·rfl
theorem Zfr {g g':NdG} {m m':Nd} {d:Nat} {o':Option Ld} {q':Nat × Value × List Zr} (h3:m'.leads=m.leads.set d o') (h4:g'.ld=g.ld.set d q'):Xi g' m'=(Xi g m).set d (Zed o' q'):=by
 unfold Xi
 rw [h3,h4]
 refine List.ext_getElem? fun i=>?_
 simp only [List.getElem?_zipWith,List.getElem?_set,List.length_zipWith]
 by_cases hd:d=i
 ·subst hd
  simp only [if_true]
  by_cases ha:d<m.leads.length
  ·by_cases hb:d<g.ld.length
   ·have:d<min m.leads.length g.ld.length:=by omega
    simp [ha,hb,this]
   ·have : ¬ d<min m.leads.length g.ld.length:=by omega
    simp [ha,hb];omega
  ·have : ¬ d<min m.leads.length g.ld.length:=by omega
   simp [ha];omega
 ·simp only [if_neg hd]
theorem NdOk.lead {g:NdG} {m:Nd} (h:NdOk g m) {d:Nat} {x:Ld} {q:Nat × Value × List Zr} (hx:LdOk q.2.1 q.2.2 x):NdOk { g with ld:=g.ld.set d q } { m with leads:=m.leads.set d (some x) }:=by
 refine ⟨by simp [h.ld],fun e y hy p hp=>?_,h.map⟩
 simp only [List.getElem?_set] at hy hp
 by_cases hde:d=e
 ·rw [if_pos hde] at hy hp
  split at hy
  ·split at hp
   ·cases hy;cases hp;exact hx
   ·cases hp
  ·cases hy
 ·rw [if_neg hde] at hy hp
  exact h.lok e y hy p hp
theorem NdOk.hear {g:NdG} {m:Nd} (h:NdOk g m) {d:Nat} {x:Ld} {q:Nat × Value × List Zr} (h2:g.ld[d]? = some q) (hx:LdOk q.2.1 q.2.2 x):NdOk g { m with leads:=m.leads.set d (some x) }:=by
 have:=h.lead (d:=d) hx
 rw [Zbh h2] at this
 exact this
theorem Zzl (id:Int) (ref:Int→Bool) (m:Pl) (j:Jn) (f:Fr):(Zs id ref m j f).2.2.1.length≤1:=by
 unfold Zs
 split
 ·simp
 split
 ·simp
 split
 ·simp
 ·simp only
  split<;>simp
theorem Zdm (M:Wm) (s:Int) (f:Fr):(Yt M s f).2.1.length≤1:=by
 unfold Yt Y7
 split
 ·simp
 ·rename_i j ref _
  split
  ·simp
  ·exact Zzl s ref _ j f
theorem errs_ls {tab:List (Nat × Nat)} {T:Nat} {E:Nat→Addr} {cs:List Nat} {L L':Zb} (h:Errs tab T E cs L) (hl:LS L.flatten L'.flatten):Errs tab T E cs L':=h.mono fun _ _ hb=>hl.mem hb
theorem ls_mid {c A B:List Zr} {D:Zb}:LS (c::A::B::D).flatten ((A++(c++B))::D).flatten:=by
 simp only [List.flatten_cons,List.append_assoc]
 refine LS.of_perm ?_
 rw [← List.append_assoc,← List.append_assoc A c]
 exact List.perm_append_comm.append_right _
theorem ls_mid' {c A B:List Zr} {D:Zb}:LS ((A++(c++B))::D).flatten (c::A::B::D).flatten:=by
 simp only [List.flatten_cons,List.append_assoc]
 refine LS.of_perm ?_
 rw [← List.append_assoc,← List.append_assoc c A]
 exact List.perm_append_comm.append_right _
theorem ls7 {x0 x1 x2 x3 x4 x5 x6 c A B:List Zr} {D:Zb}:LS (x0::x1::x2::x3::x4::x5::x6::(A++(c++B))::D).flatten (x0::x1::x2::x3::x4::x5::x6::c::A::B::D).flatten:=LS.k (LS.k (LS.k (LS.k (LS.k (LS.k (LS.k ls_mid'))))))
theorem Rd.ls {α:Type} {enc:α→List Value} {sz:Nat} {L L':Zb} {a:Option Addr} {xs:List α} (h:Rd enc sz L a xs) (hl:LS L.flatten L'.flatten):Rd enc sz L' a xs:=h.mono fun _ _ hb=>hl.mem hb
theorem WdIn.sp {L L':Zb} {G:WdG} {M:Wm} (h:WdIn L G M) (hl:LS L.flatten L'.flatten):WdIn L' G M:=by
 obtain ⟨h1,⟨a2,c2,e2,r2⟩,⟨a3,c3,e3,r3⟩,⟨a4,c4,e4,r4⟩,h5⟩:=h
 exact ⟨hl.mem h1,⟨a2,c2,e2,r2.ls hl⟩,⟨a3,c3,e3,r3.ls hl⟩,⟨a4,c4,e4,r4.ls hl⟩,h5⟩
set_option maxHeartbeats 2000000 attribute [local irreducible] HW HO HQ HD HC QOp Has Upd Zt Gets Z8 Z0 Zo Xm Zz Zj Xp Zy
attribute [local irreducible] Vh Yr Xl Zs X3 Zn
theorem Wi {ρ:Z5} {L:Zb} {ty:TypeId} {pos:String} {af:Array Edge} {d:Option Tmp} {g:Option (Nat × Bool)} {r:Nat} {x y:Operand} {es:List MapEntry} {ck:Nat} {f:Int × Int→Bool} {a b:Int} {v:Bool} (h00:X4 ρ=true:=by exact rfl) (hx:ev ρ x=some (.map (some r)):=by exact rfl) (hy:ev ρ y=some (.agg ⟨[iv a,iv b]⟩):=by exact rfl)
  (hb:Has L r (.map ⟨es⟩ ck):=by (repeat (first|assumption|exact Zh|exact Yo (by assumption)|apply Wy|apply Zc))) (hF:Zy pk es f:=by assumption) (hv:f (a,b)=v:=by assumption) :
  QOp Tryz.prog ⟨d,.lookup 146 x y false,ty,pos,af,g⟩ ρ L (.bool v):=hv▸qmP h00 hx hy (hb:=hb) (hF:=hF)
set_option maxHeartbeats 1000000 in
theorem Zdg (T:Nat) (E:Nat→Addr) (G:WdG) (M:Wm) (k:Int) (L:Zb) (hG:Er T E [2,3,4,5,6] L) (hW:WdOk G M) (hM:WI M) (hl:M.l.length≤99999999) :
  HC Tryz.prog 89 [pt G.wp 0,iv k] (Xj G M++L) (fun v L'=>v=eV T E (Ya M k).2∧Zg5 G (Ya M k).1 L L'):=by
 unfold Ya
 have hself:=Vy hW L
 have hI:=Zas hW L
 have ka:=Zdv T E G M k _ (Ww hG.sub G M) hI
 cases he:Zs1 M k with
 | some e =>
  simp only [he] at ka ⊢
  generalize Xj G M++L=H at *
  refine Za (fun _ _=>Tryz.call89 _ _) Tryz.func89 rfl Tryz.ntmps89 (Nat.le_of_ble_eq_true rfl) ?_;simp only [Zd,Nat.reduceAdd]
  repeat' (first|refine uN ?_|refine Z2 S ?_|refine Yp S ?_|refine uC (ka) ?_|refine Yb (fun _=>ka) ?_|refine Yc (fun _=>ka) ?_|refine Yd (fun _=>ka) ?_|refine Ye (fun _=>ka) ?_|refine Wq Wi ?_|refine Qr Wi ?_|refine Zlg 100 (by exact rfl) (fun _=>Wi) ?_|(refine uB ?_;intro b)|(refine uP ?_ ?_<;>(intro h;((try simp only [zs,zq,reduceCtorEq] at h);try exact zx)))|refine da 101 ?_|fail)
  exact Um rfl ⟨rfl,hself⟩
 | none =>
  simp only [he] at ka ⊢
  clear hself
  have hk:0≤k∧k<M.l.length:=by
   unfold Zs1 at he
   split at he
   ·cases he
   ·omega
  obtain ⟨hk0,hk1⟩:=hk
  have hgk:M.l[k.toNat]'(by omega)=M.l.getD k.toNat Yv:=by
   rw [List.getD,List.getElem?_eq_getElem (by omega)];rfl
  obtain ⟨hbad,hto,hfr⟩:=hM.fr (M.l.getD k.toNat Yv) (by rw [← hgk];exact List.getElem_mem _)
  have hM1:=hM.erase k.toNat
  have hW1 : ∀ lv lc,Z7 lv (M.l.eraseIdx k.toNat) lc→WdOk { G with lv:=lv,lc:=lc } { M with l:=M.l.eraseIdx k.toNat }:=fun lv lc hv=>hW.setL hv
  have kd:=fun L=>Zfg G.lv M.l G.lc k (k+1) L hW.l (by omega) (by omega) (by omega) rfl
  obtain ⟨a5,cap5,he5,-,hR5⟩:=hW.l.rd Zl
  have hR6:=(hR5 []).mono (L':=G.lc::[]) fun b o hb=>by
   simp only [Has,List.flatten_cons,List.flatten_nil,List.append_nil] at hb ⊢
   simp [hb]
  obtain ⟨b5,i5,l5,F5,fr5,e6,hb5,hg5⟩:=hR6.at (j:=k) (by omega) (by omega)
  have hb5' : ∀ H,Has (G.lc::H) b5 (.cells ⟨l5⟩ F5 fr5):=fun H=>by
   simp only [Has,List.flatten_cons,List.flatten_nil,List.append_nil] at hb5
   exact Yo hb5
  rw [hgk] at hg5
  rw [e6] at he5
  clear hR5 hR6 e6 hb5
  have hn0:0≤(M.l.getD k.toNat Yv).to:=by unfold X5 at hbad;omega
  have hn1:(M.l.getD k.toNat Yv).to<M.n.length:=by rw [hM.wn];exact hto
  have hd0:0≤(M.l.getD k.toNat Yv).dl∧(M.l.getD k.toNat Yv).dl<6:=by unfold X5 at hbad;omega
  have hnp:=Zfw hW hn0 hn1 (H:=G.nc::[]) (fun b o hb=>Yo hb)
  have hN:=Zxg hW.ndl hn0 hn1 L
  have hF:=hW.br
  obtain ⟨⟨nb,ni,nl,nF,nfr,ncap,e7,hnb,hng⟩,-,-⟩:=hnp
  have hnb' : ∀ H,Has (G.nc::H) nb (.cells ⟨nl⟩ nF nfr):=fun H=>by
   simp only [Has,List.flatten_cons,List.flatten_nil,List.append_nil] at hnb
   exact Yo hnb
  clear hnb
  have e8 : ∀ l,(Zf { M with l:=l } (M.l.getD k.toNat Yv).to)=Zf M (M.l.getD k.toNat Yv).to:=fun l=>rfl
  rw [e8]
  have hni:=Wu hM hn0 hn1
  have hok:=Ud hW hn0 hn1
  generalize hf:M.l.getD k.toNat Yv=f at *
  have hcl : ∀ lv lc,Z7 lv (M.l.eraseIdx k.toNat) lc→Zg5 G { M with l:=M.l.eraseIdx k.toNat } L (Xj { G with lv:=lv,lc:=lc } { M with l:=M.l.eraseIdx k.toNat }++L):=fun lv lc hv=>Ziu (hW1 lv lc hv) rfl rfl
  have hsc:(Zf M f.to).site=none ∨ ∃ q,(Zf M f.to).site=some q:=by
   cases (Zf M f.to).site with
   | none=>exact .inl rfl
   | some q=>exact .inr ⟨q,rfl⟩
  rcases hsc with hs|⟨q,hs⟩
  ·rw [if_pos (.inl (by rw [hs];rfl))]
   obtain ⟨ffr,fto,fdl,fkd,fatt,fys,fs⟩:=f
   simp only at hbad hto hfr hg5 hng hn0 hn1 hN hs ⊢
   unfold Zbp at hN
   rw [hs] at hN
   have g0:(Vh (.pointer none) (Zk G fto).bp (Xi (Zk G fto) (Zf M fto)) (Zf M fto).done)[0+0]? = some (.pointer none):=Wc rfl
   simp only [Xj,Zgf,Zay,List.cons_append,List.nil_append] at hcl ka ⊢
   rw [e7,he5] at ka ⊢
   rw [e7] at hcl
   rw [he5] at kd
   have hb5a:=hb5' (G.ec::Qj G.nd M.n 0::L)
   have hnba:=hnb' ([(G.mb,.map ⟨G.es⟩ G.ck)]::G.ec::Qj G.nd M.n 0::L)
   refine Za (fun _ _=>Tryz.call89 _ _) Tryz.func89 rfl Tryz.ntmps89 (Nat.le_of_ble_eq_true rfl) ?_;simp only [Zd,Nat.reduceAdd]
   repeat' (first|refine uN ?_|refine Z2 S ?_|refine Yp S ?_|refine uC (ka) ?_|refine Yb (fun _=>ka) ?_|refine Yc (fun _=>ka) ?_|refine Yd (fun _=>ka) ?_|refine Ye (fun _=>ka) ?_|refine Wq Wi ?_|refine Qr Wi ?_|refine Zlg 100 (by exact rfl) (fun _=>Wi) ?_|(refine uB ?_;intro b)|(refine uP ?_ ?_<;>(intro h;((try simp only [zs,zq,reduceCtorEq] at h);try exact zx)))|refine da 101 ?_|fail)
   refine fo 5 ?_
   refine gc (kd _) ?_
   rintro v L' ⟨c',hv',rfl⟩
   obtain ⟨a6,cap6,rfl,-,-⟩:=hv'.rd Zl
   repeat' (first|refine uN ?_|refine Z2 S ?_|refine Yp S ?_|refine uC (ka) ?_|refine Yb (fun _=>ka) ?_|refine Yc (fun _=>ka) ?_|refine Yd (fun _=>ka) ?_|refine Ye (fun _=>ka) ?_|refine Wq Wi ?_|refine Qr Wi ?_|refine Zlg 100 (by exact rfl) (fun _=>Wi) ?_|(refine uB ?_;intro b)|(refine uP ?_ ?_<;>(intro h;((try simp only [zs,zq,reduceCtorEq] at h);try exact zx)))|refine da 101 ?_|fail)
   all_goals exact Z9 uL ⟨rfl,hcl _ c' hv'⟩
  ·obtain ⟨j,ref⟩:=q
   have hbr0 : ∀ b,M.br (Zjy f)=b→M.br (min f.fr f.to,max f.fr f.to)=b:=fun b h=>h
   obtain ⟨dn,hdn⟩:=Int.eq_ofNat_of_zero_le hd0.1
   have hd6:dn<6:=by omega
   have g0:(Vh (pt (Zk G f.to).sp 0) (Zk G f.to).bp (Xi (Zk G f.to) (Zf M f.to)) (Zf M f.to).done)[0+0]? = some (pt (Zk G f.to).sp 0):=Wc rfl
   have hm1:(Zf M f.to).leads[dn]? = some ((Zf M f.to).leads.getD dn none):=getD_some (by rw [hni.leads];exact hd6)
   obtain ⟨q,hq⟩ : ∃ q,(Zk G f.to).ld[dn]? = some q:=⟨_,List.getElem?_eq_getElem (by rw [hok.ld];exact hd6)⟩
   have hv:=Zdo hm1 hq
   have gL:=Zc5 (sv:=pt (Zk G f.to).sp 0) (bp:=(Zk G f.to).bp) (dn:=(Zf M f.to).done) hv
   have hNv:Zbp (Zk G f.to) (Zf M f.to) = .cells ⟨Vh (pt (Zk G f.to).sp 0) (Zk G f.to).bp (Xi (Zk G f.to) (Zf M f.to)) (Zf M f.to).done⟩ 162:=by unfold Zbp;rw [hs];rfl
   by_cases hbr:M.br (Zjy f)=true
   ·rw [if_pos (.inr hbr)]
    have hbr':=hbr0 _ hbr
    rw [hNv] at hN
    obtain ⟨ffr,fto,fdl,fkd,fatt,fys,fs⟩:=f
    simp only at hbad hto hfr hg5 hng hn0 hn1 hN hs hbr' g0 ⊢
    simp only [Xj,Zgf,Zay,List.cons_append,List.nil_append] at hcl ka ⊢
    rw [e7,he5] at ka ⊢
    rw [e7] at hcl
    rw [he5] at kd
    have hb5a:=hb5' (G.ec::Qj G.nd M.n 0::L)
    have hnba:=hnb' ([(G.mb,.map ⟨G.es⟩ G.ck)]::G.ec::Qj G.nd M.n 0::L)
    refine Za (fun _ _=>Tryz.call89 _ _) Tryz.func89 rfl Tryz.ntmps89 (Nat.le_of_ble_eq_true rfl) ?_;simp only [Zd,Nat.reduceAdd]
    repeat' (first|refine uN ?_|refine Z2 S ?_|refine Yp S ?_|refine uC (ka) ?_|refine Yb (fun _=>ka) ?_|refine Yc (fun _=>ka) ?_|refine Yd (fun _=>ka) ?_|refine Ye (fun _=>ka) ?_|refine Wq Wi ?_|refine Qr Wi ?_|refine Zlg 100 (by exact rfl) (fun _=>Wi) ?_|(refine uB ?_;intro b)|(refine uP ?_ ?_<;>(intro h;((try simp only [zs,zq,reduceCtorEq] at h);try exact zx)))|refine da 101 ?_|fail)
    refine fo 5 ?_
    refine gc (kd _) ?_
    rintro v L' ⟨c',hv',rfl⟩
    obtain ⟨a6,cap6,rfl,-,-⟩:=hv'.rd Zl
    repeat' (first|refine uN ?_|refine Z2 S ?_|refine Yp S ?_|refine uC (ka) ?_|refine Yb (fun _=>ka) ?_|refine Yc (fun _=>ka) ?_|refine Yd (fun _=>ka) ?_|refine Ye (fun _=>ka) ?_|refine Wq Wi ?_|refine Qr Wi ?_|refine Zlg 100 (by exact rfl) (fun _=>Wi) ?_|(refine uB ?_;intro b)|(refine uP ?_ ?_<;>(intro h;((try simp only [zs,zq,reduceCtorEq] at h);try exact zx)))|refine da 101 ?_|fail)
    all_goals exact Z9 uL ⟨rfl,hcl _ c' hv'⟩
   ·have hbrf:M.br (Zjy f)=false:=by simpa using hbr
    rw [if_neg (by simp [hbrf,hs])]
    have hbr':=hbr0 _ hbrf
    by_cases hkd:f.kd=2∨f.kd=4∨f.kd=6
    ·rw [if_pos hkd]
     rw [show f.dl.toNat=dn by omega]
     cases hx:(Zf M f.to).leads.getD dn none with
     | none =>
      simp only
      rw [hx] at gL
      simp only [Zed] at gL
      rw [hNv] at hN
      obtain ⟨ffr,fto,fdl,fkd,fatt,fys,fs⟩:=f
      simp only at hbad hto hfr hg5 hng hn0 hn1 hN hs hbr' g0 gL hkd hdn ⊢
      subst hdn
      simp only [Xj,Zgf,Zay,List.cons_append,List.nil_append] at hcl ka ⊢
      rw [e7,he5] at ka ⊢
      rw [e7] at hcl
      rw [he5] at kd
      have hb5a:=hb5' (G.ec::Qj G.nd M.n 0::L)
      have hnba:=hnb' ([(G.mb,.map ⟨G.es⟩ G.ck)]::G.ec::Qj G.nd M.n 0::L)
      refine Za (fun _ _=>Tryz.call89 _ _) Tryz.func89 rfl Tryz.ntmps89 (Nat.le_of_ble_eq_true rfl) ?_;simp only [Zd,Nat.reduceAdd]
      repeat' (first|refine uN ?_|refine Z2 S ?_|refine Yp S ?_|refine uC (ka) ?_|refine Yb (fun _=>ka) ?_|refine Yc (fun _=>ka) ?_|refine Yd (fun _=>ka) ?_|refine Ye (fun _=>ka) ?_|refine Wq Wi ?_|refine Qr Wi ?_|refine Zlg 100 (by exact rfl) (fun _=>Wi) ?_|(refine uB ?_;intro b)|(refine uP ?_ ?_<;>(intro h;((try simp only [zs,zq,reduceCtorEq] at h);try exact zx)))|refine da 101 ?_|fail)
      refine fo 5 ?_
      refine gc (kd _) ?_
      rintro v L' ⟨c',hv',rfl⟩
      obtain ⟨a6,cap6,rfl,-,-⟩:=hv'.rd Zl
      repeat' (first|refine uN ?_|refine Z2 S ?_|refine Yp S ?_|refine uC (ka) ?_|refine Yb (fun _=>ka) ?_|refine Yc (fun _=>ka) ?_|refine Yd (fun _=>ka) ?_|refine Ye (fun _=>ka) ?_|refine Wq Wi ?_|refine Qr Wi ?_|refine Zlg 100 (by exact rfl) (fun _=>Wi) ?_|(refine uB ?_;intro b)|(refine uP ?_ ?_<;>(intro h;((try simp only [zs,zq,reduceCtorEq] at h);try exact zx)))|refine da 101 ?_|fail)
      all_goals exact Z9 uL ⟨rfl,hcl _ c' hv'⟩
     | some x =>
      simp only
      rw [hx] at hm1 gL hv
      simp only [Zed] at gL hv
      have hLI:=hni.ldi dn x hm1
      have hLO:=hok.lok dn x hm1 q hq
      have hhd:x.heard<2 ^ x.w.length:=by rw [hLI.ww];exact hLI.heard
      have hLs:LdIs M.w x.id x.deal x.att x:=⟨rfl,rfl,rfl,hLI.ww,hLI.told,hLI.heard⟩
      have hLh:=hLs.hear f
      have hLO':=hLs.ok hLh hLO
      have hhl:=Zba x f
      have hwl:=hM.wl
      rw [hLI.ww] at hhl
      refine HC.node (M':={ Y0 { M with l:=M.l.eraseIdx k.toNat } f.to { Zf M f.to with leads:=(Zf M f.to).leads.set dn (some (Zw x f).1) } with l:=M.l.eraseIdx k.toNat++(Zw x f).2 }) hW hn0 hn1 ?_
      obtain ⟨A,B,eA,eB⟩:=Zjv hm1 hq
      have eB':=eB (some (Zw x f).1) q { Zf M f.to with leads:=(Zf M f.to).leads.set dn (some (Zw x f).1) } (Zk G f.to) rfl (Zbh hq).symm
      have eV':Xi (Zk G f.to) { Zf M f.to with leads:=(Zf M f.to).leads.set dn (some (Zw x f).1) }=Xi (Zk G f.to) (Zf M f.to):=by
       rw [Zfr (g:=Zk G f.to) (m:=Zf M f.to) (o':=some (Zw x f).1) (q':=q) rfl (Zbh hq).symm]
       exact Zbh hv
      have hokD:=hok.hear hq hLO'
      have hls : ∀ X,LS (We G f.to (Zk G f.to) (Zf M f.to) X L).flatten ([(G.wp,Zay G)]::G.ec::[((Zk G f.to).np,.cells ⟨Vh (pt (Zk G f.to).sp 0) (Zk G f.to).bp (Xi (Zk G f.to) (Zf M f.to)) (Zf M f.to).done⟩ 162)]::Zh8 (Zk G f.to).sp (Zk G f.to).bj (Zk G f.to).mb f.to::Zii (Zk G f.to).mb (Zk G f.to).es (Zk G f.to).ck::Xl (Zk G f.to).bp (Zk G f.to).ba (Zf M f.to).pl::jC (Zk G f.to).bj (Zk G f.to).bp j::Q1 q.1 q.2.1 q.2.2 x::A::B::G.lc::G.wc::G.nc::[(G.mb,.map ⟨G.es⟩ G.ck)]::X::L).flatten:=fun X=>by
       simp only [We,Zcl,hNv,hs,Zm8,Zm7,Zm6]
       rw [eA]
       iterate 7 refine LS.k ?_
       exact ls_mid'
      have kat:=Zdv T E G M k _ (errs_ls (Zn8 hG.sub G f.to (Zk G f.to) (Zf M f.to) (Vk G.nd M.n 0 f.to.toNat)) (hls _)) ((Zps hW f.to _ _ _ L).sp (hls _))
      rw [he] at kat
      clear hls
      have kh:=fun L hG=>Zjm T E q.1 q.2.1 q.2.2 x f L hG hLO hhd
      generalize Vk G.nd M.n 0 f.to.toNat=X at *
      simp only [Zay] at kat
      simp only [We,Zcl,hNv,hs,Zhx,Zm8,Zm7,Zm6,Zay]
      rw [eA]
      rw [e7,he5] at kat ⊢
      rw [he5] at kd
      generalize hmm:Zf M f.to=m at *
      generalize Zk G f.to=g at *
      have hokD2:NdOk g ⟨m.pl,some (j,ref),m.leads.set dn (some (Zw x f).1),m.done⟩:=by
       have:=hokD
       rw [hs] at this
       exact this
      have eB2:=eB (some (Zw x f).1) q ⟨m.pl,some (j,ref),m.leads.set dn (some (Zw x f).1),m.done⟩ g rfl (Zbh hq).symm
      have eV2:Xi g ⟨m.pl,some (j,ref),m.leads.set dn (some (Zw x f).1),m.done⟩=Xi g m:=eV'
      obtain ⟨ffr,fto,fdl,fkd,fatt,fys,fs⟩:=f
      simp only at hbad hto hfr hg5 hng hn0 hn1 hs hbr' g0 gL hkd hdn kh hhl hLO' hLh eB2 eV2 hokD2 kat ⊢
      clear eB' eV' hokD
      subst hdn
      have hb5a:=hb5' (G.wc::G.nc::[(G.mb,.map ⟨G.es⟩ G.ck)]::X::L)
      have hnba:=hnb' ([(G.mb,.map ⟨G.es⟩ G.ck)]::X::L)
      refine HC.sp (L':=[(G.wp,.cells ⟨[G.wv,sl nb ni M.n.length ncap,.map (some G.mb),sl b5 i5 M.l.length cap5,G.ev]⟩ 150)]::G.ec::[(g.np,.cells ⟨Vh (pt g.sp 0) g.bp (Xi g m) m.done⟩ 162)]::Zh8 g.sp g.bj g.mb fto::Zii g.mb g.es g.ck::Xl g.bp g.ba m.pl::jC g.bj g.bp j::Q1 q.1 q.2.1 q.2.2 x::A::B::G.lc::G.wc::G.nc::[(G.mb,.map ⟨G.es⟩ G.ck)]::X::L) ?_ ?_
      ·refine Za (fun _ _=>Tryz.call89 _ _) Tryz.func89 rfl Tryz.ntmps89 (Nat.le_of_ble_eq_true rfl) ?_;simp only [Zd,Nat.reduceAdd]
       repeat' (first|refine uN ?_|refine Z2 S ?_|refine Yp S ?_|refine uC (kat) ?_|refine Yb (fun _=>kat) ?_|refine Yc (fun _=>kat) ?_|refine Yd (fun _=>kat) ?_|refine Ye (fun _=>kat) ?_|refine Wq Wi ?_|refine Qr Wi ?_|refine Zlg 100 (by exact rfl) (fun _=>Wi) ?_|(refine uB ?_;intro b)|(refine uP ?_ ?_<;>(intro h;((try simp only [zs,zq,reduceCtorEq] at h);try exact zx)))|refine da 101 ?_|fail)
       refine fo 11 ?_
       refine gc (kd _) ?_
       rintro v L' ⟨c',hv',rfl⟩
       obtain ⟨a6,cap6,rfl,-,-⟩:=hv'.rd Zl
       repeat' (first|refine uN ?_|refine Z2 S ?_|refine Yp S ?_|refine uC (kat) ?_|refine Yb (fun _=>kat) ?_|refine Yc (fun _=>kat) ?_|refine Yd (fun _=>kat) ?_|refine Ye (fun _=>kat) ?_|refine Wq Wi ?_|refine Qr Wi ?_|refine Zlg 100 (by exact rfl) (fun _=>Wi) ?_|(refine uB ?_;intro b)|(refine uP ?_ ?_<;>(intro h;((try simp only [zs,zq,reduceCtorEq] at h);try exact zx)))|refine da 101 ?_|fail)
       all_goals refine fo 9 ?_
       all_goals refine gc (kh _ (by repeat (first|exact hG|exact hG.sub|apply Errs.cons))) ?_
       all_goals rintro v L' ⟨c2,hv2,rfl⟩
       all_goals obtain ⟨a7,cap7,rfl,-,hR7⟩:=hv2.rd Zl
       all_goals repeat' (first|refine uN ?_|refine Z2 S ?_|refine Yp S ?_|refine uC (kat) ?_|refine Yb (fun _=>kat) ?_|refine Yc (fun _=>kat) ?_|refine Yd (fun _=>kat) ?_|refine Ye (fun _=>kat) ?_|refine Wq Wi ?_|refine Qr Wi ?_|refine Zlg 100 (by exact rfl) (fun _=>Wi) ?_|(refine uB ?_;intro b)|(refine uP ?_ ?_<;>(intro h;((try simp only [zs,zq,reduceCtorEq] at h);try exact zx)))|refine da 101 ?_|fail)
       all_goals refine fo 2 ?_
       all_goals refine Zzv S hv' (Rd.cons (hR7 _) _) Zl Wr ?_ (hby:=by simp only [List.length_eraseIdx];split<;>omega) (hmax:=by simp only [List.length_eraseIdx];split<;>omega)
       all_goals intro v'' c'' hv''
       all_goals obtain ⟨a8,cap8,rfl,-,-⟩:=hv''.rd Zl
       all_goals repeat' (first|refine uN ?_|refine Z2 S ?_|refine Yp S ?_|refine uC (kat) ?_|refine Yb (fun _=>kat) ?_|refine Yc (fun _=>kat) ?_|refine Yd (fun _=>kat) ?_|refine Ye (fun _=>kat) ?_|refine Wq Wi ?_|refine Qr Wi ?_|refine Zlg 100 (by exact rfl) (fun _=>Wi) ?_|(refine uB ?_;intro b)|(refine uP ?_ ?_<;>(intro h;((try simp only [zs,zq,reduceCtorEq] at h);try exact zx)))|refine da 101 ?_|fail)
       all_goals refine Z9 (L':=We { G with lv := .slice a8 (M.l.eraseIdx k.toNat++(Zw x ⟨ffr,fto,dn,fkd,fatt,fys,fs⟩).2).length cap8,lc:=c'' } fto g ⟨m.pl,some (j,ref),m.leads.set dn (some (Zw x ⟨ffr,fto,dn,fkd,fatt,fys,fs⟩).1),m.done⟩ X L) ?_ ⟨rfl,{ G with lv := .slice a8 (M.l.eraseIdx k.toNat++(Zw x ⟨ffr,fto,dn,fkd,fatt,fys,fs⟩).2).length cap8,lc:=c'' },{ M with l:=M.l.eraseIdx k.toNat++(Zw x ⟨ffr,fto,dn,fkd,fatt,fys,fs⟩).2 },g,⟨m.pl,some (j,ref),m.leads.set dn (some (Zw x ⟨ffr,fto,dn,fkd,fatt,fys,fs⟩).1),m.done⟩,hW.setL hv'',rfl,rfl,rfl,hokD2,rfl,rfl,rfl⟩
       all_goals simp only [We,Zcl,Zbp,Zhx,Zm8,Zm7,Zm6,Zay,eV2]
       all_goals rw [eB2,e7]
       all_goals simp only [ldB,Q1]
       all_goals exact LS.trans ls7 uL
      ·iterate 7 refine LS.k ?_
       exact ls_mid
    ·rw [if_neg hkd]
     have kh:=fun lv lc hv L hG=>Zgg T E { G with lv:=lv,lc:=lc } { M with l:=M.l.eraseIdx k.toNat } f.to f L hG (hW1 lv lc hv) hM1 hn0 hn1 (by rw [e8,hs];simp)
     have hhl:=Zdm { M with l:=M.l.eraseIdx k.toNat } f.to f
     have hml:(Yt { M with l:=M.l.eraseIdx k.toNat } f.to f).1.l=M.l.eraseIdx k.toNat:=rfl
     rw [hNv] at hN
     obtain ⟨ffr,fto,fdl,fkd,fatt,fys,fs⟩:=f
     simp only at hbad hto hfr hg5 hng hn0 hn1 hN hs hbr' g0 hkd kh hhl hml ⊢
     clear hdn
     generalize Yt { M with l:=M.l.eraseIdx k.toNat } fto ⟨ffr,fto,fdl,fkd,fatt,fys,fs⟩=R at *
     simp only [Xj,Zgf,Zay,List.cons_append,List.nil_append] at ka ⊢
     rw [e7,he5] at ka ⊢
     rw [he5] at kd
     have hb5a:=hb5' (G.ec::Qj G.nd M.n 0::L)
     have hnba:=hnb' ([(G.mb,.map ⟨G.es⟩ G.ck)]::G.ec::Qj G.nd M.n 0::L)
     refine Za (fun _ _=>Tryz.call89 _ _) Tryz.func89 rfl Tryz.ntmps89 (Nat.le_of_ble_eq_true rfl) ?_;simp only [Zd,Nat.reduceAdd]
     repeat' (first|refine uN ?_|refine Z2 S ?_|refine Yp S ?_|refine uC (ka) ?_|refine Yb (fun _=>ka) ?_|refine Yc (fun _=>ka) ?_|refine Yd (fun _=>ka) ?_|refine Ye (fun _=>ka) ?_|refine Wq Wi ?_|refine Qr Wi ?_|refine Zlg 100 (by exact rfl) (fun _=>Wi) ?_|(refine uB ?_;intro b)|(refine uP ?_ ?_<;>(intro h;((try simp only [zs,zq,reduceCtorEq] at h);try exact zx)))|refine da 101 ?_|fail)
     refine fo 5 ?_
     refine gc (kd _) ?_
     rintro v L' ⟨c',hv',rfl⟩
     obtain ⟨a6,cap6,rfl,-,-⟩:=hv'.rd Zl
     repeat' (first|refine uN ?_|refine Z2 S ?_|refine Yp S ?_|refine uC (ka) ?_|refine Yb (fun _=>ka) ?_|refine Yc (fun _=>ka) ?_|refine Yd (fun _=>ka) ?_|refine Ye (fun _=>ka) ?_|refine Wq Wi ?_|refine Qr Wi ?_|refine Zlg 100 (by exact rfl) (fun _=>Wi) ?_|(refine uB ?_;intro b)|(refine uP ?_ ?_<;>(intro h;((try simp only [zs,zq,reduceCtorEq] at h);try exact zx)))|refine da 101 ?_|fail)
     refine Q5 (L':=Xj { G with lv := .slice a6 (M.l.eraseIdx k.toNat).length cap6,lc:=c' } { M with l:=M.l.eraseIdx k.toNat }++L) ?_ ?_
     ·refine gc (kh _ _ hv' _ (by repeat (first|exact hG|exact hG.sub|apply Errs.cons))) ?_
      rintro v L' ⟨c2,⟨fv,hfv,rfl⟩,G2,e1,e2,hW2,rfl⟩
      obtain ⟨a7,cap7,rfl,-,hR7⟩:=hfv.rd Zl
      obtain ⟨a8,cap8,he8,-,-⟩:=hW2.l.rd Zl
      have hv2:=hW2.l
      rw [hml] at hv2 he8
      have hcl2 : ∀ lv lc,Z7 lv (M.l.eraseIdx k.toNat++R.2.1) lc→Zg5 G { R.1 with l:=M.l.eraseIdx k.toNat++R.2.1 } L (Xj { G2 with lv:=lv,lc:=lc } { R.1 with l:=M.l.eraseIdx k.toNat++R.2.1 }++L):=fun lv lc hv=>⟨{ G2 with lv:=lv,lc:=lc },e1,e2,hW2.setL hv,rfl⟩
      simp only [Xj,Zgf,Zay,List.cons_append,List.nil_append,e1] at hcl2 ⊢
      rw [he8] at hv2 ⊢
      repeat' (first|refine uN ?_|refine Z2 S ?_|refine Yp S ?_|refine uC (ka) ?_|refine Yb (fun _=>ka) ?_|refine Yc (fun _=>ka) ?_|refine Yd (fun _=>ka) ?_|refine Ye (fun _=>ka) ?_|refine Wq Wi ?_|refine Qr Wi ?_|refine Zlg 100 (by exact rfl) (fun _=>Wi) ?_|(refine uB ?_;intro b)|(refine uP ?_ ?_<;>(intro h;((try simp only [zs,zq,reduceCtorEq] at h);try exact zx)))|refine da 101 ?_|fail)
      refine fo 4 ?_
      refine Zzv S hv2 (Rd.cons ((hR7 []).mono fun b o hb=>?_) _) Zl Wr ?_ (hby:=by simp only [List.length_eraseIdx];split<;>omega) (hmax:=by simp only [List.length_eraseIdx];split<;>omega)
      ·exact Zc (Zc (Zc (Zc (Zc (Zc (Yo (by simpa [Has] using hb)))))))
      intro v'' c'' hv''
      obtain ⟨a9,cap9,rfl,-,-⟩:=hv''.rd Zl
      repeat' (first|refine uN ?_|refine Z2 S ?_|refine Yp S ?_|refine uC (ka) ?_|refine Yb (fun _=>ka) ?_|refine Yc (fun _=>ka) ?_|refine Yd (fun _=>ka) ?_|refine Ye (fun _=>ka) ?_|refine Wq Wi ?_|refine Qr Wi ?_|refine Zlg 100 (by exact rfl) (fun _=>Wi) ?_|(refine uB ?_;intro b)|(refine uP ?_ ?_<;>(intro h;((try simp only [zs,zq,reduceCtorEq] at h);try exact zx)))|refine da 101 ?_|fail)
      exact Z9 uL ⟨rfl,hcl2 _ c'' hv''⟩
     ·simp only [Xj,Zgf,Zay,List.cons_append,List.nil_append,e7]
      exact uL
end Go.HL
end

/-! WoT -/
section
namespace Go.HL
open Go Go.Proofs
theorem Zs3 {G G':WdG} {M M1:Wm} {s:Int} {g':NdG} {m':Nd} (L:Zb) (hl:G.nd.length=M.n.length) (h0:0≤s) (h1:s<M.n.length) (hW:WdOk G' M1) (e1:G'.nd=G.nd) (e2:M1.n=M.n) (e3:G'.wp=G.wp) (hN:NdOk g' m') (e4:g'.np=(Zk G s).np) :
  ∃ L',Zg5 G (Y0 M1 s m') L L'∧LS L'.flatten (We G' s g' m' (Vk G.nd M.n 0 s.toNat) L).flatten:=by
 have hnp:g'.np=(Zk G' s).np:=by rw [e4];unfold Zk;rw [e1]
 refine ⟨Xj { G' with nd:=G'.nd.set s.toNat g' } (Y0 M1 s m')++L,⟨{ G' with nd:=G'.nd.set s.toNat g' },e3,?_,hW.put h0 (by rw [e2];exact h1) hN hnp,rfl⟩,?_⟩
 ·simp only
  rw [← e1]
  exact Zou h0 (by rw [e1];omega) hnp
 ·simp only [Xj,Y0,e1,e2]
  exact Zla (G:=G') h0 (by omega) (by omega) L
theorem LS.cutAt {a A x B:List Zr} {L L1:Zb} (k0:Nat) (h:LS a (A::B::L1).flatten) (hp:Zcg k0 L=some (A++(x++B),L1):=by exact rfl):LS a L.flatten:=by
 refine LS.trans h (LS.trans ?_ (LS.of_perm (W8 hp).symm.flatten))
 simp only [List.flatten_cons,List.append_assoc]
 exact LS.boths A (LS.skips x (LS.refl _))
theorem Zca (m:Ld):(Xk m).length≤m.w.length:=by
 unfold Xk
 split<;>exact Un _ (Ze9 m _ _) _
theorem Zjw {M:Wm} (h:WI M) {s d a:Int} (h0:0≤s) (h1:s<M.n.length) (hd:0≤d∧d<6) (ha:a≤1048576):Zc1 s d M.w a=none:=by
 unfold Zc1
 rw [h.w0]
 have:=h.wn
 simp only
 rw [if_neg (by omega)]
theorem Zqh {M:Wm} {d:Int} {i:Nat} (hi:i<M.n.length) (hb:Vp d (Zf M (i:Int))=true):M.n.any (Vp d)=true:=by
 rw [List.any_eq_true]
 refine ⟨_,?_,hb⟩
 unfold Zf
 simp only [Int.toNat_natCast]
 rw [List.getD,List.getElem?_eq_getElem hi]
 exact List.getElem_mem _
theorem Zl5 {M:Wm} {d:Int} (h : ∀ i,i<M.n.length→Vp d (Zf M (i:Int))=false):M.n.any (Vp d)=false:=by
 rw [List.any_eq_false]
 intro x hx
 obtain ⟨i,hi,rfl⟩:=List.mem_iff_getElem.1 hx
 have:=h i hi
 unfold Zf at this
 simp only [Int.toNat_natCast] at this
 rw [List.getD,List.getElem?_eq_getElem hi] at this
 simp only [Option.getD_some] at this
 rw [this]
 simp
set_option maxHeartbeats 2000000 attribute [local irreducible] HW HO HQ HD HC QOp Has Upd Zt Gets Z8 Z0 Zo Xm Zz Zj Xp Zy
attribute [local irreducible] Vh Yr Xl Zs X3 Zn
theorem Zpq (T:Nat) (E:Nat→Addr) (G:WdG) (M:Wm) (s d:Int) (L:Zb) (hG:Er T E [2,3,4,6,8] L) (hW:WdOk G M) (hM:WI M) (hl:M.l.length≤99999999) :
  HC Tryz.prog 83 [pt G.wp 0,iv s,iv d] (Xj G M++L) (fun v L'=>v=eV T E (Wv M s d).2∧Zg5 G (Wv M s d).1 L L'):=by
 unfold Wv
 have hself:=Vy hW L
 have hI:=Zas hW L
 have hwn:=hM.wn
 have hwl:=hM.wl
 obtain ⟨an,capn,hnv,hnr⟩:=hI.ns
 by_cases h:d<0∨6≤d∨s<0∨M.n.length≤s
 ·simp only [if_pos h]
  have hG':=Ww hG G M
  have hw:=hI.wp
  unfold Zay at hw
  rw [hnv] at hw
  generalize Xj G M++L=H at *
  refine Za (fun _ _=>Tryz.call83 _ _) Tryz.func83 rfl Tryz.ntmps83 (Nat.le_of_ble_eq_true rfl) ?_;simp only [Zd,Nat.reduceAdd]
  repeat' (first|refine uN ?_|refine Z2 S ?_|refine Yp S ?_|(refine uB ?_;intro b)|refine dg S 100 (fun _ _=>?_)|(refine uP ?_ ?_<;>(intro h;((try simp only [zs,zq,reduceCtorEq] at h);try exact zx)))|refine da 101 ?_|fail)
  all_goals exact Um rfl ⟨rfl,hself⟩
 simp only [if_neg h]
 rcases Za2 (M:=M) (s:=s) with ⟨e,he⟩|⟨he,hn,h0,h1,j,ref,hs⟩
 ·have ku:=Zjt s hG.sub hW
  have hG':=Ww hG G M
  have hw:=hI.wp
  unfold Zay at hw
  rw [hnv] at hw
  generalize Xj G M++L=H at *
  simp only [he] at ku ⊢
  refine Za (fun _ _=>Tryz.call83 _ _) Tryz.func83 rfl Tryz.ntmps83 (Nat.le_of_ble_eq_true rfl) ?_;simp only [Zd,Nat.reduceAdd]
  repeat' (first|refine uN ?_|refine Z2 S ?_|refine Yp S ?_|refine uC (ku) ?_|refine Yb (fun _=>ku) ?_|refine Yc (fun _=>ku) ?_|refine Yd (fun _=>ku) ?_|refine Ye (fun _=>ku) ?_|(refine uB ?_;intro b)|refine dg S 100 (fun _ _=>?_)|(refine uP ?_ ?_<;>(intro h;((try simp only [zs,zq,reduceCtorEq] at h);try exact zx)))|refine da 101 ?_|fail)
  exact Um rfl ⟨rfl,hself⟩
 ·simp only [he]
  have ku:=Zjt s hG.sub hW
  have hG':=Ww hG G M
  have hw:=hI.wp
  unfold Zay at hw
  rw [hnv] at hw
  generalize hH:Xj G M++L=H at *
  simp only [he,Zvn hn] at ku
  refine Za (fun _ _=>Tryz.call83 _ _) Tryz.func83 rfl Tryz.ntmps83 (Nat.le_of_ble_eq_true rfl) ?_;simp only [Zd,Nat.reduceAdd]
  repeat' (first|refine uN ?_|refine Z2 S ?_|refine Yp S ?_|refine uC (ku) ?_|refine Yb (fun _=>ku) ?_|refine Yc (fun _=>ku) ?_|refine Yd (fun _=>ku) ?_|refine Ye (fun _=>ku) ?_|(refine uB ?_;intro b)|refine dg S 100 (fun _ _=>?_)|(refine uP ?_ ?_<;>(intro h;((try simp only [zs,zq,reduceCtorEq] at h);try exact zx)))|refine da 101 ?_|fail)
  have hB : ∀ {i:Int} (h0:0≤i) (h1:i<M.n.length) {b:Nat} {o:Obj},(b,o)∈Zj6 (Zk G i) i (Zf M i)→Has H b o:=fun {i} h0 h1 {b o} hb=>by
   have:=Zg0 hW.ndl h0 h1 hb L
   subst hH
   unfold Has Xj at *
   rw [List.append_assoc,List.flatten_append]
   exact List.mem_append_right _ this
  obtain ⟨dn,rfl⟩:=Int.eq_ofNat_of_zero_le (show 0≤d by omega)
  have hd6:dn<6:=by omega
  refine Zp (σ:=Nat) (fun i=>[(0,pt G.wp 0),(1,iv s),(2,iv dn),(7,pt (Zk G s).np 0),(45,.slice an M.n.length capn),(46,iv M.n.length),(47,iv i)]) (fun _=>H) (fun i=>i≤M.n.length ∧ ∀ k,k<i→Vp dn (Zf M (k:Int))=false) (fun i=>M.n.length-i) 0 uS (List.Sublist.refl _) ⟨by simp,fun k hk=>by omega⟩ ?_
  rintro i ⟨hi,hfree⟩
  by_cases hlt:i<M.n.length
  ·have hBi:=fun {b o}=>hB (i:=(i:Int)) (by omega) (by omega) (b:=b) (o:=o)
   have hni:=Wu hM (s:=(i:Int)) (by omega) (by omega)
   have hok:=Ud hW (s:=(i:Int)) (by omega) (by omega)
   obtain ⟨⟨b,bi,l,F,fr,cap2,e7,hb,hg2⟩,-,-⟩:=Zfw hW (s:=(i:Int)) (by omega) (by omega) (H:=H) (fun b o hb=>by
    subst hH
    simp only [Has,Xj,Zgf,List.flatten_cons,List.cons_append,List.nil_append]
    simp [hb])
   rw [hnv] at e7
   obtain ⟨rfl,-,rfl⟩:=Value.slice.inj e7
   have hNi:Has H (Zk G i).np (Zbp (Zk G i) (Zf M i)):=hBi (by simp [Zj6,Zcl])
   have kst:=Zgi T E G M i dn H hG'.sub hI hW.ndl (fun _=>hNi) (fun _=>⟨by rw [hni.b512];omega,by rw [hni.b512];omega,fun p hp=>hBi (by
    unfold Zj6 Xl
    simp only [List.mem_cons,List.not_mem_nil,or_false] at hp
    rcases hp with rfl|rfl
    ·simp [plB]
    ·simp [plD])⟩)
   have e1:Xz M i dn=none:=by
    unfold Xz
    rw [Zka (by omega) (by omega)]
    simp only
    rw [if_neg (by omega)]
   have e2:U8 M i dn=Xf (Zf M i).pl dn:=by unfold U8;rw [e1]
   rw [e1,e2] at kst
   have hm1:(Zf M i).leads[dn]? = some ((Zf M i).leads.getD dn none):=getD_some (by rw [hni.leads];exact hd6)
   obtain ⟨q,hq⟩ : ∃ q,(Zk G i).ld[dn]? = some q:=⟨_,List.getElem?_eq_getElem (by rw [hok.ld];exact hd6)⟩
   have hv:=Zdo hm1 hq
   have gL:=Zc5 (sv:=Zhx (Zk G i) (Zf M i).site) (bp:=(Zk G i).bp) (dn:=(Zf M i).done) hv
   have hbz:Vp dn (Zf M i)=(decide (Xf (Zf M i).pl dn≠W4) || ((Zf M i).leads.getD dn none).isSome):=rfl
   have hbu:=Zqh (M:=M) (d:=dn) hlt
   unfold Zbp at hNi
   generalize hmi:Zf M i=m at *
   generalize Zk G i=g at *
   generalize Xf m.pl dn=st at *
   obtain ⟨ph,pr,att⟩:=st
   cases hx:m.leads.getD dn none with
   | some x =>
    rw [hx] at gL hbz
    simp only [Zed] at gL
    have hb1:Vp dn m=true:=by rw [hbz];simp
    rw [if_pos (hbu hb1)]
    repeat' (first|refine uN ?_|refine Z2 S ?_|refine Yp S ?_|refine uC (kst) ?_|refine Yb (fun _=>kst) ?_|refine Yc (fun _=>kst) ?_|refine Yd (fun _=>kst) ?_|refine Ye (fun _=>kst) ?_|(refine uB ?_;intro b)|refine dg S 100 (fun _ _=>?_)|(refine uP ?_ ?_<;>(intro h;((try simp only [zs,zq,reduceCtorEq] at h);try exact zx)))|refine da 101 ?_|fail)
    all_goals exact Z9 (LS.c (LS.refl _)) ⟨rfl,hself⟩
   | none =>
    rw [hx] at gL hbz
    simp only [Zed] at gL
    by_cases hz:ph=0∧pr=0∧att=0
    ·obtain ⟨rfl,rfl,rfl⟩:=hz
     have hb0:Vp dn m=false:=by rw [hbz];rfl
     repeat' (first|refine uN ?_|refine Z2 S ?_|refine Yp S ?_|refine uC (kst) ?_|refine Yb (fun _=>kst) ?_|refine Yc (fun _=>kst) ?_|refine Yd (fun _=>kst) ?_|refine Ye (fun _=>kst) ?_|(refine uB ?_;intro b)|refine dg S 100 (fun _ _=>?_)|(refine uP ?_ ?_<;>(intro h;((try simp only [zs,zq,reduceCtorEq] at h);try exact zx)))|refine da 101 ?_|fail)
     all_goals refine Zg (i+1) uS (LS.c (LS.refl _)) ⟨by omega,fun k hk=>?_⟩ (by omega)
     all_goals by_cases e:k=i
     all_goals first|(subst e;rw [hmi];exact hb0;done)|exact hfree k (by omega)
    ·have hb1:Vp dn m=true:=by
      rw [hbz,decide_eq_true]
      ·rfl
      ·intro e
       cases e
       exact hz ⟨rfl,rfl,rfl⟩
     rw [if_pos (hbu hb1)]
     repeat' (first|refine uN ?_|refine Z2 S ?_|refine Yp S ?_|refine uC (kst) ?_|refine Yb (fun _=>kst) ?_|refine Yc (fun _=>kst) ?_|refine Yd (fun _=>kst) ?_|refine Ye (fun _=>kst) ?_|(refine uB ?_;intro b)|refine dg S 100 (fun _ _=>?_)|(refine uP ?_ ?_<;>(intro h;((try simp only [zs,zq,reduceCtorEq] at h);try exact zx)))|refine da 101 ?_|fail)
     all_goals first|exact Z9 (LS.c (LS.refl _)) ⟨rfl,hself⟩|(exfalso;simp_all;done)
  ·obtain rfl:i=M.n.length:=by omega
   have hany:M.n.any (Vp (dn:Int))=false:=Zl5 hfree
   simp only [hany,Bool.false_eq_true,if_false]
   subst hH
   obtain ⟨aw,capw,hwv,-,hwr⟩:=hW.w.rd Wh
   obtain ⟨al,capl,hlv5,-,hlr⟩:=hW.l.rd Zl
   have hvl:=hW.l
   have hok:=Ud hW h0 h1
   have hni:=Wu hM h0 h1
   have hm1:(Zf M s).leads[dn]? = some ((Zf M s).leads.getD dn none):=getD_some (by rw [hni.leads];exact hd6)
   obtain ⟨q,hq⟩ : ∃ q,(Zk G s).ld[dn]? = some q:=⟨_,List.getElem?_eq_getElem (by rw [hok.ld];exact hd6)⟩
   have hv:=Zdo hm1 hq
   obtain ⟨A,B,eA,eB⟩:=Zjv hm1 hq
   have hlE:=Zjw hM (s:=s) (d:=dn) (a:=0) h0 h1 ⟨by omega,by omega⟩ (by omega)
   have kb:=fun L hG hR=>Zqc T E s dn aw capw M.w L hG hR (by omega)
   rw [hlE] at kb
   rw [hlv5] at hvl
   have hsl:=Zca (Zi s dn M.w 0 2)
   have hslw:(Zi s dn M.w 0 2).w=M.w:=rfl
   rw [hslw] at hsl
   have hsh:=fun G' M1 g' m' a b c d e f=>Zs3 (G:=G) (G':=G') (M:=M) (M1:=M1) (s:=s) (g':=g') (m':=m') L hW.ndl h0 h1 a b c d e f
   have hWL:=fun {lv lc l} hv=>hW.setL (lv:=lv) (lc:=lc) (l:=l) hv
   have hlv:(Xi (Zk G s) (Zf M s)).length=6:=by simp [Xi,hni.leads,hok.ld]
   refine W6 (L':=We G s (Zk G s) (Zf M s) (Vk G.nd M.n 0 s.toNat) L) ?_ (Ziv hW.ndl h0 h1 L)
   generalize Vk G.nd M.n 0 s.toNat=X at *
   generalize hmm:Zf M s=m at *
   generalize hgg:Zk G s=g at *
   obtain ⟨pl,site,leads,done⟩:=m
   simp only at hs hm1 hlv
   subst hs
   simp only [We,Zcl,Zbp,Zhx,Zm8,Zm7,Zm6,Zay]
   rw [hwv,hnv,hlv5]
   repeat' (first|refine uN ?_|refine Z2 S ?_|refine Yp S ?_|refine uC (ku) ?_|refine Yb (fun _=>ku) ?_|refine Yc (fun _=>ku) ?_|refine Yd (fun _=>ku) ?_|refine Ye (fun _=>ku) ?_|(refine uB ?_;intro b)|refine dg S 100 (fun _ _=>?_)|(refine uP ?_ ?_<;>(intro h;((try simp only [zs,zq,reduceCtorEq] at h);try exact zx)))|refine da 101 ?_|fail)
   refine Zlg 4 (by exact rfl) (fun _=>qe S) ?_
   refine Zlg 4 (by exact rfl) (fun _=>qe S) ?_
   refine da 101 ?_
   refine gc (kb _ (by repeat (first|exact hG|exact hG.sub|apply Errs.cons)) ?_) ?_
   ·repeat (first|exact hwr _|apply Rd.cons)
   rintro v L' ⟨lp,wv',wc',rfl,hLd,rfl⟩
   have gP:=Zrt (sv:=pt g.sp 0) (bp:=g.bp) (lv:=Xi g ⟨pl,some (j,ref),leads,done⟩) (dn:=done) (d:=dn) (pt lp 0) (by omega)
   have gL2:=Zc5 (sv:=pt g.sp 0) (bp:=g.bp) (lv:=(Xi g ⟨pl,some (j,ref),leads,done⟩).set dn (pt lp 0)) (dn:=done) (d:=dn) (v:=pt lp 0) (by simp [hlv,hd6])
   have kst:=fun L=>Zhy lp wv' wc' (Zi s dn M.w 0 2) L hLd
   repeat' (first|refine uN ?_|refine Z2 S ?_|refine Yp S ?_|refine uC (ku) ?_|refine Yb (fun _=>ku) ?_|refine Yc (fun _=>ku) ?_|refine Yd (fun _=>ku) ?_|refine Ye (fun _=>ku) ?_|(refine uB ?_;intro b)|refine dg S 100 (fun _ _=>?_)|(refine uP ?_ ?_<;>(intro h;((try simp only [zs,zq,reduceCtorEq] at h);try exact zx)))|refine da 101 ?_|fail)
   refine gc (kst _) ?_
   rintro v L' ⟨c2,hv2,rfl⟩
   obtain ⟨a7,cap7,rfl,-,hR7⟩:=hv2.rd Zl
   repeat' (first|refine uN ?_|refine Z2 S ?_|refine Yp S ?_|refine uC (ku) ?_|refine Yb (fun _=>ku) ?_|refine Yc (fun _=>ku) ?_|refine Yd (fun _=>ku) ?_|refine Ye (fun _=>ku) ?_|(refine uB ?_;intro b)|refine dg S 100 (fun _ _=>?_)|(refine uP ?_ ?_<;>(intro h;((try simp only [zs,zq,reduceCtorEq] at h);try exact zx)))|refine da 101 ?_|fail)
   refine fo 10 ?_
   refine Zzv S hvl (Rd.cons (hR7 _) _) Zl Wr ?_ (hby:=by omega) (hmax:=by omega)
   intro v'' c'' hv''
   obtain ⟨a8,cap8,rfl,-,-⟩:=hv''.rd Zl
   repeat' (first|refine uN ?_|refine Z2 S ?_|refine Yp S ?_|refine uC (ku) ?_|refine Yb (fun _=>ku) ?_|refine Yc (fun _=>ku) ?_|refine Yd (fun _=>ku) ?_|refine Ye (fun _=>ku) ?_|(refine uB ?_;intro b)|refine dg S 100 (fun _ _=>?_)|(refine uP ?_ ?_<;>(intro h;((try simp only [zs,zq,reduceCtorEq] at h);try exact zx)))|refine da 101 ?_|fail)
   obtain ⟨L2,hw2,hls2⟩:=hsh { G with lv := .slice a8 (M.l++Xk (Zi s dn M.w 0 2)).length cap8,lc:=c'' } { M with l:=M.l++Xk (Zi s dn M.w 0 2) } { g with ld:=g.ld.set dn (lp,wv',wc') } ⟨pl,some (j,ref),leads.set dn (some (Zi s dn M.w 0 2)),done⟩
    (hW.setL hv'') rfl rfl rfl (hok.lead (q:=(lp,wv',wc')) hLd) rfl
   refine Z9 (LS.trans hls2 ?_) ⟨rfl,hw2⟩
   have eB2:=eB (some (Zi s dn M.w 0 2)) (lp,wv',wc') ⟨pl,some (j,ref),leads.set dn (some (Zi s dn M.w 0 2)),done⟩ { g with ld:=g.ld.set dn (lp,wv',wc') } rfl rfl
   have eV2:=Zfr (g:=g) (g':={ g with ld:=g.ld.set dn (lp,wv',wc') }) (m:=⟨pl,some (j,ref),leads,done⟩) (m':=⟨pl,some (j,ref),leads.set dn (some (Zi s dn M.w 0 2)),done⟩) (o':=some (Zi s dn M.w 0 2)) (q':=(lp,wv',wc')) rfl rfl
   simp only [We,Zcl,Zbp,Zhx,Zm8,Zm7,Zm6,Zay,eV2]
   rw [eB2,eA,hwv,hnv]
   simp only [ldB,Q1,Zed]
   refine LS.trans ls7 (LS.cutAt 10 ?_)
   exact uL
end Go.HL
end

/-! WoU -/
section
namespace Go.HL
open Go Go.Proofs
theorem Zqb {k s a j:Int} (hk:0<k) (hs0:0≤s) (hs1:s<k) (hj0:0≤j) (hj:j≤(s-a) % k):((a+j) % k=s↔j=(s-a) % k):=by
 have hr0:=Int.emod_nonneg (s-a) (by omega:k≠0)
 have hr1:=Int.emod_lt_of_pos (s-a) hk
 have e1:=Int.emod_add_mul_ediv (s-a) k
 have e2:=Int.emod_add_mul_ediv (a+j) k
 have h0:=Int.emod_nonneg (a+j) (by omega:k≠0)
 have h1:=Int.emod_lt_of_pos (a+j) hk
 generalize (s-a) % k=r at *
 generalize (a+j) % k=t at *
 generalize (s-a) / k=u at *
 generalize (a+j) / k=v at *
 -- s-a=r+k u,a+j=t+k v
 have e3:s-t=(r-j)+k*(u+v):=by rw [Int.mul_add];omega
 constructor
 ·intro h
  subst h
  have:(r-j) = - (k*(u+v)):=by omega
  have hz:u+v=0:=by
   rcases Int.lt_trichotomy (u+v) 0 with h|h|h
   ·have:k*(u+v)≤k*(-1):=Int.mul_le_mul_of_nonneg_left (by omega) (by omega)
    omega
   ·exact h
   ·have:k*1≤k*(u+v):=Int.mul_le_mul_of_nonneg_left (by omega) (by omega)
    omega
  rw [hz] at this
  omega
 ·intro h
  subst h
  have hz:u+v=0:=by
   rcases Int.lt_trichotomy (u+v) 0 with h|h|h
   ·have:k*(u+v)≤k*(-1):=Int.mul_le_mul_of_nonneg_left (by omega) (by omega)
    omega
   ·exact h
   ·have:k*1≤k*(u+v):=Int.mul_le_mul_of_nonneg_left (by omega) (by omega)
    omega
  rw [hz] at e3
  omega
theorem Zhe (x:Ld) (l:List Fr) (i:Nat) (h:i<l.length):Z6 x (l.take (i+1))=((Zw (Z6 x (l.take i)).1 l[i]).1,(Z6 x (l.take i)).2++(Zw (Z6 x (l.take i)).1 l[i]).2):=by
 unfold Z6
 rw [List.take_add_one,List.getElem?_eq_getElem h,Option.toList_some,List.foldl_append]
 rfl
set_option maxHeartbeats 2000000 attribute [local irreducible] HW HO HQ HD HC QOp Has Upd Zt Gets Z8 Z0 Zo Xm Zz Zj Xp Zy
attribute [local irreducible] Vh Yr Xl Zs X3 Zn
theorem Zvx (T:Nat) (E:Nat→Addr) (G:WdG) (M:Wm) (s d p:Int) (L:Zb) (hG:Er T E [2,3,4,5,6] L) (hW:WdOk G M) (hM:WI M) (hl:M.l.length≤99999900) (h0:0≤s) (h1:s<M.n.length) (hs:(Zf M s).site≠none) (hd:0≤d∧d<6) (hp:0≤p∧p≤1048576) :
  HC Tryz.prog 148 [pt G.wp 0,iv s,iv d,iv p] (Xj G M++L) (fun v L'=>v = .bool (Zbl M s d p).2∧Zg5 G (Zbl M s d p).1 L L'):=by
 have hself:=Vy hW L
 have hI:=Zas hW L
 have hwn:=hM.wn
 have hwl:=hM.wl
 have hw1:=hM.w1
 have hG':=Ww hG G M
 have hw:=hI.wp
 obtain ⟨⟨nb,ni,nl,nF,nfr,ncap,hnv,hnb,hng⟩,-,-⟩:=Zfw hW h0 h1 (H:=Xj G M++L) (fun b o hb=>by
  simp only [Has,Xj,Zgf,List.flatten_cons,List.cons_append,List.nil_append]
  simp [hb])
 obtain ⟨aw,capw,hwv,-,hwr⟩:=hW.w.rd Wh
 unfold Zay at hw
 rw [hnv,hwv] at hw
 have hok:=Ud hW h0 h1
 have hni:=Wu hM h0 h1
 obtain ⟨dn,rfl⟩:=Int.eq_ofNat_of_zero_le hd.1
 have hd6:dn<6:=by omega
 have hm1:(Zf M s).leads[dn]? = some ((Zf M s).leads.getD dn none):=getD_some (by rw [hni.leads];exact hd6)
 obtain ⟨q,hq⟩ : ∃ q,(Zk G s).ld[dn]? = some q:=⟨_,List.getElem?_eq_getElem (by rw [hok.ld];exact hd6)⟩
 have hv:=Zdo hm1 hq
 have gL:=Zc5 (sv:=Zhx (Zk G s) (Zf M s).site) (bp:=(Zk G s).bp) (dn:=(Zf M s).done) hv
 have hN:=Zcd hW.ndl h0 h1 L
 have hB : ∀ {b:Nat} {o:Obj},(b,o)∈Zj6 (Zk G s) s (Zf M s)→Has (Xj G M++L) b o:=fun {b o} hb=>by
  have:=Zg0 hW.ndl h0 h1 hb L
  unfold Has Xj at *
  rw [List.append_assoc,List.flatten_append]
  exact List.mem_append_right _ this
 have kse : ∀ x,(Zf M s).leads[dn]? = some (some x)→HC Tryz.prog 189 [pt q.1 0] (Xj G M++L) (fun v L'=>v=iv x.seen∧L'=(Xj G M++L)):=fun x hx=>lseenH q.1 q.2.1 x _ (hni.ldi dn x hx).told (hB (by
  unfold Zj6
  exact List.mem_append_right _ (Zrc hx hq (by simp [Q1]))))
 have hab:0≤Yu (Zf M s) dn p∧Yu (Zf M s) dn p≤1048576:=by
  unfold Yu
  split
  ·exact hp
  ·rename_i x hx
   have:=hni.ldi dn x (by rw [hm1];simp only [Int.toNat_natCast] at hx;rw [hx])
   have h1:=this.seen0
   have h2:=this.seen1
   omega
 have hr0:=Int.emod_nonneg (s-(Yu (Zf M s) dn p+1)) (by omega:(M.w.length:Int)≠0)
 have hr1:=Int.emod_lt_of_pos (s-(Yu (Zf M s) dn p+1)) (by omega:(0:Int)<M.w.length)
 unfold Zbp at hN
 generalize hH:Xj G M++L=H at *
 unfold Zbl Zar
 have habv:Yu (Zf M s) dn p=match (Zf M s).leads.getD dn none with
  | none=>p
  | some x=>max p x.seen:=rfl
 generalize hab2:Yu (Zf M s) dn p=ab at *
 refine Za (fun _ _=>Tryz.call148 _ _) Tryz.func148 rfl Tryz.ntmps148 (Nat.le_of_ble_eq_true rfl) ?_;simp only [Zd,Nat.reduceAdd]
 apply Zus (ι:=Int) (fun a=>a=ab) (fun a=>[(0,pt G.wp 0),(1,iv s),(2,iv dn),(9,pt (Zk G s).np 0),(12,iv M.w.length),(13,iv (a+1))]) (fun _=>H)
 ·intro key
  cases hx:(Zf M s).leads.getD dn none with
  | none =>
   rw [hx] at gL habv
   simp only [Zed] at gL habv
   repeat' (first|refine uN ?_|refine Z2 S ?_|refine Yp S ?_|refine uC (kse _ hx) ?_|refine Yb (fun _=>kse _ hx) ?_|refine Yc (fun _=>kse _ hx) ?_|refine Yd (fun _=>kse _ hx) ?_|refine Ye (fun _=>kse _ hx) ?_|(refine uB ?_;intro b)|(refine uP ?_ ?_<;>(intro h;((try simp only [zs,zq,reduceCtorEq] at h);try exact zx)))|refine da 101 ?_|fail)
   exact W6 (Zgo (key _ habv.symm) uS) (LS.refl _)
  | some x =>
   rw [hx] at gL habv hm1
   simp only [Zed] at gL habv
   have kse2:=kse x hm1
   repeat' (first|refine uN ?_|refine Z2 S ?_|refine Yp S ?_|refine uC (kse2) ?_|refine Yb (fun _=>kse2) ?_|refine Yc (fun _=>kse2) ?_|refine Yd (fun _=>kse2) ?_|refine Ye (fun _=>kse2) ?_|(refine uB ?_;intro b)|(refine uP ?_ ?_<;>(intro h;((try simp only [zs,zq,reduceCtorEq] at h);try exact zx)))|refine da 101 ?_|fail)
   exact W6 (Zgo (key _ habv.symm) uS) (LS.refl _)
 rintro ab' rfl
 refine Zp (σ:=Int) (fun x=>[(0,pt G.wp 0),(1,iv s),(2,iv dn),(9,pt (Zk G s).np 0),(12,iv M.w.length),(13,iv x)]) (fun _=>H) (fun x => ∃ j:Nat,x=ab'+1+j∧(j:Int)≤(s-(ab'+1)) % M.w.length) (fun x=>(ab'+1+(s-(ab'+1)) % M.w.length-x).toNat) (ab'+1) uS (List.Sublist.refl _) ⟨0,by simp,hr0⟩ ?_
 rintro x ⟨j,rfl,hj⟩
 have hst:=Zqb (k:=M.w.length) (s:=s) (a:=ab'+1) (j:=j) (by omega) h0 (by omega) (by omega) hj
 by_cases hlt:(j:Int)=(s-(ab'+1)) % M.w.length
 ·rw [← hlt]
  have hst2:=hst.2 hlt
  have kH:=fun x=>Zgg T E G M s (Vv s dn x) L hG.sub hW hM h0 h1 hs
  have hRI:=fun x=>hM.hear (f:=Vv s dn x) h0 h1 (by show s<_;omega)
  have hRl:=fun x=>Zdm M s (Vv s dn x)
  have hRw : ∀ x,(Yt M s (Vv s dn x)).1.w=M.w:=fun x=>rfl
  have hRL : ∀ x,(Yt M s (Vv s dn x)).1.l=M.l:=fun x=>rfl
  have hRn : ∀ x,(Yt M s (Vv s dn x)).1.n.length=M.n.length:=fun x=>by
   exact (hRI x).1.wn.trans ((congrArg List.length (hRw x)).trans hwn.symm)
  subst hH
  clear hst kse hB hnb
  have ha1:1≤ab'+1+j:=by omega
  have ha2:ab'+1+j≤1048590:=by omega
  have ha3:0≤ab'+1+(j:Int):=by omega
  clear hj
  generalize ab'+1+(j:Int)=a at *
  specialize kH a
  specialize hRI a
  specialize hRl a
  specialize hRw a
  specialize hRL a
  specialize hRn a
  generalize Yt M s (Vv s dn a)=R at *
  obtain ⟨M2,told,ok⟩:=R
  simp only at kH hRI hRl hRw hRL hRn ⊢
  obtain ⟨hM2,hfo⟩:=hRI
  repeat' (first|refine uN ?_|refine Z2 S ?_|refine Yp S ?_|refine uC (hab) ?_|refine Yb (fun _=>hab) ?_|refine Yc (fun _=>hab) ?_|refine Yd (fun _=>hab) ?_|refine Ye (fun _=>hab) ?_|(refine uB ?_;intro b)|(refine uP ?_ ?_<;>(intro h;((try simp only [zs,zq,reduceCtorEq] at h);try exact zx)))|refine da 101 ?_|fail)
  ·rw [if_pos h]
   exact Z9 (LS.refl _) ⟨rfl,hself⟩
  all_goals rw [if_neg h]
  all_goals refine gc kH ?_
  all_goals rintro v L' ⟨c,⟨fv,hfv,rfl⟩,G2,e1,e2,hW2,rfl⟩
  all_goals obtain ⟨af,capf,rfl,-,hRf⟩:=hfv.rd Zl
  all_goals cases ok with
  | false =>
   simp only [if_true]
   repeat' (first|refine uN ?_|refine Z2 S ?_|refine Yp S ?_|refine uC (hab) ?_|refine Yb (fun _=>hab) ?_|refine Yc (fun _=>hab) ?_|refine Yd (fun _=>hab) ?_|refine Ye (fun _=>hab) ?_|(refine uB ?_;intro b)|(refine uP ?_ ?_<;>(intro h;((try simp only [zs,zq,reduceCtorEq] at h);try exact zx)))|refine da 101 ?_|fail)
   refine Z9 (L':=Xj G2 M2++L) ?_ ⟨rfl,G2,e1,e2,hW2,rfl⟩
   simp only [List.flatten_append,List.flatten_cons]
   exact LS.boths _ (LS.skips _ (LS.refl _))
  | true =>
   simp only [Bool.true_eq_false,if_false]
   have h1':s<M2.n.length:=by rw [hRn];exact h1
   have hl2:=hW2.ndl
   have hnp2:=Zws e2 h0 (by rw [hW.ndl];exact h1)
   have hok2:=Ud hW2 h0 h1'
   have hni2:=Wu hM2 h0 h1'
   have hw22:=hW2.w
   rw [hRw] at hw22
   obtain ⟨aw2,capw2,hwv2,-,hwr2⟩:=hw22.rd Wh
   obtain ⟨al2,capl2,hlv2,-,-⟩:=hW2.l.rd Zl
   have hvl:=hW2.l
   rw [hlv2] at hvl
   have hm2:(Zf M2 s).leads[dn]? = some ((Zf M2 s).leads.getD dn none):=getD_some (by rw [hni2.leads];exact hd6)
   obtain ⟨q2,hq2⟩ : ∃ q2,(Zk G2 s).ld[dn]? = some q2:=⟨_,List.getElem?_eq_getElem (by rw [hok2.ld];exact hd6)⟩
   have hv2:=Zdo hm2 hq2
   obtain ⟨A,B,eA,eB⟩:=Zjv hm2 hq2
   have htE:tryE s dn M.w a=none:=by
    unfold tryE
    rw [Zjw hM h0 h1 hd (by omega)]
    simp only
    rw [if_neg (by omega)]
   have kt:=fun L hG hR=>Zzr T E s dn aw2 capw2 M.w a L hG hR (by omega)
   rw [htE] at kt
   have hNI:LdI M.w s.toNat dn (Zi s dn M.w a 4):=by
    have:=Zij (w:=M.w) (s:=s.toNat) (d:=dn) (a:=a) (k:=4) (by omega) (by omega)
    rw [show ((s.toNat:Nat):Int)=s by omega] at this
    exact this
   have hsl:=Zca (Zi s dn M.w a 4)
   have hslw:(Zi s dn M.w a 4).w=M.w:=rfl
   rw [hslw] at hsl
   have hsh:=fun G' M1 g' m' a b c d e f=>Zs3 (G:=G2) (G':=G') (M:=M2) (M1:=M1) (s:=s) (g':=g') (m':=m') L hl2 h0 h1' a b c d e f
   have hlvs:(Xi (Zk G2 s) (Zf M2 s)).length=6:=by simp [Xi,hni2.leads,hok2.ld]
   refine Q5 (L':=We G2 s (Zk G2 s) (Zf M2 s) (Vk G2.nd M2.n 0 s.toNat) (c::L)) ?_ (Ziv hl2 h0 h1' _)
   simp only [← hnp2]
   have hGP : ∀ L L',Zg5 G2 { Y0 M2 s { Zf M2 s with leads:=(Zf M2 s).leads.set dn (some (Z6 (Zi s dn M.w a 4) told).1) } with l:=M2.l++Xk (Zi s dn M.w a 4)++(Z6 (Zi s dn M.w a 4) told).2 } L L' →
     Zg5 G { Y0 M2 s { Zf M2 s with leads:=(Zf M2 s).leads.set dn (some (Z6 (Zi s dn M.w a 4) told).1) } with l:=M2.l++Xk (Zi s dn M.w a 4)++(Z6 (Zi s dn M.w a 4) told).2 } L L':=fun L L' h=>by
    obtain ⟨G3,f1,f2,f3,f4⟩:=h
    exact ⟨G3,f1.trans e1,f2.trans e2,f3,f4⟩
   generalize Vk G2.nd M2.n 0 s.toNat=X at *
   generalize hmm:Zf M2 s=m at *
   generalize hgg:Zk G2 s=g at *
   simp only [We,Zcl,Zbp,Zay,e1]
   rw [hwv2,hlv2]
   repeat' (first|refine uN ?_|refine Z2 S ?_|refine Yp S ?_|refine uC (hab) ?_|refine Yb (fun _=>hab) ?_|refine Yc (fun _=>hab) ?_|refine Yd (fun _=>hab) ?_|refine Ye (fun _=>hab) ?_|(refine uB ?_;intro b)|(refine uP ?_ ?_<;>(intro h;((try simp only [zs,zq,reduceCtorEq] at h);try exact zx)))|refine da 101 ?_|fail)
   refine gc (kt _ (by repeat (first|exact hG|exact hG.sub|apply Errs.cons)) ?_) ?_
   ·repeat (first|exact hwr2 _|apply Rd.cons)
   rintro v L' ⟨lp,wv',wc',rfl,hLd,rfl⟩
   have gP:=Zrt (sv:=Zhx g m.site) (bp:=g.bp) (lv:=Xi g m) (dn:=m.done) (d:=dn) (pt lp 0) (by omega)
   have kst:=fun L=>Zhy lp wv' wc' (Zi s dn M.w a 4) L hLd
   repeat' (first|refine uN ?_|refine Z2 S ?_|refine Yp S ?_|refine uC (hab) ?_|refine Yb (fun _=>hab) ?_|refine Yc (fun _=>hab) ?_|refine Yd (fun _=>hab) ?_|refine Ye (fun _=>hab) ?_|(refine uB ?_;intro b)|(refine uP ?_ ?_<;>(intro h;((try simp only [zs,zq,reduceCtorEq] at h);try exact zx)))|refine da 101 ?_|fail)
   refine gc (kst _) ?_
   rintro v L' ⟨c2,hv2,rfl⟩
   obtain ⟨a7,cap7,rfl,-,hR7⟩:=hv2.rd Zl
   repeat' (first|refine uN ?_|refine Z2 S ?_|refine Yp S ?_|refine uC (hab) ?_|refine Yb (fun _=>hab) ?_|refine Yc (fun _=>hab) ?_|refine Yd (fun _=>hab) ?_|refine Ye (fun _=>hab) ?_|(refine uB ?_;intro b)|(refine uP ?_ ?_<;>(intro h;((try simp only [zs,zq,reduceCtorEq] at h);try exact zx)))|refine da 101 ?_|fail)
   refine fo 10 ?_
   refine Zzv S hvl (Rd.cons (hR7 _) _) Zl Wr ?_ (hby:=by rw [hRL];omega) (hmax:=by rw [hRL];omega)
   intro v'' c'' hv''
   obtain ⟨a8,cap8,rfl,-,-⟩:=hv''.rd Zl
   repeat' (first|refine uN ?_|refine Z2 S ?_|refine Yp S ?_|refine uC (hab) ?_|refine Yb (fun _=>hab) ?_|refine Yc (fun _=>hab) ?_|refine Yd (fun _=>hab) ?_|refine Ye (fun _=>hab) ?_|(refine uB ?_;intro b)|(refine uP ?_ ?_<;>(intro h;((try simp only [zs,zq,reduceCtorEq] at h);try exact zx)))|refine da 101 ?_|fail)
   have hho:=fun i=>Zdn (w:=M.w) (s:=s.toNat) (d:=dn) (by omega) hwl hd6 (told.take i) (Zi s dn M.w a 4) [] hNI (fun f hf=>hfo f (List.mem_of_mem_take hf)) (fun f hf=>by cases hf)
   change ∀ i,LdI M.w s.toNat dn (Z6 (Zi s dn M.w a 4) (told.take i)).1 ∧ ∀ f∈(Z6 (Zi s dn M.w a 4) (told.take i)).2,Zil M.w.length f at hho
   refine Zp (σ:=Nat × Value × List Zr) (fun r=>[(0,pt G.wp 0),(16,pt lp 0),(96,.slice af told.length capf),(97,iv told.length),(98,iv r.1)])
    (fun r=>r.2.2::Q1 lp wv' wc' (Z6 (Zi s dn M.w a 4) (told.take r.1)).1::[(G.wp,.cells ⟨[.slice aw2 M.w.length capw2,G2.nv,.map (some G2.mb),r.2.1,G2.ev]⟩ 150)]::G2.ec::[(g.np,.cells ⟨Vh (Zhx g m.site) g.bp ((Xi g m).set dn (pt lp 0)) m.done⟩ 162)]::Zm8 g s m.site::Zm7 g m.site::Xl g.bp g.ba m.pl::Zm6 g m.site::Zbz g m::G2.wc::G2.nc::[(G2.mb,.map ⟨G2.es⟩ G2.ck)]::X::c::L)
    (fun r=>r.1≤told.length∧(Z6 (Zi s dn M.w a 4) (told.take r.1)).2.length≤7*r.1∧Z7 r.2.1 (M2.l++Xk (Zi s dn M.w a 4)++(Z6 (Zi s dn M.w a 4) (told.take r.1)).2) r.2.2) (fun r=>told.length-r.1) (0,.slice a8 (M2.l++Xk (Zi s dn M.w a 4)).length cap8,c'') uS (by refine List.Sublist.cons_cons _ (List.Sublist.cons _ (List.Sublist.refl _))) ⟨by simp,by simp [Z6],by simpa [Z6] using hv''⟩ ?_
   rintro ⟨i,lv3,lc3⟩ ⟨hi,hlen,hv3⟩
   simp only at hi hlen hv3 ⊢
   obtain ⟨hI3,hF3⟩:=hho i
   have hlast:i=told.length→Z6 (Zi s dn M.w a 4) (told.take i)=Z6 (Zi s dn M.w a 4) told:=fun e=>by rw [e,List.take_length]
   have hsucc:=fun h=>Zhe (Zi s dn M.w a 4) told i h
   have hLO3:LdOk wv' wc' (Z6 (Zi s dn M.w a 4) (told.take i)).1:=hLd.of hI3.ww (by rw [hI3.told];rfl)
   have hhd3:(Z6 (Zi s dn M.w a 4) (told.take i)).1.heard<2 ^ (Z6 (Zi s dn M.w a 4) (told.take i)).1.w.length:=by rw [hI3.ww];exact hI3.heard
   obtain ⟨al3,capl3,hlv3,-,-⟩:=hv3.rd Zl
   subst hlv3
   by_cases hit:i<told.length
   ·specialize hsucc hit
    have hq:=hho (i+1)
    have hl3:=Zba (Z6 (Zi s dn M.w a 4) (told.take i)).1 told[i]
    rw [hI3.ww] at hl3
    rw [hsucc] at hq
    have kh:=fun L hG=>Zjm T E lp wv' wc' (Z6 (Zi s dn M.w a 4) (told.take i)).1 told[i] L hG hLO3 hhd3
    obtain ⟨b5,i5,l5,F5,fr5,e6,hb5,hg5⟩:=(hRf L).at (j:=(i:Int)) (by omega) (by omega)
    subst e6
    have hgi:told[(i:Int).toNat]'(by omega)=told[i]:=rfl
    rw [hgi] at hg5
    clear hlast hI3 hF3 hho
    generalize Z6 (Zi s dn M.w a 4) (told.take i)=Q at *
    obtain ⟨x3,fs3⟩:=Q
    simp only at hlen hv3 hLO3 hhd3 hl3 kh hsucc ⊢
    generalize told[i]=f at *
    obtain ⟨ffr,fto,fdl,fkd,fatt,fys,fs⟩:=f
    repeat' (first|refine uN ?_|refine Z2 S ?_|refine Yp S ?_|refine uC (hab) ?_|refine Yb (fun _=>hab) ?_|refine Yc (fun _=>hab) ?_|refine Yd (fun _=>hab) ?_|refine Ye (fun _=>hab) ?_|(refine uB ?_;intro b)|(refine uP ?_ ?_<;>(intro h;((try simp only [zs,zq,reduceCtorEq] at h);try exact zx)))|refine da 101 ?_|fail)
    refine fo 2 ?_
    refine gc (kh _ (by repeat (first|exact hG|exact hG.sub|apply Errs.cons))) ?_
    rintro v L' ⟨c4,hv4,rfl⟩
    obtain ⟨a9,cap9,rfl,-,hR9⟩:=hv4.rd Zl
    repeat' (first|refine uN ?_|refine Z2 S ?_|refine Yp S ?_|refine uC (hab) ?_|refine Yb (fun _=>hab) ?_|refine Yc (fun _=>hab) ?_|refine Yd (fun _=>hab) ?_|refine Ye (fun _=>hab) ?_|(refine uB ?_;intro b)|(refine uP ?_ ?_<;>(intro h;((try simp only [zs,zq,reduceCtorEq] at h);try exact zx)))|refine da 101 ?_|fail)
    refine fo 3 ?_
    refine Zzv S hv3 (Rd.cons (hR9 _) _) Zl Wr ?_ (hby:=by simp only [List.length_append,hRL];omega) (hmax:=by simp only [List.length_append,hRL];omega)
    intro v5 c5 hv5
    obtain ⟨a10,cap10,rfl,-,-⟩:=hv5.rd Zl
    repeat' (first|refine uN ?_|refine Z2 S ?_|refine Yp S ?_|refine uC (hab) ?_|refine Yb (fun _=>hab) ?_|refine Yc (fun _=>hab) ?_|refine Yd (fun _=>hab) ?_|refine Ye (fun _=>hab) ?_|(refine uB ?_;intro b)|(refine uP ?_ ?_<;>(intro h;((try simp only [zs,zq,reduceCtorEq] at h);try exact zx)))|refine da 101 ?_|fail)
    refine Zg (i+1,.slice a10 (M2.l++Xk (Zi s dn M.w a 4)++fs3++(Zw x3 ⟨ffr,fto,fdl,fkd,fatt,fys,fs⟩).2).length cap10,c5) uS ?_ ⟨by simp only;omega,?_,?_⟩ (by simp only;omega)
    ·simp only [hsucc,Q1]
     exact uL
    ·simp only [hsucc,List.length_append]
     omega
    ·simp only [hsucc]
     rw [← List.append_assoc]
     exact hv5
   ·obtain rfl:i=told.length:=by omega
    rw [hlast rfl] at hv3 hI3 ⊢
    have hLO4:=hlast rfl▸hLO3
    repeat' (first|refine uN ?_|refine Z2 S ?_|refine Yp S ?_|refine uC (hab) ?_|refine Yb (fun _=>hab) ?_|refine Yc (fun _=>hab) ?_|refine Yd (fun _=>hab) ?_|refine Ye (fun _=>hab) ?_|(refine uB ?_;intro b)|(refine uP ?_ ?_<;>(intro h;((try simp only [zs,zq,reduceCtorEq] at h);try exact zx)))|refine da 101 ?_|fail)
    obtain ⟨L2,hw2,hls2⟩:=hsh { G2 with lv := .slice al3 (M2.l++Xk (Zi s dn M.w a 4)++(Z6 (Zi s dn M.w a 4) told).2).length capl3,lc:=lc3 } { M2 with l:=M2.l++Xk (Zi s dn M.w a 4)++(Z6 (Zi s dn M.w a 4) told).2 } { g with ld:=g.ld.set dn (lp,wv',wc') } { m with leads:=m.leads.set dn (some (Z6 (Zi s dn M.w a 4) told).1) }
     (hW2.setL hv3) rfl rfl rfl (hok2.lead (q:=(lp,wv',wc')) hLO4) rfl
    refine Z9 (LS.trans hls2 ?_) ⟨rfl,hGP _ _ hw2⟩
    have eB2:=eB (some (Z6 (Zi s dn M.w a 4) told).1) (lp,wv',wc') { m with leads:=m.leads.set dn (some (Z6 (Zi s dn M.w a 4) told).1) } { g with ld:=g.ld.set dn (lp,wv',wc') } rfl rfl
    have eV2:=Zfr (g:=g) (g':={ g with ld:=g.ld.set dn (lp,wv',wc') }) (m:=m) (m':={ m with leads:=m.leads.set dn (some (Z6 (Zi s dn M.w a 4) told).1) }) (o':=some (Z6 (Zi s dn M.w a 4) told).1) (q':=(lp,wv',wc')) rfl rfl
    simp only [We,Zcl,Zbp,Zay,eV2]
    rw [eB2,eA,hwv2,e1]
    simp only [ldB,Q1,Zed]
    refine LS.trans ls7 (LS.cutAt 9 ?_)
    exact uL
 ·have hst2 : ¬ (ab'+1+j) % M.w.length=s:=fun h=>hlt (hst.1 h)
  repeat' (first|refine uN ?_|refine Z2 S ?_|refine Yp S ?_|refine uC (hab) ?_|refine Yb (fun _=>hab) ?_|refine Yc (fun _=>hab) ?_|refine Yd (fun _=>hab) ?_|refine Ye (fun _=>hab) ?_|(refine uB ?_;intro b)|(refine uP ?_ ?_<;>(intro h;((try simp only [zs,zq,reduceCtorEq] at h);try exact zx)))|refine da 101 ?_|fail)
  refine Zg (ab'+1+(j:Int)+1) uS (LS.refl _) ⟨j+1,by push_cast;omega,by push_cast;omega⟩ (by omega)
end Go.HL
end

/-! StE -/
section
namespace Go.HL
open Go Go.Proofs
theorem si_new {n:Nat} (h:216≤n) (h2:n≤1000000):SI ⟨Yk n,false,-1⟩ ⟨Zn (Yk n),false⟩:=by
 refine ⟨⟨by simpa [Yk] using h,by simpa [Yk] using h2,by simp,by simp,rfl,rfl⟩,fun d hd=>?_⟩
 have:Yq ⟨Zn (Yk n),false⟩ d=W4:=by
  unfold Yq
  rw [Zex h]
  show ((List.replicate 6 Zm).getD d Zm).s=W4
  rw [List.getD,List.getElem?_replicate]
  split<;>rfl
 rw [this]
 exact ⟨by decide,by decide,by decide,by decide,by decide⟩
set_option maxHeartbeats 2000000 attribute [local irreducible] HW HO HQ HD HC QOp Has Upd Zt Gets Z8 Z0 Zo Xm Zz Zj Xp Zy
attribute [local irreducible] Yr Xl Yk Zn Xt Yj Zs
end Go.HL
end

/-! WoJ -/
section
namespace Go.HL
open Go Go.Proofs
theorem WI.at {M:Wm} (h:WI M) {s:Int} (h0:0≤s) (h1:s<M.n.length):NdI M.w s.toNat (Zf M s):=h.nd s.toNat _ (getD_some (by omega))
theorem Zc3 {M:Wm} {s:Int} {m:Nd} (h0:0≤s) (h1:s<M.n.length):Zf (Y0 M s m) s=m:=by
 unfold Zf Y0
 simp only
 rw [List.getD,List.getElem?_set_self (by omega)]
 rfl
theorem Zc4 {M:Wm} {s q:Int} {m:Nd} (h:q.toNat≠s.toNat):Zf (Y0 M s m) q=Zf M q:=by
 unfold Zf Y0
 simp only [List.getD]
 rw [List.getElem?_set_ne (Ne.symm h)]
structure Same (M M':Wm):Prop where
 w:M'.w=M.w
 n:M'.n.length=M.n.length
theorem Same.refl (M:Wm):Same M M:=⟨rfl,rfl⟩
theorem Same.trans {A B C:Wm} (h:Same A B) (h':Same B C):Same A C:=⟨h'.w.trans h.w,h'.n.trans h.n⟩
theorem Zk0 (M:Wm) (s:Int) (m:Nd):Same M (Y0 M s m):=⟨rfl,by simp [Y0]⟩
theorem Zdt (M:Wm) (s:Int) (f:Fr):Same M (Yt M s f).1:=⟨rfl,by simp [Yt,Y0]⟩
theorem hearW_l (M:Wm) (s:Int) (f:Fr):(Yt M s f).1.l=M.l:=rfl
theorem Zt7 {M:Wm} {s:Int} {f:Fr} (h0:0≤s) (h1:s<M.n.length) (h:(Yt M s f).2.2=true):(Zf (Yt M s f).1 s).site≠none:=by
 have e:Zf (Yt M s f).1 s=(Y7 s (Zf M s) M.ev f).1:=by
  unfold Yt
  exact Zc3 h0 h1
 rw [e]
 unfold Yt at h
 simp only at h
 unfold Y7 at h ⊢
 split at h
 ·cases h
 ·split at h
  ·cases h
  ·rename_i hoff
   simp only [if_neg hoff]
   simp
theorem Zml (M:Wm) (s:Int) (f:Fr):(Yt M s f).2.1.length≤1:=by
 unfold Yt Y7
 split
 ·simp
 ·rename_i j ref _
  split
  ·simp
  ·simp only
   unfold Zs
   split
   ·simp
   split
   ·simp
   split
   ·simp
   ·simp only
    split<;>simp
theorem Zjn {w:List Int} {s d:Nat} (hs:s<w.length) (hw:w.length≤7) (hd:d<6) : ∀ (l:List Fr) (x:Ld) (acc:List Fr),LdI w s d x→(∀ f∈l,Zil w.length f)→(l.foldl (fun q f=>((Zw q.1 f).1,q.2++(Zw q.1 f).2)) (x,acc)).2.length≤acc.length+7*l.length
 | [],x,acc,hx,_=>by simp
 | f::l,x,acc,hx,hl=>by
  rw [List.foldl_cons]
  have k1:=(hx.hear hs hw hd (hl f (by simp)).1).1
  have k2:=Zba x f
  rw [hx.ww] at k2
  have:=Zjn hs hw hd l _ (acc++(Zw x f).2) k1 (fun g hg=>hl g (by simp [hg]))
  simp only [List.length_append,List.length_cons] at this ⊢
  omega
theorem Znf (m:Ld):(Xk m).length≤m.w.length:=by
 unfold Xk
 split<;>exact Un _ (Ze9 m _ _) _
structure TryOk (M M':Wm) (s:Int) (b:Bool):Prop where
 wi:WI M'
 same:Same M M'
 len:M'.l.length≤M.l.length+14
 up:b=true→(Zf M' s).site≠none
theorem Zsy {w:List Int} {s:Nat} {m:Nd} (hm:NdI w s m) {d p:Int} (hd:0≤d∧d<6) (hp:0≤p∧p≤1048576):0≤Yu m d p∧Yu m d p≤1048576:=by
 unfold Yu
 split
 ·exact hp
 ·rename_i x hx
  have:=hm.ldi d.toNat x (by
   have h6:=hm.leads
   rw [getD_some (x:=none) (l:=m.leads) (i:=d.toNat) (by omega),hx])
  have h1:=this.seen0
  have h2:=this.seen1
  omega
theorem try_ok {M:Wm} (h:WI M) {s d p:Int} (h0:0≤s) (h1:s<M.n.length) (hs:(Zf M s).site≠none) (hd:0≤d∧d<6) (hp:0≤p∧p≤1048576):TryOk M (Zbl M s d p).1 s (Zbl M s d p).2:=by
 have hn:=h.wn
 have hw:=h.wl
 have hw1:=h.w1
 have hab:=Zsy (h.at h0 h1) hd hp
 unfold Zbl
 simp only
 generalize ha:Zar M.w.length s (Yu (Zf M s) d p+1)=a
 have ha1:1≤a:=by
  unfold Zar at ha
  have:=Int.emod_nonneg (s-(Yu (Zf M s) d p+1)) (by omega:(M.w.length:Int)≠0)
  omega
 split
 ·exact ⟨h,.refl _,by simp,fun _=>hs⟩
 rename_i hle
 obtain ⟨hI,hF⟩:=h.hear (f:=Vv s d a) h0 h1 (by show s<_;omega)
 have hS:=Zdt M s (Vv s d a)
 have hone:=Zml M s (Vv s d a)
 have hl:=hearW_l M s (Vv s d a)
 have hst:=Zt7 (f:=Vv s d a) h0 h1
 generalize Yt M s (Vv s d a)=R at *
 split
 ·rename_i hr
  exact ⟨hI,hS,by rw [hl];omega,fun e=>by cases e⟩
 rename_i hr
 have hr':R.2.2=true:=by simpa using hr
 have h1':s<R.1.n.length:=by rw [hS.n];exact h1
 have hx:=hI.at h0 h1'
 have hNI:LdI M.w s.toNat d.toNat (Zi s d M.w a 4):=by
  have:=Zij (w:=M.w) (s:=s.toNat) (d:=d.toNat) (a:=a) (k:=4) (by omega) (by omega)
  rw [show ((s.toNat:Nat):Int)=s by omega,show ((d.toNat:Nat):Int)=d by omega] at this
  exact this
 have hho:=Zdn (w:=M.w) (s:=s.toNat) (d:=d.toNat) (by omega) hw (by omega) R.2.1 (Zi s d M.w a 4) [] hNI hF (fun f hf=>by cases hf)
 have hhl:=Zjn (w:=M.w) (s:=s.toNat) (d:=d.toNat) (by omega) hw (by omega) R.2.1 (Zi s d M.w a 4) [] hNI hF
 change LdI M.w s.toNat d.toNat (Z6 (Zi s d M.w a 4) R.2.1).1 ∧ ∀ f∈(Z6 (Zi s d M.w a 4) R.2.1).2,Zil M.w.length f at hho
 change (Z6 (Zi s d M.w a 4) R.2.1).2.length≤_ at hhl
 have hso:=Zng hNI (by omega) hw (by omega)
 have hsl:=Znf (Zi s d M.w a 4)
 rw [show (Zi s d M.w a 4).w=M.w from rfl] at hsl
 have hset:=hI.set (m:={ Zf R.1 s with leads:=(Zf R.1 s).leads.set d.toNat (some (Z6 (Zi s d M.w a 4) R.2.1).1) }) h0 (hx.lead (by rw [hS.w];exact hho.1))
 refine ⟨hset.setL fun f hf=>?_,hS.trans ⟨rfl,by simp [Y0]⟩,?_,fun _=>?_⟩
 ·show Zil R.1.w.length f
  rw [hS.w]
  rw [hl] at hf
  rcases List.mem_append.1 hf with hf|hf
  ·rcases List.mem_append.1 hf with hf|hf
   ·exact h.fr f hf
   ·exact hso f hf
  ·exact hho.2 f hf
 ·simp only [List.length_append,hl]
  simp only [List.length_nil] at hhl
  omega
 ·have e:(Zf (Y0 R.1 s { Zf R.1 s with leads:=(Zf R.1 s).leads.set d.toNat (some (Z6 (Zi s d M.w a 4) R.2.1).1) }) s).site≠none:=by
   rw [Zc3 h0 h1']
   exact hst hr'
  exact e
theorem Zty {M:Wm} (h:WI M) {s:Int} {d:Nat} (h0:0≤s) (h1:s<M.n.length) (hd:d<6) {st:St} (hst:Zgy st) : ∀ f∈W7 M s d st,Zil M.w.length f:=by
 intro f hf
 have hn:=h.wn
 have hw:=h.wl
 unfold W7 at hf
 obtain ⟨i,hi,rfl⟩:=List.mem_map.1 hf
 have:=List.mem_range.1 hi
 obtain ⟨g1,g2,g3,g4,g5⟩:=hst
 unfold Zil X5
 simp only
 omega
theorem Zcv (M:Wm) (s d:Int) (st:St):(W7 M s d st).length=M.w.length:=by simp [W7]
structure TickOk (M:Wm) (q:Wm × Bool) (s:Int) (k:Nat):Prop where
 wi:WI q.1
 same:Same M q.1
 len:q.1.l.length≤M.l.length+14*k
 up:q.2=true→(Zf q.1 s).site≠none
theorem tickD_ok {M:Wm} {q:Wm × Bool} {s:Int} {k d:Nat} (h:TickOk M q s k) (h0:0≤s) (h1:s<M.n.length) (hd:d<6):TickOk M (tickD s q d) s (k+1):=by
 obtain ⟨M1,b⟩:=q
 have hl:=h.len
 have hwl:=h.wi.wl
 have hn:=h.same.n
 simp only at hl hn hwl
 unfold tickD
 split
 ·exact ⟨h.wi,h.same,by simp only;omega,h.up⟩
 split
 ·exact ⟨h.wi,h.same,by simp only;omega,fun e=>by cases e⟩
 rename_i hb _ j ref hs
 have hs':(Zf M1 s).site=some (j,ref):=hs
 have hni:=h.wi.at (s:=s) h0 (by simp only;omega)
 have hS:=(hni.jn hs').st d hd
 split
 ·exact ⟨h.wi,h.same,by simp only;omega,h.up⟩
 split
 ·refine ⟨h.wi.setL fun f hf=>?_,⟨h.same.w,h.same.n⟩,?_,fun _=>h.up (by simpa using hb)⟩
  ·rcases List.mem_append.1 hf with hf|hf
   ·exact h.wi.fr f hf
   ·exact Zty h.wi h0 (by simp only;omega) hd hS f hf
  ·simp only [List.length_append,Zcv]
   omega
 ·obtain ⟨g1,g2,g3,g4,g5⟩:=hS
  have ht:=try_ok h.wi (s:=s) (d:=d) (p:=(Yq j d).pr) h0 (by simp only;omega) (h.up (by simpa using hb)) (by omega) (by omega)
  have h4:(Zbl M1 s d (Yq j d).pr).1.l.length≤M1.l.length+14:=ht.len
  have h5:(Zbl M1 s d (Yq j d).pr).1.l.length≤M.l.length+14*(k+1):=by omega
  exact ⟨ht.wi,h.same.trans ht.same,h5,ht.up⟩
theorem Zaq {M:Wm} (h:WI M) {s:Int} (h0:0≤s) (h1:s<M.n.length) (hs:(Zf M s).site≠none) : ∀ k,k≤6→TickOk M ((List.range k).foldl (tickD s) (M,true)) s k
 | 0,_=>⟨h,.refl _,by simp,fun _=>hs⟩
 | k+1,hk=>by
  rw [List.range_succ,List.foldl_append]
  exact tickD_ok (Zaq h h0 h1 hs k (by omega)) h0 h1 (by omega)
structure StepOk (M M':Wm) (k:Nat):Prop where
 wi:WI M'
 same:Same M M'
 len:M'.l.length≤M.l.length+k
theorem StepOk.refl {M:Wm} (h:WI M) (k:Nat):StepOk M M k:=⟨h,.refl _,by omega⟩
theorem StepOk.mono {M M':Wm} {k k':Nat} (h:StepOk M M' k) (hk:k≤k'):StepOk M M' k':=⟨h.wi,h.same,by have:=h.len;omega⟩
theorem V5 {M:Wm} {s:Int} (h:Zco M s=none):0≤s∧s<M.n.length∧(Zf M s).site≠none:=by
 unfold Zco at h
 split at h
 ·cases h
 ·rename_i hn
  obtain ⟨h0,h1⟩:=Y8 hn
  split at h
  ·cases h
  ·rename_i hs
   exact ⟨h0,h1,fun e=>hs (by rw [e];rfl)⟩
theorem tick_ok {M:Wm} (h:WI M) (s:Int):StepOk M (Uc M s).1 84:=by
 unfold Uc
 split
 ·exact .refl h _
 ·rename_i hu
  obtain ⟨h0,h1,hs⟩:=V5 hu
  have:=Zaq h h0 h1 hs 6 (by omega)
  exact ⟨this.wi,this.same,this.len⟩
theorem begin_ok {M:Wm} (h:WI M) (s d:Int):StepOk M (Wv M s d).1 7:=by
 have hn:=h.wn
 have hw:=h.wl
 unfold Wv
 split
 ·exact .refl h _
 rename_i hb
 split
 ·exact .refl h _
 split
 ·exact .refl h _
 have hNI:LdI M.w s.toNat d.toNat (Zi s d M.w 0 2):=by
  have:=Zij (w:=M.w) (s:=s.toNat) (d:=d.toNat) (a:=0) (k:=2) (by omega) (by omega)
  rw [show ((s.toNat:Nat):Int)=s by omega,show ((d.toNat:Nat):Int)=d by omega] at this
  exact this
 have hso:=Zng hNI (by omega) hw (by omega)
 have hsl:=Znf (Zi s d M.w 0 2)
 rw [show (Zi s d M.w 0 2).w=M.w from rfl] at hsl
 have hset:=h.set (m:={ Zf M s with leads:=(Zf M s).leads.set d.toNat (some (Zi s d M.w 0 2)) }) (s:=s) (by omega) ((h.at (by omega) (by omega)).lead hNI)
 refine ⟨hset.setL fun f hf=>?_,⟨rfl,by simp [Y0]⟩,by simp;omega⟩
 rcases List.mem_append.1 hf with hf|hf
 ·exact h.fr f hf
 ·exact hso f hf
theorem Zzc {M:Wm} (h:WI M) (s d:Int):StepOk M (Wo M s d).1 0:=by
 unfold Wo
 split
 ·exact .refl h _
 split
 ·exact .refl h _
 rename_i hu
 obtain ⟨h0,h1,hs⟩:=V5 hu
 have hx:=h.at h0 h1
 refine ⟨h.set h0 ?_,Zk0 _ _ _,by simp [Y0]⟩
 unfold U2
 split
 ·exact hx
 ·rename_i j ref hj
  exact ⟨hx.leads,hx.done,hx.b512,hx.si,fun j2 r2 e=>by cases e;exact hx.up j ref hj,fun e=>(by cases e),hx.ldi⟩
theorem Zfm {M:Wm} (h:WI M) {k:Int} (hk:Zs1 M k=none):Zil M.w.length (M.l.getD k.toNat Yv)∧0≤k∧k<M.l.length:=by
 unfold Zs1 at hk
 split at hk
 ·cases hk
 ·have hlt:k.toNat<M.l.length:=by omega
  have e:M.l.getD k.toNat Yv=M.l[k.toNat]:=by rw [List.getD,List.getElem?_eq_getElem hlt];rfl
  rw [e]
  exact ⟨h.fr _ (List.getElem_mem _),by omega,by omega⟩
theorem Qg {M:Wm} (h:WI M) (k:Int):StepOk M (Ya M k).1 6:=by
 have hn:=h.wn
 have hw:=h.wl
 unfold Ya
 split
 ·exact .refl h _
 rename_i hk
 obtain ⟨⟨hbad,hto,hfr⟩,hk0,hk1⟩:=Zfm h hk
 generalize M.l.getD k.toNat Yv=f at *
 have hE:=h.erase k.toNat
 have hel:(M.l.eraseIdx k.toNat).length=M.l.length-1:=by rw [List.length_eraseIdx,if_pos (by omega)]
 have hS1:Same M { M with l:=M.l.eraseIdx k.toNat }:=⟨rfl,rfl⟩
 have hb2:=hbad
 unfold X5 at hb2
 simp only
 split
 ·exact ⟨hE,hS1,by simp only [hel];omega⟩
 split
 ·split
  ·exact ⟨hE,hS1,by simp only [hel];omega⟩
  ·rename_i x hx
   have hni:=hE.at (s:=f.to) (by omega) (by simp only;omega)
   have h6:=hni.leads
   have hLI:=hni.ldi f.dl.toNat x (by rw [getD_some (x:=none) (by omega),hx])
   obtain ⟨k1,k2⟩:=hLI.hear (by simp only;omega) hw (by omega) hbad
   have k3:=Zba x f
   rw [hLI.ww] at k3
   have hset:=hE.set (m:={ Zf { M with l:=M.l.eraseIdx k.toNat } f.to with leads:=(Zf { M with l:=M.l.eraseIdx k.toNat } f.to).leads.set f.dl.toNat (some (Zw x f).1) }) (s:=f.to) (by omega) (hni.lead k1)
   refine ⟨hset.setL fun g hg=>?_,⟨rfl,by simp [Y0]⟩,?_⟩
   ·rcases List.mem_append.1 hg with hg|hg
    ·exact hE.fr g hg
    ·exact k2 g hg
   ·simp only [List.length_append,hel]
    simp only at k3
    omega
 ·obtain ⟨k1,k2⟩:=hE.hear (s:=f.to) (f:=f) (by omega) (by simp only;omega) hfr
  have k3:=Zml { M with l:=M.l.eraseIdx k.toNat } f.to f
  have k4:=Zdt { M with l:=M.l.eraseIdx k.toNat } f.to f
  refine ⟨k1.setL fun g hg=>?_,⟨k4.w,k4.n⟩,?_⟩
  ·show Zil (Yt { M with l:=M.l.eraseIdx k.toNat } f.to f).1.w.length g
   rw [k4.w]
   rcases List.mem_append.1 hg with hg|hg
   ·exact hE.fr g hg
   ·exact k2 g hg
  ·simp only [List.length_append,hel]
   omega
theorem drop_ok {M:Wm} (h:WI M) (k:Int):StepOk M (Qp M k).1 0:=by
 unfold Qp
 split
 ·exact .refl h _
 ·exact ⟨h.erase _,⟨rfl,rfl⟩,by simp only [List.length_eraseIdx];split<;>omega⟩
theorem twice_ok {M:Wm} (h:WI M) (k:Int):StepOk M (Vw M k).1 1:=by
 unfold Vw
 split
 ·exact .refl h _
 rename_i hk
 obtain ⟨hf,hk0,hk1⟩:=Zfm h hk
 refine ⟨h.setL fun g hg=>?_,⟨rfl,rfl⟩,?_⟩
 ·rcases List.mem_append.1 hg with hg|hg
  ·exact h.fr g (List.mem_of_mem_take hg)
  ·rcases List.mem_cons.1 hg with hg|hg
   ·rw [hg];exact hf
   ·exact h.fr g (List.mem_of_mem_drop hg)
 ·simp only [List.length_append,List.length_take,List.length_cons,List.length_drop]
  omega
theorem Zwp {M:Wm} (h:WI M) (a b:Int) (c:Bool):StepOk M (V8 M a b c).1 0:=by
 unfold V8
 split
 ·exact .refl h _
 ·exact ⟨h.setB _,⟨rfl,rfl⟩,by simp⟩
theorem cut_ok {M:Wm} (h:WI M) (s n:Int) (hn:n≤9223372036854775807):StepOk M (Zct M s n).1 0:=by
 unfold Zct
 split
 ·exact .refl h _
 split
 ·exact .refl h _
 rename_i hn0 _ hu
 obtain ⟨h0,h1,hs⟩:=V5 hu
 have hx:=h.at h0 h1
 refine ⟨h.set h0 ⟨hx.leads,hx.done,hx.b512,hx.si.cut (by omega) hn,hx.up,hx.dn,hx.ldi⟩,Zk0 _ _ _,by simp [Y0]⟩
theorem SI.down {m:Pl} {b:Bool} (h:SI m ⟨Zn m.b,b⟩):SI { m with off:=true } ⟨Zn m.b,true⟩:=⟨⟨h.ji.lo,h.ji.hi,h.ji.c0,h.ji.c1,rfl,rfl⟩,h.st⟩
theorem down_ok {M:Wm} (h:WI M) (s:Int):StepOk M (Qo M s).1 0:=by
 unfold Qo
 split
 ·exact .refl h _
 rename_i hu
 obtain ⟨h0,h1,hs⟩:=V5 hu
 have hx:=h.at h0 h1
 exact ⟨h.set h0 (hx.fall hx.b512 hx.si.down rfl),Zk0 _ _ _,by simp [Y0]⟩
theorem NdI.boot {w:List Int} {s:Nat} {m:Nd} (h:NdI w s m) (dn:List Bool) (hd:dn.length=6):NdI w s { Uz m with done:=dn }:=
 ⟨h.leads,hd,h.b512,h.si.boot,fun j ref e=>by cases e;exact ⟨rfl,rfl⟩,fun e=>(by cases e),h.ldi⟩
theorem up_ok {M:Wm} (h:WI M) (s:Int):StepOk M (Zpo M s).1 0:=by
 unfold Zpo
 split
 ·exact .refl h _
 split
 ·exact .refl h _
 rename_i hu _
 obtain ⟨h0,h1⟩:=Y8 hu
 have hx:=h.at h0 h1
 exact ⟨(h.set h0 (hx.boot _ (by rw [Zmu];exact hx.done))).setE (Zry _ _ _ h.evl),⟨rfl,by simp [Y0]⟩,by simp [Y0]⟩
theorem newNd_I (w:List Int) (s:Nat):NdI w s newNd:=by
 have hS:=si_new (n:=512) (by omega) (by omega)
 refine ⟨rfl,rfl,(by show (Yk 512).length=512;unfold Yk;exact List.length_replicate),hS,fun j ref e=>by cases e;exact ⟨rfl,rfl⟩,fun e=>(by cases e),fun d x hx=>?_⟩
 simp only [newNd,noLeads,List.getElem?_replicate] at hx
 split at hx<;>cases hx
theorem Zuo {w:List Int} (h:Ym w=none):WI (Ve w):=by
 obtain ⟨c1,c2,-⟩:=Vn h
 refine ⟨h,c2,c1,by simp [Ve],fun f hf=>(by cases hf),by simp [Ve],fun s m hm=>?_⟩
 simp only [Ve,List.getElem?_replicate] at hm
 split at hm
 ·cases hm
  exact newNd_I _ _
 ·cases hm
end Go.HL
end

/-! WoV -/
section
namespace Go.HL
open Go Go.Proofs
def Wg (s:Int) (M:Wm) (k:Nat):Wm × Bool:=(List.range k).foldl (tickD s) (M,true)
theorem Ze6 (s:Int) (M:Wm) (k:Nat):Wg s M (k+1)=tickD s (Wg s M k) k:=by
 unfold Wg
 rw [List.range_succ,List.foldl_append]
 rfl
theorem Ze5 {s:Int} {M:Wm} {k:Nat} (h:(Wg s M k).2=false) : ∀ j,Wg s M (k+j)=Wg s M k
 | 0=>rfl
 | j+1=>by
  rw [← Nat.add_assoc,Ze6,Ze5 h j]
  unfold tickD
  rw [if_pos h]
theorem Zn6 (M:Wm) (s d:Int) (st:St) (i:Nat):((List.range (i+1)).map fun (i:Nat)=>(⟨s,(i:Int),d,7,st.pr,false,⟨st.ph,0,0⟩⟩:Fr))=((List.range i).map fun (i:Nat)=>(⟨s,(i:Int),d,7,st.pr,false,⟨st.ph,0,0⟩⟩:Fr))++[⟨s,(i:Int),d,7,st.pr,false,⟨st.ph,0,0⟩⟩]:=by
 rw [List.range_succ,List.map_append]
 rfl
theorem ls_out {A L:Zb} {c:List Zr}:LS (A++L).flatten (c::(A++L)).flatten:=by
 rw [List.flatten_cons]
 exact LS.skips c (LS.refl _)
theorem ls_in {A L:Zb} {c:List Zr}:LS (A++(c::L)).flatten (c::(A++L)).flatten:=by
 simp only [List.flatten_cons,List.flatten_append]
 refine LS.of_perm ?_
 rw [← List.append_assoc,← List.append_assoc]
 exact List.perm_append_comm.append_right _
set_option maxHeartbeats 2000000 attribute [local irreducible] HW HO HQ HD HC QOp Has Upd Zt Gets Z8 Z0 Zo Xm Zz Zj Xp Zy
attribute [local irreducible] Vh Yr Xl Zs X3 Zn Zbl
theorem Ztb (T:Nat) (E:Nat→Addr) (G:WdG) (M:Wm) (s:Int) (L:Zb) (hG:Er T E [2,3,4,5,6] L) (hW:WdOk G M) (hM:WI M) (hl:M.l.length≤99999000) :
  HC Tryz.prog 87 [pt G.wp 0,iv s] (Xj G M++L) (fun v L'=>v=eV T E (Uc M s).2∧Zg5 G (Uc M s).1 L L'):=by
 unfold Uc
 have hself:=Vy hW L
 rcases Za2 (M:=M) (s:=s) with ⟨e,he⟩|⟨he,hn,h0,h1,j,ref,hs⟩
 ·have ku:=Zjt s hG.sub hW
  have hG':=Ww hG G M
  generalize Xj G M++L=H at *
  simp only [he] at ku ⊢
  refine Za (fun _ _=>Tryz.call87 _ _) Tryz.func87 rfl Tryz.ntmps87 (Nat.le_of_ble_eq_true rfl) ?_;simp only [Zd,Nat.reduceAdd]
  repeat' (first|refine uN ?_|refine Z2 S ?_|refine Yp S ?_|refine uC (ku) ?_|refine Yb (fun _=>ku) ?_|refine Yc (fun _=>ku) ?_|refine Yd (fun _=>ku) ?_|refine Ye (fun _=>ku) ?_|(refine uB ?_;intro b)|(refine uP ?_ ?_<;>(intro h;((try simp only [zs,zq,reduceCtorEq] at h);try exact zx)))|refine da 101 ?_|fail)
  exact Um rfl ⟨rfl,hself⟩
 ·have ku:=Zjt s hG.sub hW
  simp only [he,Zvn hn] at ku ⊢
  have hticks:=fun k hk=>Zaq hM h0 h1 (by rw [hs];simp) k hk
  change ∀ k,k≤6→TickOk M (Wg s M k) s k at hticks
  change HC _ _ _ _ (fun v L'=>v=eV T E none∧Zg5 G (Wg s M 6).1 L L')
  refine Za (fun _ _=>Tryz.call87 _ _) Tryz.func87 rfl Tryz.ntmps87 (Nat.le_of_ble_eq_true rfl) ?_;simp only [Zd,Nat.reduceAdd]
  repeat' (first|refine uN ?_|refine Z2 S ?_|refine Yp S ?_|refine uC (ku) ?_|refine Yb (fun _=>ku) ?_|refine Yc (fun _=>ku) ?_|refine Yd (fun _=>ku) ?_|refine Ye (fun _=>ku) ?_|(refine uB ?_;intro b)|(refine uP ?_ ?_<;>(intro h;((try simp only [zs,zq,reduceCtorEq] at h);try exact zx)))|refine da 101 ?_|fail)
  refine Zp (σ:=Nat × WdG) (fun r=>[(0,pt G.wp 0),(1,iv s),(5,pt (Zk G s).np 0),(20,iv r.1)]) (fun r=>Xj r.2 (Wg s M r.1).1++L)
   (fun r=>r.1≤6∧(Wg s M r.1).2=true∧WdOk r.2 (Wg s M r.1).1∧r.2.wp=G.wp∧r.2.nd.map (·.np)=G.nd.map (·.np)) (fun r=>6-r.1) (0,G) uS (List.Sublist.refl _) ⟨by simp,rfl,hW,rfl,rfl⟩ ?_
  rintro ⟨d,G1⟩ ⟨hd,hon,hW1,e1,e2⟩
  simp only at hd hon hW1 e1 e2 ⊢
  obtain ⟨hM1,hsame,hlen,hsite⟩:=hticks d hd
  have hsite1:=hsite hon
  have hnx:=Ze6 s M d
  by_cases hd6:d<6
  ·have hnx2:=hticks (d+1) (by omega)
   have hstop:=fun h=>Ze5 (s:=s) (M:=M) (k:=d+1) h (5-d)
   rw [show d+1+(5-d)=6 by omega] at hstop
   generalize Wg s M d=q at *
   obtain ⟨M1,b⟩:=q
   simp only at hon hW1 hM1 hsame hlen hsite1 ⊢
   subst hon
   have h1':s<M1.n.length:=by rw [hsame.n];exact h1
   have hnp2:=Zws e2 h0 (by rw [hW.ndl];exact h1)
   have hok:=Ud hW1 h0 h1'
   have hni:=Wu hM1 h0 h1'
   obtain ⟨⟨j1,ref1⟩,hs1⟩:=Option.ne_none_iff_exists'.1 hsite1
   have hj:=hni.jn hs1
   have hst:=hj.st d hd6
   have hB : ∀ {b:Nat} {o:Obj},(b,o)∈Zj6 (Zk G1 s) s (Zf M1 s)→Has (Xj G1 M1++L) b o:=fun {b o} hb=>by
    have:=Zg0 hW1.ndl h0 h1' hb L
    unfold Has Xj at *
    rw [List.append_assoc,List.flatten_append]
    exact List.mem_append_right _ this
   have hN:Has (Xj G1 M1++L) (Zk G1 s).np (Zbp (Zk G1 s) (Zf M1 s)):=Zcd hW1.ndl h0 h1' L
   have hA1:Has (Xj G1 M1++L) (Zk G1 s).sp (.cells ⟨[pt (Zk G1 s).bj 0,iv s,.map (some (Zk G1 s).mb)]⟩ 211):=hB (by simp [Zj6,hs1,siB,Zh8])
   have hA2:Has (Xj G1 M1++L) (Zk G1 s).bj (.cells ⟨Yr (Zk G1 s).bp j1⟩ 251):=hB (by simp [Zj6,hs1,siB,jC])
   have kst:=Zej (Zk G1 s).sp (Zk G1 s).bj (Zk G1 s).mb (Zk G1 s).bp s j1 d _ hA1 hA2 hj.ji.jn.len hd6
   have htd:Wg s M (d+1)=if Yq j1 d=W4 then (M1,true) else if (Yq j1 d).ph=2∨(Yq j1 d).ph=3 then ({ M1 with l:=M1.l++W7 M1 s d (Yq j1 d) },true) else Zbl M1 s d (Yq j1 d).pr:=by
    rw [hnx]
    unfold tickD
    simp only [hs1,Bool.true_eq_false,if_false]
   have g0:(Vh (pt (Zk G1 s).sp 0) (Zk G1 s).bp (Xi (Zk G1 s) (Zf M1 s)) (Zf M1 s).done)[0+0]? = some (pt (Zk G1 s).sp 0):=Wc rfl
   unfold Zbp at hN
   rw [hs1] at hN
   simp only [Zhx,hnp2] at hN
   change HC _ _ _ _ (fun v L'=>v = .tuple ⟨[.agg ⟨sc (Yq j1 d)⟩,.nilIface]⟩∧_) at kst
   have hdl:=Zcv M1 s d (Yq j1 d)
   have hdF:W7 M1 s d (Yq j1 d)=(List.range M1.w.length).map fun (i:Nat)=>(⟨s,(i:Int),d,7,(Yq j1 d).pr,false,⟨(Yq j1 d).ph,0,0⟩⟩:Fr):=rfl
   have hsuccF:=fun i=>Zn6 M1 s d (Yq j1 d) i
   generalize Yq j1 d=st at *
   obtain ⟨ph,pr,att⟩:=st
   obtain ⟨q1,q2,q3,q4,q5⟩:=hst
   simp only at q1 q2 q3 q4 q5 hdF hsuccF
   have hwn:=hM1.wn
   have hwl:=hM1.wl
   by_cases hz:ph=0∧pr=0∧att=0
   ·obtain ⟨rfl,rfl,rfl⟩:=hz
    rw [if_pos (show (⟨0,0,0⟩:St)=W4 from rfl)] at htd
    clear hA1 hA2 hB
    generalize hH:Xj G1 M1++L=H at *
    repeat' (first|refine uN ?_|refine Z2 S ?_|refine Yp S ?_|refine uC (kst) ?_|refine Yb (fun _=>kst) ?_|refine Yc (fun _=>kst) ?_|refine Yd (fun _=>kst) ?_|refine Ye (fun _=>kst) ?_|(refine uB ?_;intro b)|(refine uP ?_ ?_<;>(intro h;((try simp only [zs,zq,reduceCtorEq] at h);try exact zx)))|refine da 101 ?_|fail)
    all_goals subst hH
    all_goals refine Zg (d+1,G1) uS ?_ ⟨by simp only;omega,by simp only [htd],by simp only [htd];exact hW1,e1,e2⟩ (by simp only;omega)
    all_goals simp only [htd]
    all_goals exact ls_out
   have hz2 : ¬ ((⟨ph,pr,att⟩:St)=W4):=fun e=>by cases e;exact hz ⟨rfl,rfl,rfl⟩
   rw [if_neg hz2] at htd
   by_cases hf:ph=2∨ph=3
   ·rw [if_pos hf] at htd
    obtain ⟨aw2,capw2,hwv2,-,-⟩:=hW1.w.rd Wh
    obtain ⟨al2,capl2,hlv2,-,-⟩:=hW1.l.rd Zl
    have hvl:=hW1.l
    rw [hlv2] at hvl
    have hwp:=(Zas hW1 L).wp
    unfold Zay at hwp
    rw [hwv2,hlv2] at hwp
    rw [e1] at hwp
    clear hA1 hA2 hB
    generalize hH:Xj G1 M1++L=H at *
    repeat' (first|refine uN ?_|refine Z2 S ?_|refine Yp S ?_|refine uC (kst) ?_|refine Yb (fun _=>kst) ?_|refine Yc (fun _=>kst) ?_|refine Yd (fun _=>kst) ?_|refine Ye (fun _=>kst) ?_|(refine uB ?_;intro b)|(refine uP ?_ ?_<;>(intro h;((try simp only [zs,zq,reduceCtorEq] at h);try exact zx)))|refine da 101 ?_|fail)
    all_goals subst hH
    all_goals refine W6 (L':=[(b,.cells ⟨sc ⟨ph,pr,att⟩⟩ 69)]::G1.lc::[(G.wp,.cells ⟨[.slice aw2 M1.w.length capw2,G1.nv,.map (some G1.mb),.slice al2 M1.l.length capl2,G1.ev]⟩ 150)]::G1.wc::G1.nc::[(G1.mb,.map ⟨G1.es⟩ G1.ck)]::G1.ec::Qj G1.nd M1.n 0::L) ?_ (by simp only [Xj,Zgf,Zay,List.cons_append,List.nil_append,hwv2,hlv2,e1];exact uL)
    all_goals refine Zp (σ:=Nat × Value × List Zr) (fun r=>[(0,pt G.wp 0),(1,iv s),(5,pt (Zk G s).np 0),(7,iv d),(8,pt b 0),(20,iv d),(49,iv M1.w.length),(50,iv r.1)]) (fun r=>[(b,.cells ⟨sc ⟨ph,pr,att⟩⟩ 69)]::r.2.2::[(G.wp,.cells ⟨[.slice aw2 M1.w.length capw2,G1.nv,.map (some G1.mb),r.2.1,G1.ev]⟩ 150)]::G1.wc::G1.nc::[(G1.mb,.map ⟨G1.es⟩ G1.ck)]::G1.ec::Qj G1.nd M1.n 0::L) (fun r=>r.1≤M1.w.length∧Z7 r.2.1 (M1.l++(List.range r.1).map fun (i:Nat)=>(⟨s,(i:Int),d,7,pr,false,⟨ph,0,0⟩⟩:Fr)) r.2.2) (fun r=>M1.w.length-r.1) (0,.slice al2 M1.l.length capl2,G1.lc) uS (List.Sublist.refl _) ⟨by simp,by simpa using hvl⟩ ?_
    all_goals rintro ⟨i,lv3,lc3⟩ ⟨hi,hv3⟩
    all_goals simp only at hi hv3 ⊢
    all_goals obtain ⟨al3,capl3,hlv3,-,-⟩:=hv3.rd Zl
    all_goals subst hlv3
    all_goals
     by_cases hit:i<M1.w.length
     ·repeat' (first|refine uN ?_|refine Z2 S ?_|refine Yp S ?_|(refine uB ?_;intro b)|(refine uP ?_ ?_<;>(intro h;((try simp only [zs,zq,reduceCtorEq] at h);try exact zx)))|refine da 101 ?_|fail)
      refine fo 2 ?_
      refine Zce S (⟨s,(i:Int),d,7,pr,false,⟨ph,0,0⟩⟩:Fr) hv3 Zl Wr ?_ (hby:=by simp only [List.length_append,List.length_map,List.length_range];omega) (hmax:=by simp only [List.length_append,List.length_map,List.length_range];omega)
      intro v' c' hv'
      obtain ⟨a6,cap6,he6,-,-⟩:=hv'.rd Zl
      subst he6
      rw [List.append_assoc,← hsuccF i] at hv'
      repeat' (first|refine uN ?_|refine Z2 S ?_|refine Yp S ?_|(refine uB ?_;intro b)|(refine uP ?_ ?_<;>(intro h;((try simp only [zs,zq,reduceCtorEq] at h);try exact zx)))|refine da 101 ?_|fail)
      refine Zg (i+1,_,c') uS ?_ ⟨by simp only;omega,hv'⟩ (by simp only;omega)
      rw [List.append_assoc,← hsuccF i]
      exact uL
     ·obtain rfl:i=M1.w.length:=by omega
      rw [← hdF] at hv3
      repeat' (first|refine uN ?_|refine Z2 S ?_|refine Yp S ?_|(refine uB ?_;intro b)|(refine uP ?_ ?_<;>(intro h;((try simp only [zs,zq,reduceCtorEq] at h);try exact zx)))|refine da 101 ?_|fail)
      refine Zg (d+1,{ G1 with lv := .slice al3 (M1.l++W7 M1 s d ⟨ph,pr,att⟩).length capl3,lc:=lc3 }) uS ?_ ⟨by simp only;omega,by simp only [htd],by simp only [htd];exact hW1.setL hv3,e1,e2⟩ (by simp only;omega)
      simp only [htd,Xj,Zgf,Zay,List.cons_append,List.nil_append,hwv2,e1,hdF]
      exact uL
   ·rw [if_neg hf] at htd
    have hk:=fun L hG=>Zvx T E G1 M1 s d pr L hG hW1 hM1 (by omega) h0 h1' hsite1 (by omega) (by omega)
    rw [← htd] at hk
    simp only [e1] at hk
    have ho:(Wg s M (d+1)).2=true∨(Wg s M (d+1)).2=false:=by cases (Wg s M (d+1)).2<;>simp
    clear hA1 hA2 hB
    generalize hH:Xj G1 M1++L=H at *
    rcases ho with ho|ho
    ·rw [ho] at hk
     repeat' (first|refine uN ?_|refine Z2 S ?_|refine Yp S ?_|refine uC (kst) ?_|refine Yb (fun _=>kst) ?_|refine Yc (fun _=>kst) ?_|refine Yd (fun _=>kst) ?_|refine Ye (fun _=>kst) ?_|(refine uB ?_;intro b)|(refine uP ?_ ?_<;>(intro h;((try simp only [zs,zq,reduceCtorEq] at h);try exact zx)))|refine da 101 ?_|fail)
     all_goals subst hH
     all_goals refine Q5 (L':=Xj G1 M1++([(b,.cells ⟨sc ⟨ph,pr,att⟩⟩ 69)]::L)) ?_ ls_in
     all_goals refine gc (hk _ (hG.cons _)) ?_
     all_goals rintro v L' ⟨rfl,G3,f1,f2,f3,rfl⟩
     all_goals repeat' (first|refine uN ?_|refine Z2 S ?_|refine Yp S ?_|refine uC (kst) ?_|refine Yb (fun _=>kst) ?_|refine Yc (fun _=>kst) ?_|refine Yd (fun _=>kst) ?_|refine Ye (fun _=>kst) ?_|(refine uB ?_;intro b)|(refine uP ?_ ?_<;>(intro h;((try simp only [zs,zq,reduceCtorEq] at h);try exact zx)))|refine da 101 ?_|fail)
     all_goals refine Zg (d+1,G3) uS ?_ ⟨by simp only;omega,ho,f3,f1.trans e1,f2.trans e2⟩ (by simp only;omega)
     all_goals simp only [List.flatten_append,List.flatten_cons]
     all_goals exact LS.boths _ (LS.skips _ (LS.refl _))
    ·rw [ho] at hk
     rw [hstop ho]
     repeat' (first|refine uN ?_|refine Z2 S ?_|refine Yp S ?_|refine uC (kst) ?_|refine Yb (fun _=>kst) ?_|refine Yc (fun _=>kst) ?_|refine Yd (fun _=>kst) ?_|refine Ye (fun _=>kst) ?_|(refine uB ?_;intro b)|(refine uP ?_ ?_<;>(intro h;((try simp only [zs,zq,reduceCtorEq] at h);try exact zx)))|refine da 101 ?_|fail)
     all_goals subst hH
     all_goals refine Q5 (L':=Xj G1 M1++([(b,.cells ⟨sc ⟨ph,pr,att⟩⟩ 69)]::L)) ?_ ls_in
     all_goals refine gc (hk _ (hG.cons _)) ?_
     all_goals rintro v L' ⟨rfl,G3,f1,f2,f3,rfl⟩
     all_goals repeat' (first|refine uN ?_|refine Z2 S ?_|refine Yp S ?_|refine uC (kst) ?_|refine Yb (fun _=>kst) ?_|refine Yc (fun _=>kst) ?_|refine Yd (fun _=>kst) ?_|refine Ye (fun _=>kst) ?_|(refine uB ?_;intro b)|(refine uP ?_ ?_<;>(intro h;((try simp only [zs,zq,reduceCtorEq] at h);try exact zx)))|refine da 101 ?_|fail)
     all_goals refine Z9 (L':=Xj G3 (Wg s M (d+1)).1++L) ?_ ⟨rfl,G3,f1.trans e1,f2.trans e2,f3,rfl⟩
     all_goals simp only [List.flatten_append,List.flatten_cons]
     all_goals exact LS.boths _ (LS.skips _ (LS.refl _))
  ·obtain rfl:d=6:=by omega
   repeat' (first|refine uN ?_|refine Z2 S ?_|refine Yp S ?_|(refine uB ?_;intro b)|(refine uP ?_ ?_<;>(intro h;((try simp only [zs,zq,reduceCtorEq] at h);try exact zx)))|refine da 101 ?_|fail)
   exact Um rfl ⟨rfl,G1,e1,e2,hW1,rfl⟩
end Go.HL
end

/-! WoW -/
section
namespace Go.HL
open Go Go.Proofs
def Zot (np bp ba sp bj mb:Nat):NdG:=⟨np,bp,ba,sp,bj,mb,[],0,List.replicate 6 (0,.pointer none,[])⟩
theorem Zrv : ∀ {gs:List NdG} {ms:List Nd} {i:Nat} {g:NdG} {m:Nd},gs.length=ms.length→Qj (gs++[g]) (ms++[m]) i=Qj gs ms i++Zj6 g ((i+gs.length:Nat):Int) m
 | [],[],i,g,m,_=>by simp [Qj]
 | [],_::_,_,_,_,h=>by simp at h
 | _::_,[],_,_,_,h=>by simp at h
 | g0::gs,m0::ms,i,g,m,h=>by
  have ih:=Zrv (gs:=gs) (ms:=ms) (i:=i+1) (g:=g) (m:=m) (by simpa using h)
  simp only [List.cons_append,Qj,ih,List.append_assoc,List.length_cons]
  rw [show i+1+gs.length=i+(gs.length+1) by omega]
theorem newNd_ok (np bp ba sp bj mb:Nat):NdOk (Zot np bp ba sp bj mb) newNd:=by
 refine ⟨rfl,fun d x hx=>?_,fun j ref e=>by cases e;exact Zj3⟩
 simp only [newNd,noLeads,List.getElem?_replicate] at hx
 split at hx<;>cases hx
theorem Zyr (np bp ba sp bj mb:Nat):Zbz (Zot np bp ba sp bj mb) newNd=[]:=rfl
theorem Zys (np bp ba sp bj mb:Nat):Vh (Zhx (Zot np bp ba sp bj mb) newNd.site) bp (Xi (Zot np bp ba sp bj mb) newNd) newNd.done=[pt sp 0,pt bp 0,.pointer none,.pointer none,.pointer none,.pointer none,.pointer none,.pointer none,.bool false,.bool false,.bool false,.bool false,.bool false,.bool false]:=rfl
theorem nds_new {gs:List NdG} {i:Nat} (np bp ba sp bj mb:Nat) (h:gs.length=i):Qj (gs++[Zot np bp ba sp bj mb]) (List.replicate (i+1) newNd) 0=Qj gs (List.replicate i newNd) 0++(Zcl (Zot np bp ba sp bj mb) newNd++(Xl bp ba ⟨Yk 512,false,-1⟩++(Zh8 sp bj mb i++(Zii mb [] 0++jC bj bp ⟨Zn (Yk 512),false⟩)))):=by
 rw [List.replicate_succ',Zrv (show gs.length=(List.replicate i newNd).length by rw [List.length_replicate,h]),h]
 unfold Zj6
 rw [Zyr,List.append_nil,Nat.zero_add]
 have:siB (Zot np bp ba sp bj mb) i newNd.site=Zh8 sp bj mb i++Zii mb [] 0++jC bj bp ⟨Zn (Yk 512),false⟩:=rfl
 rw [this]
 simp only [List.append_assoc]
 rfl
set_option maxHeartbeats 2000000 attribute [local irreducible] HW HO HQ HD HC QOp Has Upd Zt Gets Z8 Z0 Zo Xm Zz Zj Xp Zy
attribute [local irreducible] Xl Zn Yk
theorem Zvt (T:Nat) (E:Nat→Addr) (v:Value) (w:List Int) (c:List Zr) (L:Zb) (hG:Er T E [2,3,4,6] L) (hv:Vec 3 1 ic v w c) (hl:w.length≤1000000) :
  HC Tryz.prog 54 [v] (c::L) (fun u L'=>match Ym w with
   | some e=>u = .tuple ⟨[.pointer none,eV T E (some e)]⟩∧L'=c::L
   | none => ∃ G,u = .tuple ⟨[pt G.wp 0,.nilIface]⟩∧WdOk G (Ve w)∧L'=Xj G (Ve w)++(c::L)):=by
 obtain ⟨aw,capw,rfl,-,hR⟩:=hv.rd Wh
 have kc:=Zcp T E aw capw w (c::L) (hG.sub.cons c) (hR L) hl
 have kcl:=fun L=>Ztu _ w c L hv (by omega)
 cases hc:Ym w with
 | some e =>
  rw [hc] at kc
  refine Za (fun _ _=>Tryz.call54 _ _) Tryz.func54 rfl Tryz.ntmps54 (Nat.le_of_ble_eq_true rfl) ?_;simp only [Zd,Nat.reduceAdd]
  repeat' (first|refine uN ?_|refine uC (kc) ?_|(refine uB ?_;intro b)|(refine uP ?_ ?_<;>(intro h;((try simp only [zs,zq,reduceCtorEq] at h);try exact zx)))|fail)
  exact Zeb rfl ⟨rfl,rfl⟩
 | none =>
  rw [hc] at kc
  obtain ⟨c1,c2,-⟩:=Vn hc
  have kp:=fun L hG=>Zms T E 512 L hG
  rw [show Zrw 512=some ⟨Yk 512,false,-1⟩ from rfl] at kp
  have hz:=Znp 512
  have ks:=fun (i:Nat) (hi:i<7) bp ba L hG=>Zk1 T E (i:Int) bp ba ⟨Yk 512,false,-1⟩ L hG (by simp only;omega)
  have hse : ∀ i:Nat,i<7→Zm9 (i:Int) ⟨Yk 512,false,-1⟩=none:=fun i hi=>by
   unfold Zm9
   rw [if_neg (by omega)]
   simp only
   rw [if_neg (by omega)]
   simp
  refine Za (fun _ _=>Tryz.call54 _ _) Tryz.func54 rfl Tryz.ntmps54 (Nat.le_of_ble_eq_true rfl) ?_;simp only [Zd,Nat.reduceAdd]
  repeat' (first|refine uN ?_|refine uC (kc) ?_|(refine uB ?_;intro b)|(refine uP ?_ ?_<;>(intro h;((try simp only [zs,zq,reduceCtorEq] at h);try exact zx)))|fail)
  refine gc (kcl _) ?_
  rintro u L' ⟨cw,hvw,rfl⟩
  obtain ⟨aw2,capw2,rfl,-,-⟩:=hvw.rd Wh
  repeat' (first|refine uN ?_|refine uC (kc) ?_|(refine uB ?_;intro b)|(refine uP ?_ ?_<;>(intro h;((try simp only [zs,zq,reduceCtorEq] at h);try exact zx)))|fail)
  rename_i mb
  obtain ⟨wp,rfl⟩ : ∃ wp,wp=b:=⟨b,rfl⟩
  refine W6 (L':=[(wp,.cells ⟨[.slice aw2 w.length capw2,Ys,.map (some mb),Ys,Ys]⟩ 150)]::[]::[(mb,.map ⟨[]⟩ 0)]::cw::[]::c::L) ?_ uL
  refine Zp (σ:=Nat × Value × List Zr × List NdG) (fun r=>[(5,pt wp 0),(20,.slice aw w.length capw),(21,iv w.length),(22,iv r.1)])
   (fun r=>[(wp,.cells ⟨[.slice aw2 w.length capw2,r.2.1,.map (some mb),Ys,Ys]⟩ 150)]::r.2.2.1::[(mb,.map ⟨[]⟩ 0)]::cw::Qj r.2.2.2 (List.replicate r.1 newNd) 0::c::L)
   (fun r=>r.1≤w.length∧r.2.2.2.length=r.1∧Vec 157 1 pc r.2.1 (r.2.2.2.map (·.np)) r.2.2.1 ∧ ∀ (k:Nat) (g:NdG),r.2.2.2[k]? = some g→NdOk g newNd) (fun r=>w.length-r.1) (0,Ys,[],[]) uS (List.Sublist.refl _) ⟨by simp,rfl,Zv,fun k g h=>by simp at h⟩ ?_
  rintro ⟨i,nv,nc,gs⟩ ⟨hi,hgl,hnv,hgk⟩
  simp only at hi hgl hnv hgk ⊢
  obtain ⟨an,capn,he,-,-⟩:=hnv.rd Wz
  subst he
  have hml:(gs.map (·.np)).length=i:=by simp [hgl]
  by_cases hit:i<w.length
  ·have ks2:=ks i (by omega)
   rw [hse i (by omega)] at ks2
   repeat' (first|refine uN ?_|refine uC (kc) ?_|(refine uB ?_;intro b)|(refine uP ?_ ?_<;>(intro h;((try simp only [zs,zq,reduceCtorEq] at h);try exact zx)))|fail)
   refine gc (kp _ (by repeat (first|exact hG|exact hG.sub|apply Errs.cons))) ?_
   rintro v L' ⟨bp,ba,rfl,rfl⟩
   repeat' (first|refine uN ?_|refine uC (kc) ?_|(refine uB ?_;intro b)|(refine uP ?_ ?_<;>(intro h;((try simp only [zs,zq,reduceCtorEq] at h);try exact zx)))|fail)
   refine gc (ks2 bp ba _ (by repeat (first|exact hG|exact hG.sub|apply Errs.cons))) ?_
   rintro v L' ⟨sp,bj,mb2,rfl,rfl⟩
   repeat' (first|refine uN ?_|refine uC (kc) ?_|(refine uB ?_;intro b)|(refine uP ?_ ?_<;>(intro h;((try simp only [zs,zq,reduceCtorEq] at h);try exact zx)))|fail)
   rename_i np
   refine fo 7 ?_
   refine Zce S np hnv Wz Zez ?_ (hby:=by rw [hml];omega) (hmax:=by rw [hml];omega)
   intro v' c' hv'
   obtain ⟨an2,capn2,he2,-,-⟩:=hv'.rd Wz
   subst he2
   have hnew:=newNd_ok np bp ba sp bj mb2
   repeat' (first|refine uN ?_|refine uC (kc) ?_|(refine uB ?_;intro b)|(refine uP ?_ ?_<;>(intro h;((try simp only [zs,zq,reduceCtorEq] at h);try exact zx)))|fail)
   refine Zg (i+1,.slice an2 (gs.map (·.np)++[np]).length capn2,c',gs++[Zot np bp ba sp bj mb2]) uS ?_ ⟨by simp only;omega,by simp [hgl],by rw [List.map_append];exact hv',fun k g hk=>?_⟩ (by simp only;omega)
   ·simp only [nds_new np bp ba sp bj mb2 hgl]
    refine LS.trans (b:=([(wp,.cells ⟨[.slice aw2 w.length capw2,.slice an2 (gs.map (·.np)++[np]).length capn2,.map (some mb),Ys,Ys]⟩ 150)]::c'::[(mb,.map ⟨[]⟩ 0)]::cw::Qj gs (List.replicate i newNd) 0::Zcl (Zot np bp ba sp bj mb2) newNd::Xl bp ba ⟨Yk 512,false,-1⟩::Zh8 sp bj mb2 i::Zii mb2 [] 0::jC bj bp ⟨Zn (Yk 512),false⟩::c::L).flatten) (LS.of_eq ?_) ?_
    ·simp only [List.flatten_cons,List.append_assoc]
    ·simp only [Zcl,Zbp,Zys]
     exact uL
   ·rw [List.getElem?_append] at hk
    split at hk
    ·exact hgk k g hk
    ·rename_i hk2
     have:k-gs.length=0:=by
      by_cases e:k-gs.length=0
      ·exact e
      ·simp [e] at hk
     rw [this] at hk
     cases hk
     exact hnew
  ·obtain rfl:i=w.length:=by omega
   repeat' (first|refine uN ?_|refine uC (kc) ?_|(refine uB ?_;intro b)|(refine uP ?_ ?_<;>(intro h;((try simp only [zs,zq,reduceCtorEq] at h);try exact zx)))|fail)
   refine W9 (L':=Xj ⟨wp,.slice aw2 w.length capw2,cw,.slice an (gs.map (·.np)).length capn,nc,mb,[],0,Ys,[],Ys,[],gs⟩ (Ve w)++(c::L)) ?_ ⟨⟨wp,.slice aw2 w.length capw2,cw,.slice an (gs.map (·.np)).length capn,nc,mb,[],0,Ys,[],Ys,[],gs⟩,rfl,⟨hvw,hnv,by simp [Ve,hgl],Zj3,Zv,Zv,fun s g m h1 h2=>?_⟩,rfl⟩
   ·simp only [Xj,Zgf,Zay,List.cons_append,List.nil_append,Ve]
    exact uL
   ·simp only [Ve,List.getElem?_replicate] at h2
    split at h2
    ·cases h2
     exact hgk s g h1
    ·cases h2
end Go.HL
end

/-! PwA -/
section
namespace Go.HL
open Go Go.Proofs
def oneW (M:Wm) (v:Int):Wm × Option Nat:=
 if v % 16<9∧M.l.length=0 then (M,some 4) else
 if v % 16=7 then Qp M (v / 16 % M.l.length) else
 if v % 16=8 then Vw M (v / 16 % M.l.length) else
 if v % 16=9 then Wv M (v / 16 % 7) (v / 16 / 7 % 6) else
 if v % 16=10 then Uc M (v / 16 % 7) else
 if v % 16=11 then Wo M (v / 16 % 7) (v / 16 / 7 % 6) else
 if v % 16=12 then V8 M (v / 16 % 7) (v / 16 / 7 % 6) (decide (v / 16 % 2=0)) else
 if v % 16=13 then Zct M (v / 16 % 7) (v / 16 % 40) else
 if v % 16=14 then Qo M (v / 16 % 7) else
 if v % 16=15 then Zpo M (v / 16 % 7) else
 Ya M (v / 16 % M.l.length)
def okW (e:Option Nat):Prop:=e=none∨e=some 2∨e=some 4∨e=some 6∨e=some 8
theorem Zdq (M:Wm) (s:Int):okW (Xs M s):=by unfold Xs okW;split<;>simp
theorem Zsz (M:Wm) (s:Int):okW (Zco M s):=by
 unfold Zco
 have:=Zdq M s
 split
 ·rename_i e he
  rw [he] at this
  exact this
 ·unfold okW;split<;>simp
theorem wat_w (M:Wm) (k:Int):okW (Zs1 M k):=by unfold Zs1 okW;split<;>simp
theorem begin_w (M:Wm) (s d:Int):okW (Wv M s d).2:=by
 unfold Wv
 split
 ·unfold okW;simp
 have:=Zsz M s
 split
 ·rename_i e he
  rw [he] at this
  exact this
 split<;>(unfold okW;simp)
theorem refuse_w (M:Wm) (s d:Int):okW (Wo M s d).2:=by
 unfold Wo
 split
 ·unfold okW;simp
 have:=Zsz M s
 split
 ·rename_i e he
  rw [he] at this
  exact this
 ·unfold okW;simp
theorem tick_w (M:Wm) (s:Int):okW (Uc M s).2:=by
 unfold Uc
 have:=Zsz M s
 split
 ·rename_i e he
  rw [he] at this
  exact this
 ·unfold okW;simp
theorem Zma (M:Wm) (k:Int):okW (Ya M k).2:=by
 unfold Ya
 have:=wat_w M k
 split
 ·rename_i e he
  rw [he] at this
  exact this
 ·simp only
  split
  ·unfold okW;simp
  split
  ·split<;>(unfold okW;simp)
  ·unfold okW;simp
theorem drop_w (M:Wm) (k:Int):okW (Qp M k).2:=by
 unfold Qp
 have:=wat_w M k
 split
 ·rename_i e he
  rw [he] at this
  exact this
 ·unfold okW;simp
theorem twice_w (M:Wm) (k:Int):okW (Vw M k).2:=by
 unfold Vw
 have:=wat_w M k
 split
 ·rename_i e he
  rw [he] at this
  exact this
 ·unfold okW;simp
theorem link_w (M:Wm) (a b:Int) (c:Bool):okW (V8 M a b c).2:=by unfold V8;split<;>(unfold okW;simp)
theorem cut_w (M:Wm) (s n:Int):okW (Zct M s n).2:=by
 unfold Zct
 split
 ·unfold okW;simp
 have:=Zsz M s
 split
 ·rename_i e he
  rw [he] at this
  exact this
 ·unfold okW;simp
theorem down_w (M:Wm) (s:Int):okW (Qo M s).2:=by
 unfold Qo
 have:=Zsz M s
 split
 ·rename_i e he
  rw [he] at this
  exact this
 ·unfold okW;simp
theorem up_w (M:Wm) (s:Int):okW (Zpo M s).2:=by
 unfold Zpo
 have:=Zdq M s
 split
 ·rename_i e he
  rw [he] at this
  exact this
 ·split<;>(unfold okW;simp)
theorem okW.ok {e:Option Nat} (h:okW e):Zz3 e:=by
 rcases h with h|h|h|h|h<;>(rw [h];first|exact .inl rfl|(refine .inr ⟨_,rfl,?_⟩;decide)|trivial|decide)
set_option maxHeartbeats 2000000 attribute [local irreducible] HW HO HQ HD HC QOp Has Upd Zt Gets Z8 Z0 Zo Xm Zz Zj Xp Zy
attribute [local irreducible] Vh Yr Xl Zs X3 Zn Zbl Uc Wv Ya Zpo
end Go.HL
end

/-! PwB -/
section
namespace Go.HL
open Go Go.Proofs
def runV (q:Wm × List Int) (v:Int):Wm × List Int:=if 0≤v then ((oneW q.1 v).1,q.2++[cdN (oneW q.1 v).2]) else (q.1,q.2++[-1])
def runW (M:Wm) (l:List Int):Wm × List Int:=(l.take 3000).foldl runV (M,[])
theorem Zif {A L:Zb} {b:Nat} {o:Obj} (h:Has L b o):Has (A++L) b o:=by
 unfold Has at *
 rw [List.flatten_append]
 exact List.mem_append_right _ h
set_option maxHeartbeats 2000000 attribute [local irreducible] HW HO HQ HD HC QOp Has Upd Zt Gets Z8 Z0 Zo Xm Zz Zj Xp Zy
attribute [local irreducible] oneW
end Go.HL
end

/-! ErD3 -/
section
namespace Go.HL
open Go Go.Proofs
set_option maxHeartbeats 2000000 attribute [local irreducible] HW HO HQ HD HC QOp Has Upd Zt Gets Z8 Z0 Zo Xm Zz Zj Xp Zy
end Go.HL
end

/-! PwC -/
section
namespace Go.HL
open Go Go.Proofs
theorem plSt_new (d:Int):Xf newNd.pl d=W4:=by
 unfold Xf newNd
 simp only
 rw [Zex (by omega)]
 rw [List.getD,List.getElem?_replicate]
 split<;>rfl
theorem ndAt_new {w:List Int} {s:Int} (h0:0≤s) (h1:s<w.length):Zf (Ve w) s=newNd:=by
 unfold Zf Ve
 simp only [List.getD,List.getElem?_replicate]
 rw [if_pos (by omega)]
 rfl
set_option maxHeartbeats 2000000 attribute [local irreducible] HW HO HQ HD HC QOp Has Upd Zt Gets Z8 Z0 Zo Xm Zz Zj Xp Zy
attribute [local irreducible] Wv Ve
end Go.HL
end

/-! PwD -/
section
namespace Go.HL
open Go Go.Proofs
def Wa (G:WdG) (M:Wm):List Zr:=(Xj G M).flatten
theorem Zcc (G:WdG) (M:Wm) (L:Zb):(Wa G M::L).flatten=(Xj G M++L).flatten:=by
 unfold Wa
 rw [List.flatten_cons,List.flatten_append]
def Zvz (G:WdG) (M':Wm) (L L':Zb):Prop := ∃ G',G'.wp=G.wp∧WdOk G' M'∧L'=Wa G' M'::L
theorem HC.shut {F:Nat} {args:List Value} {G:WdG} {M M':Wm} {L:Zb} {V:Value→Prop} (h:HC Tryz.prog F args (Xj G M++L) (fun v L'=>V v∧Zg5 G M' L L')):HC Tryz.prog F args (Wa G M::L) (fun v L'=>V v∧Zvz G M' L L'):=by
 refine HC.post (HC.fl h (Zcc G M L).symm) ?_
 rintro v L' ⟨hv,G',e1,e2,e3,rfl⟩
 exact ⟨Wa G' M'::L,LS.of_eq (Zcc G' M' L),hv,G',e1,e3,rfl⟩
theorem HC.shutR {F:Nat} {args:List Value} {G:WdG} {M:Wm} {L:Zb} {V:Value→List Zr→Prop} (h:HC Tryz.prog F args (Xj G M++L) (fun v L' => ∃ c,V v c∧L'=c::(Xj G M++L))):HC Tryz.prog F args (Wa G M::L) (fun v L' => ∃ c,V v c∧L'=c::Wa G M::L):=by
 refine HC.post (HC.fl h (Zcc G M L).symm) ?_
 rintro v L' ⟨c,hv,rfl⟩
 refine ⟨c::Wa G M::L,?_,c,hv,rfl⟩
 rw [List.flatten_cons,Zcc,List.flatten_cons]
 exact LS.refl _
theorem HC.shutN {F:Nat} {args:List Value} {M:Wm} {L:Zb} {V:Value→WdG→Prop} {K:Zb} (h:HC Tryz.prog F args K (fun v L' => ∃ G,V v G∧WdOk G M∧L'=Xj G M++L)):HC Tryz.prog F args K (fun v L' => ∃ G,V v G∧WdOk G M∧L'=Wa G M::L):=by
 refine HC.post h ?_
 rintro v L' ⟨G,hv,hW,rfl⟩
 exact ⟨Wa G M::L,LS.of_eq (Zcc G M L),G,hv,hW,rfl⟩
theorem HC.shutQ {F:Nat} {args:List Value} {G:WdG} {M:Wm} {L:Zb} {V:Value} (h:HC Tryz.prog F args (Xj G M++L) (fun v L'=>v=V∧L'=Xj G M++L)):HC Tryz.prog F args (Wa G M::L) (fun v L'=>v=V∧L'=Wa G M::L):=by
 refine HC.post (HC.fl h (Zcc G M L).symm) ?_
 rintro v L' ⟨hv,rfl⟩
 exact ⟨Wa G M::L,LS.of_eq (Zcc G M L),hv,rfl⟩
set_option maxHeartbeats 2000000 attribute [local irreducible] HW HO HQ HD HC QOp Has Upd Zt Gets Z8 Z0 Zo Xm Zz Zj Xp Zy
attribute [local irreducible] runW Ve
end Go.HL
end

/-! ScB -/
section
namespace Go.HL
open Go Go.Proofs
def Y3 (k:Nat) (M:Wm) (n:List Int):Wm × Option Nat:=
 match k with
 | 0=>Wv M (n.getD 0 0) (n.getD 1 0)
 | 1=>Wo M (n.getD 0 0) (n.getD 1 0)
 | 2=>Uc M (n.getD 0 0)
 | 3=>Ya M (n.getD 0 0)
 | 4=>Qp M (n.getD 0 0)
 | 5=>Vw M (n.getD 0 0)
 | 6=>V8 M (n.getD 0 0) (n.getD 1 0) true
 | 7=>V8 M (n.getD 0 0) (n.getD 1 0) false
 | 8=>Zct M (n.getD 0 0) (n.getD 1 0)
 | 9=>Qo M (n.getD 0 0)
 | _=>Zpo M (n.getD 0 0)
theorem cmdW_ok {M:Wm} (h:WI M) (k:Nat) (n:List Int) (h0:n.getD 1 0≤9223372036854775807):StepOk M (Y3 k M n).1 84:=by
 unfold Y3
 split
 ·exact (begin_ok h _ _).mono (by omega)
 ·exact (Zzc h _ _).mono (by omega)
 ·exact (tick_ok h _).mono (by omega)
 ·exact (Qg h _).mono (by omega)
 ·exact (drop_ok h _).mono (by omega)
 ·exact (twice_ok h _).mono (by omega)
 ·exact (Zwp h _ _ _).mono (by omega)
 ·exact (Zwp h _ _ _).mono (by omega)
 ·exact (cut_ok h _ _ h0).mono (by omega)
 ·exact (down_ok h _).mono (by omega)
 ·exact (up_ok h _).mono (by omega)
theorem Zn0 (k:Nat) (M:Wm) (n:List Int):okW (Y3 k M n).2:=by
 unfold Y3
 split
 ·exact begin_w _ _ _
 ·exact refuse_w _ _ _
 ·exact tick_w _ _
 ·exact Zma _ _
 ·exact drop_w _ _
 ·exact twice_w _ _
 ·exact link_w _ _ _ _
 ·exact link_w _ _ _ _
 ·exact cut_w _ _ _
 ·exact down_w _ _
 ·exact up_w _ _
def Zx (p:Nat) (wp:Value):List Zr:=[(p,.cells ⟨[wp]⟩ 74)]
theorem Zpx {L:Zb} {a:Option Addr} {ns:List Int} (h:Rd ic 1 L a ns) (hn:1≤ns.length) : ∃ b i q F fr,a=some ⟨b,i,none⟩∧Has L b (.cells ⟨q⟩ F fr)∧Gets q (i+(0:Int).toNat) [iv (ns.getD 0 0)]∧(2≤ns.length→Gets q (i+(1:Int).toNat) [iv (ns.getD 1 0)]):=by
 rcases h with h|⟨b,i,l,E,fr,h2,h3,h4⟩
 ·subst h;simp at hn
 ·refine ⟨b,i,l,E,fr,h2,h3,h4 0 _ ?_,fun h=>h4 1 _ ?_⟩
  ·cases ns with
   | nil=>simp at hn
   | cons a r=>rfl
  ·match ns,h with
   | a::c::r,_=>rfl
set_option maxHeartbeats 2000000 attribute [local irreducible] HW HO HQ HD HC QOp Has Upd Zt Gets Z8 Z0 Zo Xm Zz Zj Xp Zy
attribute [local irreducible] Wa Uc Ya Wv Wo Qp Vw V8 Zct Qo Zpo
section
variable (T:Nat) (E:Nat→Addr) (G:WdG) (M:Wm) (p:Nat) (a:Option Addr) (cap:Nat) (ns:List Int) (L:Zb)
theorem Zth (hE:Es T E L) (hW:WdOk G M) (hM:WI M) (hl:M.l.length≤99999000) (hR:Rd ic 1 L a ns) (hn:2≤ns.length) (hcap:ns.length≤cap) (h48:ns.length≤1000) :
  HC Tryz.prog 82 [pt p 0,.slice a ns.length cap] (Wa G M::Zx p (pt G.wp 0)::L) (fun v L'=>v=eV T E (Y3 0 M ns).2∧Zvz G (Y3 0 M ns).1 (Zx p (pt G.wp 0)::L) L'):=by
 have hG:=(hE.er [2,3,4,5,6,8]).cons (Zx p (pt G.wp 0))
 have k:=HC.shut (Zpq T E G M (ns.getD 0 0) (ns.getD 1 0) _ hG.sub hW hM (by omega))
 obtain ⟨b1,i1,q1,F1,f1,rfl,hb1,hg1,hg2⟩:=Zpx hR (by omega)
 have hg2:=hg2 (by omega)
 have hb1:=(Zc (Zc hb1):Has (Wa G M::Zx p (pt G.wp 0)::L) _ _)
 unfold Zx at *
 refine Za (fun _ _=>Tryz.call82 _ _) Tryz.func82 rfl Tryz.ntmps82 (Nat.le_of_ble_eq_true rfl) ?_;simp only [Zd,Nat.reduceAdd]
 repeat' (first|refine uN ?_|refine Zu S ?_|refine da 101 ?_|fail)
 refine gc k ?_
 rintro v L' ⟨rfl,G2,e1,hW2,rfl⟩
 repeat' (first|refine uN ?_|refine Zu S ?_|refine da 101 ?_|fail)
 exact Um rfl ⟨rfl,G2,e1,hW2,rfl⟩
theorem Zti (hE:Es T E L) (hW:WdOk G M) (hM:WI M) (hl:M.l.length≤99999000) (hR:Rd ic 1 L a ns) (hn:2≤ns.length) (hcap:ns.length≤cap) (h48:ns.length≤1000) :
  HC Tryz.prog 84 [pt p 0,.slice a ns.length cap] (Wa G M::Zx p (pt G.wp 0)::L) (fun v L'=>v=eV T E (Y3 1 M ns).2∧Zvz G (Y3 1 M ns).1 (Zx p (pt G.wp 0)::L) L'):=by
 have hG:=(hE.er [2,3,4,5,6,8]).cons (Zx p (pt G.wp 0))
 have k:=HC.shut (Zl3 T E G M (ns.getD 0 0) (ns.getD 1 0) _ hG.sub hW hM)
 obtain ⟨b1,i1,q1,F1,f1,rfl,hb1,hg1,hg2⟩:=Zpx hR (by omega)
 have hg2:=hg2 (by omega)
 have hb1:=(Zc (Zc hb1):Has (Wa G M::Zx p (pt G.wp 0)::L) _ _)
 unfold Zx at *
 refine Za (fun _ _=>Tryz.call84 _ _) Tryz.func84 rfl Tryz.ntmps84 (Nat.le_of_ble_eq_true rfl) ?_;simp only [Zd,Nat.reduceAdd]
 repeat' (first|refine uN ?_|refine Zu S ?_|refine da 101 ?_|fail)
 refine gc k ?_
 rintro v L' ⟨rfl,G2,e1,hW2,rfl⟩
 repeat' (first|refine uN ?_|refine Zu S ?_|refine da 101 ?_|fail)
 exact Um rfl ⟨rfl,G2,e1,hW2,rfl⟩
theorem Ztj (hE:Es T E L) (hW:WdOk G M) (hM:WI M) (hl:M.l.length≤99999000) (hR:Rd ic 1 L a ns) (hn:1≤ns.length) (hcap:ns.length≤cap) (h48:ns.length≤1000) :
  HC Tryz.prog 86 [pt p 0,.slice a ns.length cap] (Wa G M::Zx p (pt G.wp 0)::L) (fun v L'=>v=eV T E (Y3 2 M ns).2∧Zvz G (Y3 2 M ns).1 (Zx p (pt G.wp 0)::L) L'):=by
 have hG:=(hE.er [2,3,4,5,6,8]).cons (Zx p (pt G.wp 0))
 have k:=HC.shut (Ztb T E G M (ns.getD 0 0) _ hG.sub hW hM (by omega))
 obtain ⟨b1,i1,q1,F1,f1,rfl,hb1,hg1,hg2⟩:=Zpx hR (by omega)
 clear hg2
 have hb1:=(Zc (Zc hb1):Has (Wa G M::Zx p (pt G.wp 0)::L) _ _)
 unfold Zx at *
 refine Za (fun _ _=>Tryz.call86 _ _) Tryz.func86 rfl Tryz.ntmps86 (Nat.le_of_ble_eq_true rfl) ?_;simp only [Zd,Nat.reduceAdd]
 repeat' (first|refine uN ?_|refine Zu S ?_|refine da 101 ?_|fail)
 refine gc k ?_
 rintro v L' ⟨rfl,G2,e1,hW2,rfl⟩
 repeat' (first|refine uN ?_|refine Zu S ?_|refine da 101 ?_|fail)
 exact Um rfl ⟨rfl,G2,e1,hW2,rfl⟩
theorem Ztk (hE:Es T E L) (hW:WdOk G M) (hM:WI M) (hl:M.l.length≤99999000) (hR:Rd ic 1 L a ns) (hn:1≤ns.length) (hcap:ns.length≤cap) (h48:ns.length≤1000) :
  HC Tryz.prog 88 [pt p 0,.slice a ns.length cap] (Wa G M::Zx p (pt G.wp 0)::L) (fun v L'=>v=eV T E (Y3 3 M ns).2∧Zvz G (Y3 3 M ns).1 (Zx p (pt G.wp 0)::L) L'):=by
 have hG:=(hE.er [2,3,4,5,6,8]).cons (Zx p (pt G.wp 0))
 have k:=HC.shut (Zdg T E G M (ns.getD 0 0) _ hG.sub hW hM (by omega))
 obtain ⟨b1,i1,q1,F1,f1,rfl,hb1,hg1,hg2⟩:=Zpx hR (by omega)
 clear hg2
 have hb1:=(Zc (Zc hb1):Has (Wa G M::Zx p (pt G.wp 0)::L) _ _)
 unfold Zx at *
 refine Za (fun _ _=>Tryz.call88 _ _) Tryz.func88 rfl Tryz.ntmps88 (Nat.le_of_ble_eq_true rfl) ?_;simp only [Zd,Nat.reduceAdd]
 repeat' (first|refine uN ?_|refine Zu S ?_|refine da 101 ?_|fail)
 refine gc k ?_
 rintro v L' ⟨rfl,G2,e1,hW2,rfl⟩
 repeat' (first|refine uN ?_|refine Zu S ?_|refine da 101 ?_|fail)
 exact Um rfl ⟨rfl,G2,e1,hW2,rfl⟩
theorem Ztl (hE:Es T E L) (hW:WdOk G M) (hM:WI M) (hl:M.l.length≤99999000) (hR:Rd ic 1 L a ns) (hn:1≤ns.length) (hcap:ns.length≤cap) (h48:ns.length≤1000) :
  HC Tryz.prog 90 [pt p 0,.slice a ns.length cap] (Wa G M::Zx p (pt G.wp 0)::L) (fun v L'=>v=eV T E (Y3 4 M ns).2∧Zvz G (Y3 4 M ns).1 (Zx p (pt G.wp 0)::L) L'):=by
 have hG:=(hE.er [2,3,4,5,6,8]).cons (Zx p (pt G.wp 0))
 have k:=HC.shut (Zs5 T E G M (ns.getD 0 0) _ hG.sub hW (by omega))
 obtain ⟨b1,i1,q1,F1,f1,rfl,hb1,hg1,hg2⟩:=Zpx hR (by omega)
 clear hg2
 have hb1:=(Zc (Zc hb1):Has (Wa G M::Zx p (pt G.wp 0)::L) _ _)
 unfold Zx at *
 refine Za (fun _ _=>Tryz.call90 _ _) Tryz.func90 rfl Tryz.ntmps90 (Nat.le_of_ble_eq_true rfl) ?_;simp only [Zd,Nat.reduceAdd]
 repeat' (first|refine uN ?_|refine Zu S ?_|refine da 101 ?_|fail)
 refine gc k ?_
 rintro v L' ⟨rfl,G2,e1,hW2,rfl⟩
 repeat' (first|refine uN ?_|refine Zu S ?_|refine da 101 ?_|fail)
 exact Um rfl ⟨rfl,G2,e1,hW2,rfl⟩
theorem Ztm (hE:Es T E L) (hW:WdOk G M) (hM:WI M) (hl:M.l.length≤99999000) (hR:Rd ic 1 L a ns) (hn:1≤ns.length) (hcap:ns.length≤cap) (h48:ns.length≤1000) :
  HC Tryz.prog 92 [pt p 0,.slice a ns.length cap] (Wa G M::Zx p (pt G.wp 0)::L) (fun v L'=>v=eV T E (Y3 5 M ns).2∧Zvz G (Y3 5 M ns).1 (Zx p (pt G.wp 0)::L) L'):=by
 have hG:=(hE.er [2,3,4,5,6,8]).cons (Zx p (pt G.wp 0))
 have k:=HC.shut (Zpv T E G M (ns.getD 0 0) _ hG.sub hW (by omega))
 obtain ⟨b1,i1,q1,F1,f1,rfl,hb1,hg1,hg2⟩:=Zpx hR (by omega)
 clear hg2
 have hb1:=(Zc (Zc hb1):Has (Wa G M::Zx p (pt G.wp 0)::L) _ _)
 unfold Zx at *
 refine Za (fun _ _=>Tryz.call92 _ _) Tryz.func92 rfl Tryz.ntmps92 (Nat.le_of_ble_eq_true rfl) ?_;simp only [Zd,Nat.reduceAdd]
 repeat' (first|refine uN ?_|refine Zu S ?_|refine da 101 ?_|fail)
 refine gc k ?_
 rintro v L' ⟨rfl,G2,e1,hW2,rfl⟩
 repeat' (first|refine uN ?_|refine Zu S ?_|refine da 101 ?_|fail)
 exact Um rfl ⟨rfl,G2,e1,hW2,rfl⟩
theorem Ztn (hE:Es T E L) (hW:WdOk G M) (hM:WI M) (hl:M.l.length≤99999000) (hR:Rd ic 1 L a ns) (hn:2≤ns.length) (hcap:ns.length≤cap) (h48:ns.length≤1000) :
  HC Tryz.prog 94 [pt p 0,.slice a ns.length cap] (Wa G M::Zx p (pt G.wp 0)::L) (fun v L'=>v=eV T E (Y3 6 M ns).2∧Zvz G (Y3 6 M ns).1 (Zx p (pt G.wp 0)::L) L'):=by
 have hG:=(hE.er [2,3,4,5,6,8]).cons (Zx p (pt G.wp 0))
 have k:=HC.shut (Zh0 T E G M (ns.getD 0 0) (ns.getD 1 0) true _ hG.sub hW)
 obtain ⟨b1,i1,q1,F1,f1,rfl,hb1,hg1,hg2⟩:=Zpx hR (by omega)
 have hg2:=hg2 (by omega)
 have hb1:=(Zc (Zc hb1):Has (Wa G M::Zx p (pt G.wp 0)::L) _ _)
 unfold Zx at *
 refine Za (fun _ _=>Tryz.call94 _ _) Tryz.func94 rfl Tryz.ntmps94 (Nat.le_of_ble_eq_true rfl) ?_;simp only [Zd,Nat.reduceAdd]
 repeat' (first|refine uN ?_|refine Zu S ?_|refine da 101 ?_|fail)
 refine gc k ?_
 rintro v L' ⟨rfl,G2,e1,hW2,rfl⟩
 repeat' (first|refine uN ?_|refine Zu S ?_|refine da 101 ?_|fail)
 exact Um rfl ⟨rfl,G2,e1,hW2,rfl⟩
theorem Zto (hE:Es T E L) (hW:WdOk G M) (hM:WI M) (hl:M.l.length≤99999000) (hR:Rd ic 1 L a ns) (hn:2≤ns.length) (hcap:ns.length≤cap) (h48:ns.length≤1000) :
  HC Tryz.prog 96 [pt p 0,.slice a ns.length cap] (Wa G M::Zx p (pt G.wp 0)::L) (fun v L'=>v=eV T E (Y3 7 M ns).2∧Zvz G (Y3 7 M ns).1 (Zx p (pt G.wp 0)::L) L'):=by
 have hG:=(hE.er [2,3,4,5,6,8]).cons (Zx p (pt G.wp 0))
 have k:=HC.shut (Zh0 T E G M (ns.getD 0 0) (ns.getD 1 0) false _ hG.sub hW)
 obtain ⟨b1,i1,q1,F1,f1,rfl,hb1,hg1,hg2⟩:=Zpx hR (by omega)
 have hg2:=hg2 (by omega)
 have hb1:=(Zc (Zc hb1):Has (Wa G M::Zx p (pt G.wp 0)::L) _ _)
 unfold Zx at *
 refine Za (fun _ _=>Tryz.call96 _ _) Tryz.func96 rfl Tryz.ntmps96 (Nat.le_of_ble_eq_true rfl) ?_;simp only [Zd,Nat.reduceAdd]
 repeat' (first|refine uN ?_|refine Zu S ?_|refine da 101 ?_|fail)
 refine gc k ?_
 rintro v L' ⟨rfl,G2,e1,hW2,rfl⟩
 repeat' (first|refine uN ?_|refine Zu S ?_|refine da 101 ?_|fail)
 exact Um rfl ⟨rfl,G2,e1,hW2,rfl⟩
theorem Ztp (hE:Es T E L) (hW:WdOk G M) (hM:WI M) (hl:M.l.length≤99999000) (hR:Rd ic 1 L a ns) (hn:2≤ns.length) (hcap:ns.length≤cap) (h48:ns.length≤1000) :
  HC Tryz.prog 97 [pt p 0,.slice a ns.length cap] (Wa G M::Zx p (pt G.wp 0)::L) (fun v L'=>v=eV T E (Y3 8 M ns).2∧Zvz G (Y3 8 M ns).1 (Zx p (pt G.wp 0)::L) L'):=by
 have hG:=(hE.er [2,3,4,5,6,8]).cons (Zx p (pt G.wp 0))
 have k:=HC.shut (Zvr T E G M (ns.getD 0 0) (ns.getD 1 0) _ hG.sub hW hM)
 obtain ⟨b1,i1,q1,F1,f1,rfl,hb1,hg1,hg2⟩:=Zpx hR (by omega)
 have hg2:=hg2 (by omega)
 have hb1:=(Zc (Zc hb1):Has (Wa G M::Zx p (pt G.wp 0)::L) _ _)
 unfold Zx at *
 refine Za (fun _ _=>Tryz.call97 _ _) Tryz.func97 rfl Tryz.ntmps97 (Nat.le_of_ble_eq_true rfl) ?_;simp only [Zd,Nat.reduceAdd]
 repeat' (first|refine uN ?_|refine Zu S ?_|refine da 101 ?_|fail)
 refine gc k ?_
 rintro v L' ⟨rfl,G2,e1,hW2,rfl⟩
 repeat' (first|refine uN ?_|refine Zu S ?_|refine da 101 ?_|fail)
 exact Um rfl ⟨rfl,G2,e1,hW2,rfl⟩
theorem Ztq (hE:Es T E L) (hW:WdOk G M) (hM:WI M) (hl:M.l.length≤99999000) (hR:Rd ic 1 L a ns) (hn:1≤ns.length) (hcap:ns.length≤cap) (h48:ns.length≤1000) :
  HC Tryz.prog 99 [pt p 0,.slice a ns.length cap] (Wa G M::Zx p (pt G.wp 0)::L) (fun v L'=>v=eV T E (Y3 9 M ns).2∧Zvz G (Y3 9 M ns).1 (Zx p (pt G.wp 0)::L) L'):=by
 have hG:=(hE.er [2,3,4,5,6,8]).cons (Zx p (pt G.wp 0))
 have k:=HC.shut (Zs4 T E G M (ns.getD 0 0) _ hG.sub hW hM)
 obtain ⟨b1,i1,q1,F1,f1,rfl,hb1,hg1,hg2⟩:=Zpx hR (by omega)
 clear hg2
 have hb1:=(Zc (Zc hb1):Has (Wa G M::Zx p (pt G.wp 0)::L) _ _)
 unfold Zx at *
 refine Za (fun _ _=>Tryz.call99 _ _) Tryz.func99 rfl Tryz.ntmps99 (Nat.le_of_ble_eq_true rfl) ?_;simp only [Zd,Nat.reduceAdd]
 repeat' (first|refine uN ?_|refine Zu S ?_|refine da 101 ?_|fail)
 refine gc k ?_
 rintro v L' ⟨rfl,G2,e1,hW2,rfl⟩
 repeat' (first|refine uN ?_|refine Zu S ?_|refine da 101 ?_|fail)
 exact Um rfl ⟨rfl,G2,e1,hW2,rfl⟩
theorem Zpz (hE:Es T E L) (hW:WdOk G M) (hM:WI M) (hl:M.l.length≤99999000) (hR:Rd ic 1 L a ns) (hn:1≤ns.length) (hcap:ns.length≤cap) (h48:ns.length≤1000) :
  HC Tryz.prog 101 [pt p 0,.slice a ns.length cap] (Wa G M::Zx p (pt G.wp 0)::L) (fun v L'=>v=eV T E (Y3 10 M ns).2∧Zvz G (Y3 10 M ns).1 (Zx p (pt G.wp 0)::L) L'):=by
 have hG:=(hE.er [2,3,4,5,6,8]).cons (Zx p (pt G.wp 0))
 have k:=HC.shut (Zvy T E G M (ns.getD 0 0) _ hG.sub hW hM)
 obtain ⟨b1,i1,q1,F1,f1,rfl,hb1,hg1,hg2⟩:=Zpx hR (by omega)
 clear hg2
 have hb1:=(Zc (Zc hb1):Has (Wa G M::Zx p (pt G.wp 0)::L) _ _)
 unfold Zx at *
 refine Za (fun _ _=>Tryz.call101 _ _) Tryz.func101 rfl Tryz.ntmps101 (Nat.le_of_ble_eq_true rfl) ?_;simp only [Zd,Nat.reduceAdd]
 repeat' (first|refine uN ?_|refine Zu S ?_|refine da 101 ?_|fail)
 refine gc k ?_
 rintro v L' ⟨rfl,G2,e1,hW2,rfl⟩
 repeat' (first|refine uN ?_|refine Zu S ?_|refine da 101 ?_|fail)
 exact Um rfl ⟨rfl,G2,e1,hW2,rfl⟩
end
end Go.HL
end

/-! HLSh -/
section
namespace Go.HL
open Go Go.RowKit
theorem Zmr {w:World} {L:Zb} (h : ∀ p∈L.flatten,w.heap[p.1]? = some p.2) {p:Zr} (hp:p∈L.flatten):p.1<w.heap.size:=(Array.getElem?_eq_some_iff.1 (h p hp)).1
theorem Sat.below {k:Zlf} {w w':World} {L:Zb} (hs:Sat k w L) (hb:Below w.heap.size w w'):Sat k w' L:=
 ⟨hb.os.trans hs.os,hb.output.trans hs.out,hb.tape.trans hs.tape,fun p hp=>by rw [hb.block p.1 (Zmr hs.has hp)];exact hs.has p hp,hs.nodup⟩
theorem Zcz {P:Program} {f:Nat} {args:List Value} {L:Zb} {V:Value→Prop} (he:Ziw P f) (h : ∀ w,(∀ p∈L.flatten,w.heap[p.1]? = some p.2)→Calls P f ⟨args⟩ w fun e w' => ∃ v,e = .returned v∧V v∧Below w.heap.size w w'):HC P f args L (fun v L'=>V v∧L'=L):=
 ⟨he,fun k w hs=>(h w hs.has).mono fun e w' ⟨v,e1,hv,hb⟩=>⟨v,L,e1,hs.below hb,hv,rfl⟩⟩
theorem hc_alloc {P:Program} {f:Nat} {args:List Value} {L:Zb} {V:Nat→Value} {o:Obj} (he:Ziw P f) (h : ∀ w,(∀ p∈L.flatten,w.heap[p.1]? = some p.2)→Calls P f ⟨args⟩ w fun e w'=>e = .returned (V w.heap.size)∧w'=w.alloc o):HC P f args L (fun v L' => ∃ b,v=V b∧L'=[(b,o)]::L):=
 ⟨he,fun k w hs=>(h w hs.has).mono fun e w' ⟨e1,hw⟩=>⟨_,[(w.heap.size,o)]::L,e1,hw▸hs.new o,_,rfl,rfl⟩⟩
theorem Zq1 {w:World} {L:Zb} (h : ∀ p∈L.flatten,w.heap[p.1]? = some p.2) {b i:Nat} {l:List Value} {F:TypeId} {fr:Nat × Nat} {v:Value} (hb:Has L b (.cells ⟨l⟩ F fr)) (hi:l[i]? = some v):w.cell? ⟨b,i,none⟩=some v:=by
 have h1:=h _ hb
 simp only at h1
 simp [World.cell?,h1,hi]
end Go.HL
end
