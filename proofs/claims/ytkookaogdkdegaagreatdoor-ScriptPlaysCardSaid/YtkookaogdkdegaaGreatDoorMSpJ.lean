/- Texts laid into one, without what the claim does not use. Conditions: none. -/
import Derived.Test.YtkookaogdkdegaaGreatDoorMSpI
set_option linter.unusedVariables false
set_option linter.unusedSimpArgs false
/-! MwG -/
section
namespace Go.HL
open Go Go.Proofs
def Za9 (a b:Int) (l:List (Int × Int)):List (Int × Int):=l.filter fun p=>decide (p≠(a,b)) && decide (p≠(b,a))
def Zfs (a b:Int) (whole:Bool) (l:List (Int × Int)):List (Int × Int):=if (!whole && decide (a≠b))=true then Za9 a b l++[(a,b)] else Za9 a b l
theorem fltB_mem {a b:Int} {l:List (Int × Int)} {p:Int × Int}:p∈Za9 a b l↔p∈l∧p≠(a,b)∧p≠(b,a):=by
 unfold Za9
 rw [List.mem_filter]
 simp
theorem lnkB_mem {a b:Int} {whole:Bool} {l:List (Int × Int)} {p:Int × Int}:p∈Zfs a b whole l↔(p∈l∧p≠(a,b)∧p≠(b,a))∨((!whole && decide (a≠b))=true∧p=(a,b)):=by
 unfold Zfs
 split
 ·rename_i h
  rw [List.mem_append,fltB_mem,List.mem_singleton]
  simp only [h,true_and]
 ·rename_i h
  rw [fltB_mem]
  simp only [h,Bool.false_eq_true,false_and,or_false]
theorem br_link {l:List (Int × Int)} {f:Int × Int→Bool} (h:BrOk l f) (a b:Int) (whole:Bool):BrOk (Zfs a b whole l) (fun x=>if x=(min a b,max a b) then (!whole && decide (a≠b)) else f x):=by
 intro c d
 simp only
 by_cases hs:(c=a∧d=b)∨(c=b∧d=a)
 ·have e:(min c d,max c d)=(min a b,max a b):=by
   refine Prod.ext ?_ ?_<;>simp only<;>omega
  rw [if_pos e]
  cases hv:(!whole && decide (a≠b)) with
  | true =>
   symm
   refine decide_eq_true ?_
   rcases hs with ⟨rfl,rfl⟩|⟨rfl,rfl⟩
   ·exact .inl (lnkB_mem.2 (.inr ⟨hv,rfl⟩))
   ·exact .inr (lnkB_mem.2 (.inr ⟨hv,rfl⟩))
  | false =>
   symm
   refine decide_eq_false ?_
   rintro (k|k)
   ·rcases lnkB_mem.1 k with ⟨-,h1,h2⟩|⟨h1,-⟩
    ·rcases hs with ⟨rfl,rfl⟩|⟨rfl,rfl⟩
     ·exact h1 rfl
     ·exact h2 rfl
    ·rw [hv] at h1;cases h1
   ·rcases lnkB_mem.1 k with ⟨-,h1,h2⟩|⟨h1,-⟩
    ·rcases hs with ⟨rfl,rfl⟩|⟨rfl,rfl⟩
     ·exact h2 rfl
     ·exact h1 rfl
    ·rw [hv] at h1;cases h1
 ·have e:(min c d,max c d)≠(min a b,max a b):=by
   intro e
   have e1:=congrArg Prod.fst e
   have e2:=congrArg Prod.snd e
   simp only at e1 e2
   omega
  rw [if_neg e,h c d]
  have hne : ∀ x y:Int,¬ (x=a∧y=b)→(x,y)≠(a,b):=fun x y k q=>k ⟨congrArg Prod.fst q,congrArg Prod.snd q⟩
  have hne2 : ∀ x y:Int,¬ (x=b∧y=a)→(x,y)≠(b,a):=fun x y k q=>k ⟨congrArg Prod.fst q,congrArg Prod.snd q⟩
  have key : ∀ x y:Int,¬ (x=a∧y=b) → ¬ (x=b∧y=a)→((x,y)∈Zfs a b whole l↔(x,y)∈l):=fun x y k1 k2=>by
   rw [lnkB_mem]
   constructor
   ·rintro (⟨k,-⟩|⟨-,k⟩)
    ·exact k
    ·exact absurd k (hne x y k1)
   ·exact fun k => .inl ⟨k,hne x y k1,hne2 x y k2⟩
  have k1:=key c d (fun q=>hs (.inl q)) (fun q=>hs (.inr q))
  have k2:=key d c (fun q=>hs (.inr ⟨q.2,q.1⟩)) (fun q=>hs (.inl ⟨q.2,q.1⟩))
  simp only [k1,k2]
theorem Zuk {a b:Int} {whole:Bool} {l:List (Int × Int)} (h:l.Nodup):(Zfs a b whole l).Nodup:=by
 have hf:(Za9 a b l).Nodup:=h.sublist List.filter_sublist
 unfold Zfs
 split
 ·refine List.nodup_append.2 ⟨hf,by simp,fun x hx y hy=>?_⟩
  rw [List.mem_singleton] at hy
  subst hy
  exact (fltB_mem.1 hx).2.1
 ·exact hf
theorem Zqx {a b:Int} {l:List (Int × Int)}:(Za9 a b l).length≤l.length:=List.length_filter_le ..
set_option maxHeartbeats 2000000 attribute [local irreducible] HW HO HQ HD HC QOp Has Upd Zt Gets Z8 Z0 Zo Xm Zz Zj Xp Zy
attribute [local irreducible] Zn Zs Q2 Wp
theorem Zo9 (G:RwG) (n:Nat) (a z:Int) (whole:Bool) (L:Zb) (an:Option Addr) (capn:Nat) (hnv:G.nv = .slice an n capn) (hv:Vec 103 2 bc2 G.bv G.bl G.bc) (hbl:G.bl.length≤49) (h : ¬ (a<0∨n≤a∨z<0∨n≤z)) :
  HC Tryz.prog 24 [pt G.wp 0,iv a,iv z,.bool whole] ([(G.wp,Vt G)]::G.bc::L) (fun v L' => ∃ bv bc,Vec 103 2 bc2 bv (Zfs a z whole G.bl) bc∧v=iv 0∧L'=[(G.wp,Vt { G with bv:=bv,bc:=bc,bl:=Zfs a z whole G.bl })]::bc::L):=by
 obtain ⟨wp,aw,cw,wl,nv,nc,bv,bc,bl,lv,lc,evv,evc,nd⟩:=G
 simp only [Vt] at hv hnv hbl ⊢
 subst hnv
 obtain ⟨ab,cap,rfl,hcap,hR⟩:=hv.rd Zdl
 have hfl:=fun k=>Zqx (a:=a) (b:=z) (l:=bl.take k)
 have hl9:(Za9 a z bl).length≤49:=Nat.le_trans Zqx hbl
 refine Za (fun _ _=>Tryz.call24 _ _) Tryz.func24 rfl Tryz.ntmps24 (Nat.le_of_ble_eq_true rfl) ?_;simp only [Zd,Nat.reduceAdd]
 repeat' (first|refine uN ?_|(refine uB ?_;intro b)|(refine uP ?_ ?_<;>(intro h;((try simp only [zs,zq,reduceCtorEq] at h);try exact zx)))|fail)
 refine Zih ?_
 refine Zp (σ:=Nat × Value × List Zr) (fun q=>[(0,pt wp 0),(1,iv a),(2,iv z),(3,.bool whole),(9,q.2.1),(10,iv q.1)]) (fun q=>q.2.2::[(wp,.cells ⟨[.slice aw wl cw,.slice an n capn,.slice ab bl.length cap,lv,evv]⟩ 47)]::bc::L) (fun q=>q.1≤bl.length∧Vec 103 2 bc2 q.2.1 (Za9 a z (bl.take q.1)) q.2.2) (fun q=>bl.length-q.1) (0,Ys,[]) uS (List.Sublist.refl _) ⟨by simp,Zv⟩ ?_
 rintro ⟨k,v,c⟩ ⟨hk,hv'⟩
 simp only at hk hv' ⊢
 have hfk:=hfl k
 have hlen:(bl.take k).length≤49:=by rw [List.length_take];omega
 by_cases hlt:k<bl.length
 ·obtain ⟨bh,ih,lh,Eh,frh,hah,hbh,hgh⟩:=(hR L).at (j:=(k:Int)) (by omega) (by omega)
  subst hah
  have hg0:Gets lh (ih+(k:Int).toNat*2) (bc2 bl[k]):=hgh
  have hs:bl.take (k+1)=bl.take k++[bl[k]]:=List.take_succ_eq_append_getElem hlt
  generalize bl[k]=x at *
  obtain ⟨x1,x2⟩:=x
  have hbh2:Has (c::[(wp,.cells ⟨[.slice aw wl cw,.slice an n capn,.slice (some ⟨bh,ih,none⟩) bl.length cap,lv,evv]⟩ 47)]::bc::L) bh (.cells ⟨lh⟩ Eh frh):=Zc (Zc hbh)
  by_cases h1:(x1,x2)=(a,z)∨(x1,x2)=(z,a)
  ·have e2:Za9 a z (bl.take (k+1))=Za9 a z (bl.take k):=by
    rw [hs];unfold Za9
    rw [List.filter_append,List.filter_cons_of_neg (by rcases h1 with h1|h1<;>simp [h1]),List.filter_nil,List.append_nil]
   rcases h1 with h1|h1
   ·cases h1
    repeat' (first|refine uN ?_|(refine uB ?_;intro b)|(refine uP ?_ ?_<;>(intro h;((try simp only [zs,zq,reduceCtorEq] at h);try exact zx)))|fail)
    all_goals refine Zg (k+1,v,c) uS uL ⟨by simp only;omega,by simp only;rw [e2];exact hv'⟩ (by simp only;omega)
   ·cases h1
    repeat' (first|refine uN ?_|(refine uB ?_;intro b)|(refine uP ?_ ?_<;>(intro h;((try simp only [zs,zq,reduceCtorEq] at h);try exact zx)))|fail)
    all_goals refine Zg (k+1,v,c) uS uL ⟨by simp only;omega,by simp only;rw [e2];exact hv'⟩ (by simp only;omega)
  ·have h1a : ¬ (x1=a∧x2=z):=fun q=>h1 (.inl (Prod.ext q.1 q.2))
   have h1b : ¬ (x1=z∧x2=a):=fun q=>h1 (.inr (Prod.ext q.1 q.2))
   have e2:Za9 a z (bl.take (k+1))=Za9 a z (bl.take k)++[(x1,x2)]:=by
    rw [hs];unfold Za9
    rw [List.filter_append,List.filter_cons_of_pos (by rw [Bool.and_eq_true];exact ⟨decide_eq_true (fun q=>h1 (.inl q)),decide_eq_true (fun q=>h1 (.inr q))⟩),List.filter_nil]
   repeat' (first|refine uN ?_|(refine uB ?_;intro b)|(refine uP ?_ ?_<;>(intro h;((try simp only [zs,zq,reduceCtorEq] at h);try exact zx)))|fail)
   all_goals try exact absurd (by assumption:x1=a∧x2=z) h1a
   all_goals try exact absurd (by assumption:x1=z∧x2=a) h1b
   all_goals refine fo 1 ?_
   all_goals refine Zce S (x1,x2) hv' Zdl Zv4 ?_
   all_goals intro v' c' hv2
   all_goals repeat' (first|refine uN ?_|(refine uB ?_;intro b)|(refine uP ?_ ?_<;>(intro h;((try simp only [zs,zq,reduceCtorEq] at h);try exact zx)))|fail)
   all_goals refine Zg (k+1,v',c') uS uL ⟨by simp only;omega,by simp only;rw [e2];exact hv2⟩ (by simp only;omega)
 ·obtain rfl:k=bl.length:=by omega
  rw [List.take_length] at hv'
  obtain ⟨a7,cap7,rfl,-,-⟩:=hv'.rd Zdl
  cases whole with
  | true =>
   have e3:Zfs a z true bl=Za9 a z bl:=rfl
   rw [e3]
   repeat' (first|refine uN ?_|(refine uB ?_;intro b)|(refine uP ?_ ?_<;>(intro h;((try simp only [zs,zq,reduceCtorEq] at h);try exact zx)))|fail)
   all_goals exact Z9 (L':=[(wp,.cells ⟨[.slice aw wl cw,.slice an n capn,.slice a7 (Za9 a z bl).length cap7,lv,evv]⟩ 47)]::c::L) uL ⟨_,c,hv',rfl,rfl⟩
  | false =>
   by_cases hab:a=z
   ·have e3:Zfs a z false bl=Za9 a z bl:=by unfold Zfs;rw [if_neg (by simp [hab])]
    rw [e3]
    repeat' (first|refine uN ?_|(refine uB ?_;intro b)|(refine uP ?_ ?_<;>(intro h;((try simp only [zs,zq,reduceCtorEq] at h);try exact zx)))|fail)
    all_goals exact Z9 (L':=[(wp,.cells ⟨[.slice aw wl cw,.slice an n capn,.slice a7 (Za9 a z bl).length cap7,lv,evv]⟩ 47)]::c::L) uL ⟨_,c,hv',rfl,rfl⟩
   ·have e3:Zfs a z false bl=Za9 a z bl++[(a,z)]:=by unfold Zfs;rw [if_pos (by simp [hab])]
    rw [e3]
    repeat' (first|refine uN ?_|(refine uB ?_;intro b)|(refine uP ?_ ?_<;>(intro h;((try simp only [zs,zq,reduceCtorEq] at h);try exact zx)))|fail)
    all_goals refine fo 1 ?_
    all_goals refine Zce S (a,z) hv' Zdl Zv4 ?_
    all_goals intro v' c' hv2
    all_goals obtain ⟨a8,cap8,rfl,-,-⟩:=hv2.rd Zdl
    all_goals repeat' (first|refine uN ?_|(refine uB ?_;intro b)|(refine uP ?_ ?_<;>(intro h;((try simp only [zs,zq,reduceCtorEq] at h);try exact zx)))|fail)
    all_goals exact Z9 (L':=[(wp,.cells ⟨[.slice aw wl cw,.slice an n capn,.slice a8 (Za9 a z bl++[(a,z)]).length cap8,lv,evv]⟩ 47)]::c'::L) uL ⟨_,c',hv2,rfl,rfl⟩
theorem Zhq (G:RwG) (M:Wm) (a z:Int) (whole:Bool) (L:Zb) (hW:RwOk G M) (hM:WI M) :
  HC Tryz.prog 24 [pt G.wp 0,iv a,iv z,.bool whole] (Wj G M++L) (fun v L'=>v=iv (cdN (V8 M a z whole).2)∧Zlh G (V8 M a z whole).1 L L'):=by
 unfold V8
 have hself:=Ub hW L
 have hI:=Zf9 hW L
 obtain ⟨an,capn,hnv,hnr⟩:=hI.ns
 by_cases h:a<0∨M.n.length≤a∨z<0∨M.n.length≤z
 ·simp only [if_pos h,cdN]
  have hw:=hI.wp
  unfold Vt at hw
  rw [hnv] at hw
  generalize Wj G M++L=H at *
  refine Za (fun _ _=>Tryz.call24 _ _) Tryz.func24 rfl Tryz.ntmps24 (Nat.le_of_ble_eq_true rfl) ?_;simp only [Zd,Nat.reduceAdd]
  repeat' (first|refine uN ?_|(refine uB ?_;intro b)|(refine uP ?_ ?_<;>(intro h;((try simp only [zs,zq,reduceCtorEq] at h);try exact zx)))|fail)
  all_goals exact Um rfl ⟨rfl,hself⟩
 ·simp only [if_neg h,cdN]
  have hn:=hM.wn
  have hwl:=hM.wl
  have e:LS ([(G.wp,Vt G)]::G.bc::G.ec::G.lc::G.nc::Zal G.aw G.cw G.nd M.n 0::L:Zb).flatten (Wj G M++L).flatten:=by
   simp only [Wj,Zei,List.cons_append,List.nil_append]
   exact uL
  refine HC.post (HC.sp (Zo9 G M.n.length a z whole _ an capn hnv hW.br hW.bll h) e) ?_
  rintro v L' ⟨bv,bc,hv,rfl,rfl⟩
  refine ⟨Wj { G with bv:=bv,bc:=bc,bl:=Zfs a z whole G.bl } { M with br:=fun x=>if x=(min a z,max a z) then (!whole && decide (a≠z)) else M.br x }++L,?_,rfl,Zir (hW.setB hv (br_link hW.bro a z whole) (Zuk hW.bln) ?_) ⟨rfl,rfl,rfl,rfl,rfl⟩⟩
  ·simp only [Wj,Zei,List.cons_append,List.nil_append]
   exact uL
  ·intro p hp
   rcases lnkB_mem.1 hp with ⟨k,-⟩|⟨-,rfl⟩
   ·exact hW.blr p k
   ·exact prs_in (by omega) (by omega) (by omega) (by omega)
theorem Zip {g:NrG} {m:Nd} {d:Nat} {o:Option Ld} {q:Nat × Value × List Zr} (h1:m.leads[d]? = some o) (h2:g.ld[d]? = some q):(U4 g m)[d]? = some (Zed o q):=by
 unfold U4
 rw [List.getElem?_zipWith,h1,h2]
theorem Zsf {aw:Option Addr} {cw:Nat} {g:NrG} {m:Nd} {d:Nat} {x:Ld} {q:Nat × Value × List Zr} (h1:m.leads[d]? = some (some x)) (h2:g.ld[d]? = some q) {y:Zr} (hy:y∈U3 q.1 aw cw q.2.1 q.2.2 x):y∈Zd5 aw cw g m:=by
 unfold Zd5
 refine List.mem_flatten.2 ⟨U3 q.1 aw cw q.2.1 q.2.2 x,?_,hy⟩
 refine List.mem_iff_getElem?.2 ⟨d,?_⟩
 rw [List.getElem?_zipWith,h1,h2]
 rfl
theorem Zlu (G:RwG) (M:Wm) (s:Int) (d:Nat) (L:Zb) (hW:RwOk G M) (hM:WI M) (h0:0≤s) (h1:s<M.n.length) (hd:d<6) :
  HC Tryz.prog 28 [pt G.wp 0,iv s,iv d] (Wj G M++L) (fun v L'=>v=bs (Up M s d).1∧L'=Wj G M++L):=by
 have hI:=Zf9 hW L
 obtain ⟨b9,i,l,F,fr,cap,hnv,hb,hg⟩:=Zkz hI hW.ndl h0 h1
 have hw:=hI.wp
 unfold Vt at hw
 rw [hnv] at hw
 have hN:=Zds hW.ndl h0 h1 L
 have hA:=fun {b o} (hb:(b,o)∈Zgk G.aw G.cw (Yi G s) s (Zf M s))=>Zf8 hW.ndl h0 h1 hb L
 have hok:=U5 hW h0 h1
 have hni:=Wu hM h0 h1
 generalize Wj G M++L=H at *
 unfold Up
 rw [if_neg (by omega)]
 generalize Zf M s=m at *
 generalize Yi G s=g at *
 simp only [Int.toNat_natCast]
 have hm1:m.leads[d]? = some (m.leads.getD d none):=getD_some (by rw [hni.leads];exact hd)
 obtain ⟨q,hq⟩ : ∃ q,g.ld[d]? = some q:=⟨_,List.getElem?_eq_getElem (by rw [hok.ld];exact hd)⟩
 have hv:=Zip hm1 hq
 have hL:Has H g.bl (.cells ⟨U4 g m⟩ 83):=hA (by simp [Zgk,Zhr])
 unfold Zbg at hN
 have gL:(U4 g m)[0+(d:Int).toNat]? = some (Zed (m.leads.getD d none) q):=by rw [Nat.zero_add,Int.toNat_natCast];exact hv
 cases hx:m.leads.getD d none with
 | none =>
  rw [hx] at gL
  simp only [Zed] at gL
  refine Za (fun _ _=>Tryz.call28 _ _) Tryz.func28 rfl Tryz.ntmps28 (Nat.le_of_ble_eq_true rfl) ?_;simp only [Zd,Nat.reduceAdd]
  repeat' (first|refine uN ?_|(refine uP ?_ ?_<;>(intro h;((try simp only [zs,zq,reduceCtorEq] at h);try exact zx)))|fail)
  exact Um rfl ⟨rfl,rfl⟩
 | some x =>
  rw [hx] at gL hm1
  simp only [Zed] at gL
  have hLd:Has H q.1 (.cells ⟨Zz4 G.aw G.cw q.2.1 x⟩ 93):=hA (by
   unfold Zgk
   exact List.mem_append_right _ (List.mem_append_right _ (List.mem_append_right _ (List.mem_append_right _ (List.mem_append_right _ (List.mem_append_right _ (Zsf hm1 hq (by simp [U3]))))))))
  unfold Zz4 at hLd
  refine Za (fun _ _=>Tryz.call28 _ _) Tryz.func28 rfl Tryz.ntmps28 (Nat.le_of_ble_eq_true rfl) ?_;simp only [Zd,Nat.reduceAdd]
  repeat' (first|refine uN ?_|(refine uP ?_ ?_<;>(intro h;((try simp only [zs,zq,reduceCtorEq] at h);try exact zx)))|fail)
  exact Um rfl ⟨rfl,rfl⟩
end Go.HL
end

/-! MwH -/
section
namespace Go.HL
open Go Go.Proofs
theorem Zgv {aw:Option Addr} {cw:Nat} {g:NrG} {m:Nd} {d:Nat} {o:Option Ld} {q:Nat × Value × List Zr} (h1:m.leads[d]? = some o) (h2:g.ld[d]? = some q) :
  ∃ A B,Zd5 aw cw g m=A++(rlB aw cw o q++B) ∧ ∀ o' q' (m':Nd) (g':NrG),m'.leads=m.leads.set d o'→g'.ld=g.ld.set d q'→Zd5 aw cw g' m'=A++(rlB aw cw o' q'++B):=by
 obtain ⟨A,B,e1,e2⟩:=Zle (rlB aw cw) h1 h2
 refine ⟨A,B,e1,fun o' q' m' g' h3 h4=>?_⟩
 unfold Zd5
 rw [h3,h4]
 exact e2 o' q'
theorem Zkr {g g':NrG} {m m':Nd} {d:Nat} {o':Option Ld} {q':Nat × Value × List Zr} (h3:m'.leads=m.leads.set d o') (h4:g'.ld=g.ld.set d q'):U4 g' m'=(U4 g m).set d (Zed o' q'):=by
 have:=Zfr (g:=⟨0,0,0,0,0,0,[],0,g.ld⟩) (g':=⟨0,0,0,0,0,0,[],0,g'.ld⟩) (m:=m) (m':=m') h3 h4
 exact this
theorem NrOk.lead {g:NrG} {m:Nd} (h:NrOk g m) {d:Nat} {x:Ld} {q:Nat × Value × List Zr} {hs:List Fr} (hx:Z7 q.2.1 hs q.2.2) (hr:RelH x hs):NrOk { g with ld:=g.ld.set d q } { m with leads:=m.leads.set d (some x) }:=by
 refine ⟨by simp [h.ld],h.rp,h.left,fun e y hy p hp=>?_⟩
 simp only [List.getElem?_set] at hy hp
 by_cases hde:d=e
 ·rw [if_pos hde] at hy hp
  split at hy
  ·split at hp
   ·cases hy;cases hp;exact ⟨hs,hx,hr⟩
   ·cases hp
  ·cases hy
 ·rw [if_neg hde] at hy hp
  exact h.lok e y hy p hp
theorem LS.has {L H:Zb} (h:LS L.flatten H.flatten) {b:Nat} {o:Obj} (hb:Has L b o):Has H b o:=h.mem hb
theorem Has.app {L:Zb} (T:Zb) {b:Nat} {o:Obj} (hb:Has L b o):Has (L++T) b o:=by
 unfold Has at *
 rw [List.flatten_append]
 exact List.mem_append_left _ hb
theorem ls8 {x0 x1 x2 x3 x4 x5 x6 x7 c A B:List Zr} {D:Zb}:LS (x0::x1::x2::x3::x4::x5::x6::x7::(A++(c++B))::D).flatten (x0::x1::x2::x3::x4::x5::x6::x7::c::A::B::D).flatten:=LS.k (LS.k (LS.k (LS.k (LS.k (LS.k (LS.k (LS.k ls_mid')))))))
theorem ls8' {x0 x1 x2 x3 x4 x5 x6 x7 c A B:List Zr} {D:Zb}:LS (x0::x1::x2::x3::x4::x5::x6::x7::c::A::B::D).flatten (x0::x1::x2::x3::x4::x5::x6::x7::(A++(c++B))::D).flatten:=LS.k (LS.k (LS.k (LS.k (LS.k (LS.k (LS.k (LS.k ls_mid)))))))
theorem Rd.up {α:Type} {enc:α→List Value} {sz:Nat} {L:Zb} {a:Option Addr} {xs:List α} (h:Rd enc sz L a xs) (T:Zb):Rd enc sz (T++L) a xs:=h.mono fun b o hb=>by
 unfold Has at *
 rw [List.flatten_append]
 exact List.mem_append_right _ hb
theorem hearU_no {M:Wm} {s:Int} {f:Fr} (h:Zjl s (Zf M s) f=false):(Yt M s f).2.1=[]:=by
 unfold Zjl at h
 unfold Yt Y7
 split at h
 ·rename_i hs
  simp only [hs]
 ·rename_i j ref hs
  have ho:(Zs s ref (Zf M s).pl j f).1.off=true:=by simpa using h
  simp only [hs,if_pos ho]
set_option maxHeartbeats 2000000 attribute [local irreducible] HW HO HQ HD HC QOp Has Upd Zt Gets Z8 Z0 Zo Xm Zz Zj Xp Zy
attribute [local irreducible] Zn Zs Q2 Wp Ze3
set_option maxHeartbeats 1000000 in
theorem Zc9 (G:RwG) (M:Wm) (k:Int) (L:Zb) (hRw:Rd ic 1 L G.aw M.w) (hW:RwOk G M) (hM:WI M) (hl:M.l.length≤99999000) :
  HC Tryz.prog 21 [pt G.wp 0,iv k] (Wj G M++L) (fun v L'=>v=iv (cdN (Ya M k).2)∧Zlh G (Ya M k).1 L L'):=by
 have hself:=Ub hW L
 have kt:=fun L=>Zht G M.l k L hW.l (by omega)
 unfold Ya Zs1
 by_cases h:k<0∨M.l.length≤k
 ·simp only [if_pos h,cdN] at kt ⊢
  simp only [Wj,Zei,List.cons_append,List.nil_append] at hself ⊢
  refine Za (fun _ _=>Tryz.call21 _ _) Tryz.func21 rfl Tryz.ntmps21 (Nat.le_of_ble_eq_true rfl) ?_;simp only [Zd,Nat.reduceAdd]
  repeat' (first|refine uN ?_|refine Zu S ?_|(refine uB ?_;intro b)|(refine uP ?_ ?_<;>(intro h;((try simp only [zs,zq,reduceCtorEq] at h);try exact zx)))|refine da 101 ?_|fail)
  refine fo 2 ?_
  refine fo 1 ?_
  refine gc (kt _) ?_
  rintro v L' ⟨rfl,rfl⟩
  repeat' (first|refine uN ?_|refine Zu S ?_|(refine uB ?_;intro b)|(refine uP ?_ ?_<;>(intro h;((try simp only [zs,zq,reduceCtorEq] at h);try exact zx)))|refine da 101 ?_|fail)
  exact Z9 uL ⟨rfl,hself⟩
 ·simp only [if_neg h] at kt ⊢
  have hgk:M.l[k.toNat]'(by omega)=M.l.getD k.toNat Yv:=by
   rw [List.getD,List.getElem?_eq_getElem (by omega)];rfl
  obtain ⟨hbad,hto,hfr⟩:=hM.fr (M.l.getD k.toNat Yv) (by rw [← hgk];exact List.getElem_mem _)
  have hM1:=hM.erase k.toNat
  have hW1 : ∀ lv lc,Z7 lv (M.l.eraseIdx k.toNat) lc→RwOk { G with lv:=lv,lc:=lc } { M with l:=M.l.eraseIdx k.toNat }:=fun lv lc hv=>hW.setL hv
  have hcl : ∀ lv lc,Z7 lv (M.l.eraseIdx k.toNat) lc→Zlh G { M with l:=M.l.eraseIdx k.toNat } L (Wj { G with lv:=lv,lc:=lc } { M with l:=M.l.eraseIdx k.toNat }++L):=fun lv lc hv=>Zir (hW1 lv lc hv) Zkx
  have hn0:0≤(M.l.getD k.toNat Yv).to:=by unfold X5 at hbad;omega
  have hn1:(M.l.getD k.toNat Yv).to<M.n.length:=by rw [hM.wn];exact hto
  have hd0:0≤(M.l.getD k.toNat Yv).dl∧(M.l.getD k.toNat Yv).dl<6:=by unfold X5 at hbad;omega
  have hno:=fun L=>Zpa hW.ndl hn0 hn1 (b:=(Yi G (M.l.getD k.toNat Yv).to).np) (o:=Zbg (Yi G (M.l.getD k.toNat Yv).to) (Zf M (M.l.getD k.toNat Yv).to)) (by simp [Zgk,Zd6]) L
  have hnl:=fun L=>Zpa hW.ndl hn0 hn1 (b:=(Yi G (M.l.getD k.toNat Yv).to).bl) (o := .cells ⟨U4 (Yi G (M.l.getD k.toNat Yv).to) (Zf M (M.l.getD k.toNat Yv).to)⟩ 83) (by simp [Zgk,Zhr]) L
  have e8 : ∀ l,(Zf { M with l:=l } (M.l.getD k.toNat Yv).to)=Zf M (M.l.getD k.toNat Yv).to:=fun l=>rfl
  have hel:(M.l.eraseIdx k.toNat).length≤99999000:=by rw [List.length_eraseIdx];split<;>omega
  rw [e8]
  have hni:=Wu hM hn0 hn1
  have hok:=U5 hW hn0 hn1
  obtain ⟨nb,ni,nl,nF,nfr,ncap,hnv,hnb,hng⟩:=Zm4 hW hn0 hn1
  have hA:=fun {b o} (hb:(b,o)∈Zgk G.aw G.cw (Yi G (M.l.getD k.toNat Yv).to) (M.l.getD k.toNat Yv).to (Zf M (M.l.getD k.toNat Yv).to))=>Zpa hW.ndl hn0 hn1 hb L
  have kb:=fun lv lc H (hI:RwIn H { G with lv:=lv,lc:=lc } { M with l:=M.l.eraseIdx k.toNat })=>Zvc { G with lv:=lv,lc:=lc } { M with l:=M.l.eraseIdx k.toNat } (M.l.getD k.toNat Yv).fr (M.l.getD k.toNat Yv).to H hI hW.bro hW.bll
  generalize hf:M.l.getD k.toNat Yv=f at *
  have hIn : ∀ lv lc,Z7 lv (M.l.eraseIdx k.toNat) lc → ∀ H T:Zb,LS ([(G.wp,Vt { G with lv:=lv,lc:=lc })]::G.ec::lc::G.nc::G.bc::T:Zb).flatten H.flatten→RwIn H { G with lv:=lv,lc:=lc } { M with l:=M.l.eraseIdx k.toNat }:=fun lv lc hv H T hls=>rwIn (hW1 lv lc hv) fun b o hb=>hls.has (hb.app T)
  have hbr0 : ∀ b,M.br (Zjy f)=b→M.br (min f.fr f.to,max f.fr f.to)=b:=fun b h=>h
  simp only [Vt,hnv] at kt hIn kb
  have hnba:=hnb (G.bc::Zal G.aw G.cw G.nd M.n 0::L)
  rcases hsc:(Zf M f.to).site with _|⟨j,ref⟩
  ·rw [if_pos (.inl rfl)]
   have hN:=hno L
   unfold Zbg at hN
   rw [hsc] at hN
   simp only [Zd7] at hN
   obtain ⟨ffr,fto,fdl,fkd,fatt,fys,fs⟩:=f
   simp only at hbad hto hfr hng hn0 hn1 hN kb hbr0 ⊢
   simp only [cdN]
   simp only [Wj,Zei,Vt,List.cons_append,List.nil_append,hnv] at hcl ⊢
   refine Za (fun _ _=>Tryz.call21 _ _) Tryz.func21 rfl Tryz.ntmps21 (Nat.le_of_ble_eq_true rfl) ?_;simp only [Zd,Nat.reduceAdd]
   repeat' (first|refine uN ?_|refine Zu S ?_|(refine uB ?_;intro b)|(refine uP ?_ ?_<;>(intro h;((try simp only [zs,zq,reduceCtorEq] at h);try exact zx)))|refine da 101 ?_|fail)
   refine fo 2 ?_
   refine fo 1 ?_
   refine gc (kt _) ?_
   rintro v L' ⟨lv,lc,hv,rfl,rfl⟩
   repeat' (first|refine uN ?_|refine Zu S ?_|(refine uB ?_;intro b)|(refine uP ?_ ?_<;>(intro h;((try simp only [zs,zq,reduceCtorEq] at h);try exact zx)))|refine da 101 ?_|fail)
   refine gc (kb lv lc _ (hIn lv lc hv _ (Zal G.aw G.cw G.nd M.n 0::L) ?_)) ?_
   ·exact uL
   rintro v L' ⟨rfl,rfl⟩
   repeat' (first|refine uN ?_|refine Zu S ?_|(refine uB ?_;intro b)|(refine uP ?_ ?_<;>(intro h;((try simp only [zs,zq,reduceCtorEq] at h);try exact zx)))|refine da 101 ?_|fail)
   all_goals exact Z9 uL ⟨rfl,hcl _ lc hv⟩
  ·by_cases hbr:M.br (Zjy f)=true
   ·rw [if_pos (.inr hbr)]
    have hbr':=hbr0 _ hbr
    have hN:=hno L
    unfold Zbg at hN
    rw [hsc] at hN
    simp only [Zd7] at hN
    obtain ⟨ffr,fto,fdl,fkd,fatt,fys,fs⟩:=f
    simp only at hbad hto hfr hng hn0 hn1 hN kb hbr' ⊢
    rw [hbr'] at kb
    simp only [cdN]
    simp only [Wj,Zei,Vt,List.cons_append,List.nil_append,hnv] at hcl ⊢
    refine Za (fun _ _=>Tryz.call21 _ _) Tryz.func21 rfl Tryz.ntmps21 (Nat.le_of_ble_eq_true rfl) ?_;simp only [Zd,Nat.reduceAdd]
    repeat' (first|refine uN ?_|refine Zu S ?_|(refine uB ?_;intro b)|(refine uP ?_ ?_<;>(intro h;((try simp only [zs,zq,reduceCtorEq] at h);try exact zx)))|refine da 101 ?_|fail)
    refine fo 2 ?_
    refine fo 1 ?_
    refine gc (kt _) ?_
    rintro v L' ⟨lv,lc,hv,rfl,rfl⟩
    repeat' (first|refine uN ?_|refine Zu S ?_|(refine uB ?_;intro b)|(refine uP ?_ ?_<;>(intro h;((try simp only [zs,zq,reduceCtorEq] at h);try exact zx)))|refine da 101 ?_|fail)
    refine gc (kb lv lc _ (hIn lv lc hv _ (Zal G.aw G.cw G.nd M.n 0::L) ?_)) ?_
    ·exact uL
    rintro v L' ⟨rfl,rfl⟩
    repeat' (first|refine uN ?_|refine Zu S ?_|(refine uB ?_;intro b)|(refine uP ?_ ?_<;>(intro h;((try simp only [zs,zq,reduceCtorEq] at h);try exact zx)))|refine da 101 ?_|fail)
    all_goals exact Z9 uL ⟨rfl,hcl _ lc hv⟩
   ·have hbrf:M.br (Zjy f)=false:=by simpa using hbr
    rw [if_neg (by simp [hbrf])]
    have hbr':=hbr0 _ hbrf
    by_cases hkd:f.kd=2∨f.kd=4∨f.kd=6
    ·rw [if_pos hkd]
     obtain ⟨dn,hdn⟩:=Int.eq_ofNat_of_zero_le hd0.1
     have hd6:dn<6:=by omega
     have hm1:(Zf M f.to).leads[dn]? = some ((Zf M f.to).leads.getD dn none):=getD_some (by rw [hni.leads];exact hd6)
     obtain ⟨q,hq⟩ : ∃ q,(Yi G f.to).ld[dn]? = some q:=⟨_,List.getElem?_eq_getElem (by rw [hok.ld];exact hd6)⟩
     have hv0:=Zip hm1 hq
     rw [show f.dl.toNat=dn by omega]
     have gL:(U4 (Yi G f.to) (Zf M f.to))[0+(dn:Int).toNat]? = some (Zed ((Zf M f.to).leads.getD dn none) q):=by rw [Nat.zero_add,Int.toNat_natCast];exact hv0
     cases hx:(Zf M f.to).leads.getD dn none with
     | none =>
      rw [hx] at gL
      simp only [Zed] at gL
      have hN:=hno L
      have hNL:=hnl L
      unfold Zbg at hN
      rw [hsc] at hN
      simp only [Zd7] at hN
      obtain ⟨ffr,fto,fdl,fkd,fatt,fys,fs⟩:=f
      simp only at hbad hto hfr hng hn0 hn1 hN hNL gL hdn hkd kb hbr' ⊢
      subst hdn
      rw [hbr'] at kb
      simp only [cdN]
      simp only [Wj,Zei,Vt,List.cons_append,List.nil_append,hnv] at hcl ⊢
      refine Za (fun _ _=>Tryz.call21 _ _) Tryz.func21 rfl Tryz.ntmps21 (Nat.le_of_ble_eq_true rfl) ?_;simp only [Zd,Nat.reduceAdd]
      repeat' (first|refine uN ?_|refine Zu S ?_|(refine uB ?_;intro b)|(refine uP ?_ ?_<;>(intro h;((try simp only [zs,zq,reduceCtorEq] at h);try exact zx)))|refine da 101 ?_|fail)
      refine fo 2 ?_
      refine fo 1 ?_
      refine gc (kt _) ?_
      rintro v L' ⟨lv,lc,hv,rfl,rfl⟩
      repeat' (first|refine uN ?_|refine Zu S ?_|(refine uB ?_;intro b)|(refine uP ?_ ?_<;>(intro h;((try simp only [zs,zq,reduceCtorEq] at h);try exact zx)))|refine da 101 ?_|fail)
      refine gc (kb lv lc _ (hIn lv lc hv _ (Zal G.aw G.cw G.nd M.n 0::L) ?_)) ?_
      ·exact uL
      rintro v L' ⟨rfl,rfl⟩
      repeat' (first|refine uN ?_|refine Zu S ?_|(refine uB ?_;intro b)|(refine uP ?_ ?_<;>(intro h;((try simp only [zs,zq,reduceCtorEq] at h);try exact zx)))|refine da 101 ?_|fail)
      all_goals exact Z9 uL ⟨rfl,hcl _ lc hv⟩
     | some x =>
      simp only
      rw [hx] at hm1 gL hv0
      simp only [Zed] at gL hv0
      have hLI:=hni.ldi dn x hm1
      obtain ⟨hs,hH,hrel⟩:=hok.lok dn x hm1 q hq
      have hxw:=hLI.ww
      have hwl:=hM.wl
      have hck:Ym x.w=none:=by rw [hxw];exact hM.w0
      have hRx:Rd ic 1 L G.aw x.w:=by rw [hxw];exact hRw
      have hhl:=Zba x f
      rw [hxw] at hhl
      have hrel2:=hrel.hear f
      have kh:=fun L hR=>Zho q.1 G.aw G.cw q.2.1 q.2.2 x hs f L hR hck hH hrel
      refine HC.nodeR0 (M':={ Y0 { M with l:=M.l.eraseIdx k.toNat } f.to { (Zf M f.to) with site:=some (j,ref),leads:=(Zf M f.to).leads.set dn (some (Zw x f).1) } with l:=M.l.eraseIdx k.toNat++(Zw x f).2 }) hW hn0 hn1 ?_
      obtain ⟨A,B,eA,eB⟩:=Zgv (aw:=G.aw) (cw:=G.cw) hm1 hq
      have hnba:=hnb (G.bc::Vl G.aw G.cw G.nd M.n 0 f.to.toNat::L)
      clear hno hnl hA hcl
      generalize Vl G.aw G.cw G.nd M.n 0 f.to.toNat=X at *
      generalize hmm:Zf M f.to=m at *
      generalize Yi G f.to=g at *
      have eVs : ∀ q',Zed (some (Zw x f).1) q'=Zed (some x) q→U4 { g with ld:=g.ld.set dn q' } { m with leads:=m.leads.set dn (some (Zw x f).1) }=U4 g m:=fun q' e=>by
       rw [Zkr (g:=g) (m:=m) (g':={ g with ld:=g.ld.set dn q' }) (m':={ m with leads:=m.leads.set dn (some (Zw x f).1) }) rfl rfl,e]
       exact Zbh hv0
      have eBs:=fun q'=>eB (some (Zw x f).1) q' { m with leads:=m.leads.set dn (some (Zw x f).1) } { g with ld:=g.ld.set dn q' } rfl rfl
      have hokD:=fun hv' hc' (h1:Z7 hv' (Qd x hs f) hc')=>hok.lead (d:=dn) (q:=(q.1,hv',hc')) h1 hrel2
      obtain ⟨pl,site,leads,done⟩:=m
      simp only at hsc
      subst hsc
      obtain ⟨ffr,fto,fdl,fkd,fatt,fys,fs⟩:=f
      simp only at hbad hto hfr hng hn0 hn1 hdn hkd kb hbr' kh hhl hrel2 eVs eBs hokD ⊢
      subst hdn
      rw [hbr'] at kb
      generalize Zw x ⟨ffr,fto,dn,fkd,fatt,fys,fs⟩=R at *
      simp only [cdN]
      refine HC.sp (L':=[(G.wp,.cells ⟨[.slice G.aw G.wl G.cw,sl nb ni M.n.length ncap,G.bv,G.lv,G.ev]⟩ 47)]::G.ec::[(g.np,.cells ⟨[pt g.rs 0,pt g.rp 0,sl g.bl 0 6 6,sl g.bd 0 6 6]⟩ 58)]::[(g.bl,.cells ⟨U4 g ⟨pl,some (j,ref),leads,done⟩⟩ 83)]::Zks g ⟨pl,some (j,ref),leads,done⟩::Ze3 g.rs g.r.rj g.bR fto ref::Q2 g.r j::Wp g.rp pl g.left::U3 q.1 G.aw G.cw q.2.1 q.2.2 x::A::B::G.lc::G.nc::G.bc::X::L) ?_ ?_
      ·refine Za (fun _ _=>Tryz.call21 _ _) Tryz.func21 rfl Tryz.ntmps21 (Nat.le_of_ble_eq_true rfl) ?_;simp only [Zd,Nat.reduceAdd]
       repeat' (first|refine uN ?_|refine Zu S ?_|(refine uB ?_;intro b)|(refine uP ?_ ?_<;>(intro h;((try simp only [zs,zq,reduceCtorEq] at h);try exact zx)))|refine da 101 ?_|fail)
       refine fo 11 ?_
       refine fo 1 ?_
       refine gc (kt _) ?_
       rintro v L' ⟨lv,lc,hv,rfl,rfl⟩
       obtain ⟨a6,cap6,rfl,-,-⟩:=hv.rd Zl
       repeat' (first|refine uN ?_|refine Zu S ?_|(refine uB ?_;intro b)|(refine uP ?_ ?_<;>(intro h;((try simp only [zs,zq,reduceCtorEq] at h);try exact zx)))|refine da 101 ?_|fail)
       refine gc (kb _ lc _ (hIn _ lc hv _ ([(g.np,.cells ⟨[pt g.rs 0,pt g.rp 0,sl g.bl 0 6 6,sl g.bd 0 6 6]⟩ 58)]::[(g.bl,.cells ⟨U4 g ⟨pl,some (j,ref),leads,done⟩⟩ 83)]::Zks g ⟨pl,some (j,ref),leads,done⟩::Ze3 g.rs g.r.rj g.bR fto ref::Q2 g.r j::Wp g.rp pl g.left::U3 q.1 G.aw G.cw q.2.1 q.2.2 x::A::B::X::L) ?_)) ?_
       ·exact uL
       rintro v L' ⟨rfl,rfl⟩
       repeat' (first|refine uN ?_|refine Zu S ?_|(refine uB ?_;intro b)|(refine uP ?_ ?_<;>(intro h;((try simp only [zs,zq,reduceCtorEq] at h);try exact zx)))|refine da 101 ?_|fail)
       all_goals refine fo 10 ?_
       all_goals refine gc (kh _ (Rd.up hRx [_,_,_,_,_,_,_,_,_,_,_,_,_,_,_])) ?_
       all_goals rintro v L' ⟨c2,hv',hc',hv2,hH',rfl⟩
       all_goals obtain ⟨a7,cap7,rfl,-,hR7⟩:=hv2.rd Zl
       all_goals have ks:=fun L hR=>U6 { G with lv := .slice a6 (M.l.eraseIdx k.toNat).length cap6,lc:=lc } (M.l.eraseIdx k.toNat) R.2 a7 cap7 L hv hR (by omega)
       all_goals simp only [Vt,hnv] at ks
       all_goals repeat' (first|refine uN ?_|refine Zu S ?_|(refine uB ?_;intro b)|(refine uP ?_ ?_<;>(intro h;((try simp only [zs,zq,reduceCtorEq] at h);try exact zx)))|refine da 101 ?_|fail)
       all_goals refine fo 4 ?_
       all_goals refine fo 4 ?_
       all_goals refine gc (ks _ (hR7 _)) ?_
       all_goals rintro v L' ⟨lv3,lc3,hv3,rfl,rfl⟩
       all_goals repeat' (first|refine uN ?_|refine Zu S ?_|(refine uB ?_;intro b)|(refine uP ?_ ?_<;>(intro h;((try simp only [zs,zq,reduceCtorEq] at h);try exact zx)))|refine da 101 ?_|fail)
       all_goals refine Z9 (L':=W1 { G with lv:=lv3,lc:=lc3 } fto { g with ld:=g.ld.set dn (q.1,hv',hc') } ⟨pl,some (j,ref),leads.set dn (some R.1),done⟩ X L) ?_ ⟨rfl,{ G with lv:=lv3,lc:=lc3 },{ M with l:=M.l.eraseIdx k.toNat++R.2 },{ g with ld:=g.ld.set dn (q.1,hv',hc') },⟨pl,some (j,ref),leads.set dn (some R.1),done⟩,hW.setL hv3,rfl,rfl,Zkx,hokD hv' hc' hH',rfl,rfl,rfl⟩
       all_goals simp only [W1,Zd6,Zbg,Zd7,Zhr,Zlw,Zlv,Vt,hnv]
       all_goals rw [eBs (q.1,hv',hc'),eVs (q.1,hv',hc') rfl]
       all_goals exact LS.trans ls8 uL
      ·simp only [W1,Zd6,Zbg,Zd7,Zhr,Zlw,Zlv,Vt,hnv]
       rw [eA]
       exact ls8'
    ·rw [if_neg hkd]
     have kh:=fun lv lc hv L=>Zf3 { G with lv:=lv,lc:=lc } { M with l:=M.l.eraseIdx k.toNat } f.to f L (hW1 lv lc hv) hM1 hn0 hn1 (by rw [e8,hsc];simp)
     have hhl:=Zdm { M with l:=M.l.eraseIdx k.toNat } f.to f
     have hml:(Yt { M with l:=M.l.eraseIdx k.toNat } f.to f).1.l=M.l.eraseIdx k.toNat:=rfl
     have hun:=hearU_no (M:={ M with l:=M.l.eraseIdx k.toNat }) (s:=f.to) (f:=f)
     have hN:=hno L
     unfold Zbg at hN
     rw [hsc] at hN
     simp only [Zd7] at hN
     obtain ⟨ffr,fto,fdl,fkd,fatt,fys,fs⟩:=f
     simp only at hbad hto hfr hng hn0 hn1 hN hkd kb hbr' kh hhl hml hun ⊢
     rw [hbr'] at kb
     clear hno hnl hA
     generalize Yt { M with l:=M.l.eraseIdx k.toNat } fto ⟨ffr,fto,fdl,fkd,fatt,fys,fs⟩=R at *
     generalize Zjl fto (Zf { M with l:=M.l.eraseIdx k.toNat } fto) ⟨ffr,fto,fdl,fkd,fatt,fys,fs⟩=u at *
     simp only [cdN]
     simp only [Wj,Zei,Vt,List.cons_append,List.nil_append,hnv] at hcl ⊢
     refine Za (fun _ _=>Tryz.call21 _ _) Tryz.func21 rfl Tryz.ntmps21 (Nat.le_of_ble_eq_true rfl) ?_;simp only [Zd,Nat.reduceAdd]
     repeat' (first|refine uN ?_|refine Zu S ?_|(refine uB ?_;intro b)|(refine uP ?_ ?_<;>(intro h;((try simp only [zs,zq,reduceCtorEq] at h);try exact zx)))|refine da 101 ?_|fail)
     refine fo 2 ?_
     refine fo 1 ?_
     refine gc (kt _) ?_
     rintro v L' ⟨lv,lc,hv,rfl,rfl⟩
     repeat' (first|refine uN ?_|refine Zu S ?_|(refine uB ?_;intro b)|(refine uP ?_ ?_<;>(intro h;((try simp only [zs,zq,reduceCtorEq] at h);try exact zx)))|refine da 101 ?_|fail)
     refine gc (kb lv lc _ (hIn lv lc hv _ (Zal G.aw G.cw G.nd M.n 0::L) ?_)) ?_
     ·exact uL
     rintro v L' ⟨rfl,rfl⟩
     repeat' (first|refine uN ?_|refine Zu S ?_|(refine uB ?_;intro b)|(refine uP ?_ ?_<;>(intro h;((try simp only [zs,zq,reduceCtorEq] at h);try exact zx)))|refine da 101 ?_|fail)
     refine Q5 (L':=Wj { G with lv:=lv,lc:=lc } { M with l:=M.l.eraseIdx k.toNat }++L) ?_ ?_
     ·refine gc (kh _ _ hv _) ?_
      rintro v L' ⟨c2,⟨fv,hfv,rfl⟩,G2,eS,hW2,rfl⟩
      obtain ⟨a7,cap7,rfl,-,hR7⟩:=hfv.rd Zl
      have hv2:=hW2.l
      rw [hml] at hv2
      have hcl2 : ∀ lv lc,Z7 lv (M.l.eraseIdx k.toNat++R.2.1) lc→Zlh G { R.1 with l:=M.l.eraseIdx k.toNat++R.2.1 } L (Wj { G2 with lv:=lv,lc:=lc } { R.1 with l:=M.l.eraseIdx k.toNat++R.2.1 }++L):=fun lv lc hv=>⟨{ G2 with lv:=lv,lc:=lc },⟨eS.wp,eS.aw,eS.cw,eS.wl,eS.np⟩,hW2.setL hv,rfl⟩
      have ks:=fun L hR=>U6 G2 _ R.2.1 a7 cap7 L hv2 hR (by omega)
      have ewp:G2.wp=G.wp:=eS.wp
      cases u with
      | false =>
       have hnil:=hun rfl
       rw [hnil] at hcl2
       have hcl3:=hcl2 G2.lv G2.lc (by rw [List.append_nil];exact hv2)
       simp only [hnil,Wj,Zei,List.cons_append,List.nil_append,ewp] at hcl3 ⊢
       repeat' (first|refine uN ?_|refine Zu S ?_|(refine uB ?_;intro b)|(refine uP ?_ ?_<;>(intro h;((try simp only [zs,zq,reduceCtorEq] at h);try exact zx)))|refine da 101 ?_|fail)
       exact Z9 uL ⟨rfl,hcl3⟩
      | true =>
       simp only [Wj,Zei,List.cons_append,List.nil_append,ewp] at hcl2 ks ⊢
       repeat' (first|refine uN ?_|refine Zu S ?_|(refine uB ?_;intro b)|(refine uP ?_ ?_<;>(intro h;((try simp only [zs,zq,reduceCtorEq] at h);try exact zx)))|refine da 101 ?_|fail)
       refine fo 2 ?_
       refine fo 1 ?_
       refine gc (ks _ ((hR7 []).mono fun x o hb=>?_)) ?_
       ·exact Zc (Zc (Zc (Zc (Yo (by simpa [Has] using hb)))))
       rintro v L' ⟨lv3,lc3,hv3,rfl,rfl⟩
       repeat' (first|refine uN ?_|refine Zu S ?_|(refine uB ?_;intro b)|(refine uP ?_ ?_<;>(intro h;((try simp only [zs,zq,reduceCtorEq] at h);try exact zx)))|refine da 101 ?_|fail)
       exact Z9 uL ⟨rfl,hcl2 _ lc3 hv3⟩
     ·simp only [Wj,Zei,Vt,List.cons_append,List.nil_append,hnv]
      exact uL
end Go.HL
end

/-! MwI -/
section
namespace Go.HL
open Go Go.Proofs
theorem Zsm {G G':RwG} {M M1:Wm} {s:Int} {g':NrG} {m':Nd} (L:Zb) (hl:G.nd.length=M.n.length) (h0:0≤s) (h1:s<M.n.length) (hW:RwOk G' M1) (e1:G'.nd=G.nd) (e2:M1.n=M.n) (e3:RwS G G') (hN:NrOk g' m') (e4:g'.np=(Yi G s).np) :
  ∃ L',Zlh G (Y0 M1 s m') L L'∧LS L'.flatten (W1 G' s g' m' (Vl G.aw G.cw G.nd M.n 0 s.toNat) L).flatten:=by
 have hnp:g'.np=(Yi G' s).np:=by rw [e4];unfold Yi;rw [e1]
 have eaw:=e3.aw
 have ecw:=e3.cw
 have hps:=Ziq (G:=G') (g:=g') h0 (by rw [e1];omega) hnp
 refine ⟨Wj { G' with nd:=G'.nd.set s.toNat g' } (Y0 M1 s m')++L,⟨{ G' with nd:=G'.nd.set s.toNat g' },⟨e3.wp,e3.aw,e3.cw,e3.wl,hps.trans e3.np⟩,hW.put h0 (by rw [e2];exact h1) hN hnp,rfl⟩,?_⟩
 simp only [Wj,Y0,e1,e2]
 rw [← eaw,← ecw]
 exact Zky (G:=G') (gs:=G.nd) (ms:=M.n) (s:=s) (g:=g') (m:=m') h0 (by omega) (by omega) L
theorem ls8n {x0 x1 x2 x3 x4 x5 x6 x7 c A B:List Zr} {D:Zb}:LS (x0::x1::x2::x3::x4::x5::x6::x7::A::B::D).flatten (x0::x1::x2::x3::x4::x5::x6::x7::(A++(c++B))::D).flatten:=by
 iterate 8 refine LS.k ?_
 simp only [List.flatten_cons,List.append_assoc]
 exact LS.boths A (LS.skips c (LS.refl _))
theorem rl_put {g:NrG} {m:Nd} {d:Nat} (v:Value) (h:d<(U4 g m).length):Zt (U4 g m) (0+(d:Int).toNat) [v] ((U4 g m).set d v):=by
 have e:(U4 g m).set d v=(U4 g m).set (0+(d:Int).toNat) v:=by rw [Nat.zero_add,Int.toNat_natCast]
 rw [e]
 exact Vf (by omega)
theorem Zsg {g:NrG} {m:Nd} (h1:m.leads.length=6) (h2:g.ld.length=6):(U4 g m).length=6:=by simp [U4,h1,h2]
set_option maxHeartbeats 2000000 attribute [local irreducible] HW HO HQ HD HC QOp Has Upd Zt Gets Z8 Z0 Zo Xm Zz Zj Xp Zy
attribute [local irreducible] Zn Zs Q2 Wp Ze3
theorem Zo1 (G:RwG) (M:Wm) (s d:Int) (L:Zb) (hW:RwOk G M) (hM:WI M) (hl:M.l.length≤99999000) :
  HC Tryz.prog 16 [pt G.wp 0,iv s,iv d] (Wj G M++L) (fun v L'=>v=iv (cdN (Wv M s d).2)∧Zlh G (Wv M s d).1 L L'):=by
 unfold Wv
 have hself:=Ub hW L
 have hI:=Zf9 hW L
 have hwn:=hM.wn
 have hwl:=hM.wl
 obtain ⟨an,capn,hnv,hnr⟩:=hI.ns
 have hw:=hI.wp
 unfold Vt at hw
 rw [hnv] at hw
 by_cases h:d<0∨6≤d∨s<0∨M.n.length≤s
 ·simp only [if_pos h,cdN]
  generalize Wj G M++L=H at *
  refine Za (fun _ _=>Tryz.call16 _ _) Tryz.func16 rfl Tryz.ntmps16 (Nat.le_of_ble_eq_true rfl) ?_;simp only [Zd,Nat.reduceAdd]
  repeat' (first|refine uN ?_|(refine uP ?_ ?_<;>(intro h;((try simp only [zs,zq,reduceCtorEq] at h);try exact zx)))|fail)
  all_goals exact Um rfl ⟨rfl,hself⟩
 simp only [if_neg h]
 rcases Za2 (M:=M) (s:=s) with ⟨e,he⟩|⟨he,hn,h0,h1,j,ref,hs⟩
 ·have ku:=Zkw s hW L
  have h1:=Zit he
  generalize Wj G M++L=H at *
  simp only [he,cdN] at ku ⊢
  refine Za (fun _ _=>Tryz.call16 _ _) Tryz.func16 rfl Tryz.ntmps16 (Nat.le_of_ble_eq_true rfl) ?_;simp only [Zd,Nat.reduceAdd]
  repeat' (first|refine uN ?_|refine uC (ku) ?_|(refine uP ?_ ?_<;>(intro h;((try simp only [zs,zq,reduceCtorEq] at h);try exact zx)))|fail)
  exact Um rfl ⟨rfl,hself⟩
 ·simp only [he]
  have ku:=Zkw s hW L
  generalize hH:Wj G M++L=H at *
  simp only [he,cdN] at ku
  obtain ⟨dn,rfl⟩:=Int.eq_ofNat_of_zero_le (show 0≤d by omega)
  have hd6:dn<6:=by omega
  refine Za (fun _ _=>Tryz.call16 _ _) Tryz.func16 rfl Tryz.ntmps16 (Nat.le_of_ble_eq_true rfl) ?_;simp only [Zd,Nat.reduceAdd]
  repeat' (first|refine uN ?_|refine uC (ku) ?_|(refine uP ?_ ?_<;>(intro h;((try simp only [zs,zq,reduceCtorEq] at h);try exact zx)))|fail)
  have hB : ∀ {i:Int} (h0:0≤i) (h1:i<M.n.length) {b:Nat} {o:Obj},(b,o)∈Zgk G.aw G.cw (Yi G i) i (Zf M i)→Has H b o:=fun {i} h0 h1 {b o} hb=>by
   subst hH
   exact Zf8 hW.ndl h0 h1 hb L
  refine Zp (σ:=Nat) (fun i=>[(0,pt G.wp 0),(1,iv s),(2,iv dn),(8,iv i)]) (fun _=>H) (fun i=>i≤M.n.length ∧ ∀ k,k<i→Vp dn (Zf M (k:Int))=false) (fun i=>M.n.length-i) 0 uS (List.Sublist.refl _) ⟨by simp,fun k hk=>by omega⟩ ?_
  rintro i ⟨hi,hfree⟩
  by_cases hlt:i<M.n.length
  ·have hBi:=fun {b o}=>hB (i:=(i:Int)) (by omega) (by omega) (b:=b) (o:=o)
   have hni:=Wu hM (s:=(i:Int)) (by omega) (by omega)
   have hok:=U5 hW (s:=(i:Int)) (by omega) (by omega)
   obtain ⟨b9,bi,l,F,fr,cap2,e7,hb,hg2⟩:=Zkz hI hW.ndl (s:=(i:Int)) (by omega) (by omega)
   rw [hnv] at e7
   obtain ⟨rfl,-,rfl⟩:=Value.slice.inj e7
   have hNi:Has H (Yi G i).np (Zbg (Yi G i) (Zf M i)):=hBi (by simp [Zgk,Zd6])
   have hLi:Has H (Yi G i).bl (.cells ⟨U4 (Yi G i) (Zf M i)⟩ 83):=hBi (by simp [Zgk,Zhr])
   have kst:=Zb5 G M i dn H hI hW.ndl (by omega) (by omega) hd6 hni.b512 hNi (fun p hp=>hBi (by simp [Zgk,hp]))
   have hm1:(Zf M i).leads[dn]? = some ((Zf M i).leads.getD dn none):=getD_some (by rw [hni.leads];exact hd6)
   obtain ⟨q,hq⟩ : ∃ q,(Yi G i).ld[dn]? = some q:=⟨_,List.getElem?_eq_getElem (by rw [hok.ld];exact hd6)⟩
   have hv:=Zip hm1 hq
   have gL:(U4 (Yi G i) (Zf M i))[0+(dn:Int).toNat]? = some (Zed ((Zf M i).leads.getD dn none) q):=by rw [Nat.zero_add,Int.toNat_natCast];exact hv
   have hbz:Vp dn (Zf M i)=(decide (Xf (Zf M i).pl dn≠W4) || ((Zf M i).leads.getD dn none).isSome):=rfl
   have hbu:=Zqh (M:=M) (d:=dn) hlt
   unfold Zbg at hNi
   generalize hmi:Zf M i=m at *
   generalize Yi G i=g at *
   generalize Xf m.pl dn=st at *
   obtain ⟨ph,pr,att⟩:=st
   cases hx:m.leads.getD dn none with
   | some x =>
    rw [hx] at gL hbz
    simp only [Zed] at gL
    have hb1:Vp dn m=true:=by rw [hbz];simp
    rw [if_pos (hbu hb1)]
    simp only [cdN]
    repeat' (first|refine uN ?_|refine uC (kst) ?_|(refine uP ?_ ?_<;>(intro h;((try simp only [zs,zq,reduceCtorEq] at h);try exact zx)))|fail)
    all_goals exact Z9 (LS.refl _) ⟨rfl,hself⟩
   | none =>
    rw [hx] at gL hbz
    simp only [Zed] at gL
    by_cases hz:ph=0∧pr=0∧att=0
    ·obtain ⟨rfl,rfl,rfl⟩:=hz
     have hb0:Vp dn m=false:=by rw [hbz];rfl
     repeat' (first|refine uN ?_|refine uC (kst) ?_|(refine uP ?_ ?_<;>(intro h;((try simp only [zs,zq,reduceCtorEq] at h);try exact zx)))|fail)
     all_goals refine Zg (i+1) uS (LS.refl _) ⟨by omega,fun k hk=>?_⟩ (by omega)
     all_goals by_cases e:k=i
     all_goals first|(subst e;rw [hmi];exact hb0;done)|exact hfree k (by omega)
    ·have hb1:Vp dn m=true:=by
      rw [hbz,decide_eq_true]
      ·rfl
      ·intro e
       cases e
       exact hz ⟨rfl,rfl,rfl⟩
     rw [if_pos (hbu hb1)]
     simp only [cdN]
     repeat' (first|refine uN ?_|refine uC (kst) ?_|(refine uP ?_ ?_<;>(intro h;((try simp only [zs,zq,reduceCtorEq] at h);try exact zx)))|fail)
     all_goals first|exact Z9 (LS.refl _) ⟨rfl,hself⟩|(exfalso;simp_all;done)
  ·obtain rfl:i=M.n.length:=by omega
   have hany:M.n.any (Vp (dn:Int))=false:=Zl5 hfree
   simp only [hany,Bool.false_eq_true,if_false,cdN]
   subst hH
   clear hB
   have hok:=U5 hW h0 h1
   have hni:=Wu hM h0 h1
   have hwlG:=hW.wl
   have hm1:(Zf M s).leads[dn]? = some ((Zf M s).leads.getD dn none):=getD_some (by rw [hni.leads];exact hd6)
   obtain ⟨q,hq⟩ : ∃ q,(Yi G s).ld[dn]? = some q:=⟨_,List.getElem?_eq_getElem (by rw [hok.ld];exact hd6)⟩
   obtain ⟨A,B,eA,eB⟩:=Zgv (aw:=G.aw) (cw:=G.cw) hm1 hq
   have kb:=fun L=>Zak s dn G.aw G.cw M.w 0 L
   rw [show Zk9 0=2 from rfl] at kb
   have kst:=fun lp L=>Zf7 lp G.aw G.cw Ys [] (Zi s dn M.w 0 2) L hwl
   obtain ⟨al,capl,hlv5,-,hlr⟩:=hW.l.rd Zl
   have hvl:=hW.l
   have hsl:=Zca (Zi s dn M.w 0 2)
   have hslw:(Zi s dn M.w 0 2).w=M.w:=rfl
   rw [hslw] at hsl
   have ks:=fun a7 cap7 L hR=>U6 G M.l (Xk (Zi s dn M.w 0 2)) a7 cap7 L hW.l hR (by omega)
   have hsh:=fun G' M1 g' m' a b c d e f=>Zsm (G:=G) (G':=G') (M:=M) (M1:=M1) (s:=s) (g':=g') (m':=m') L hW.ndl h0 h1 a b c d e f
   have hWL:=fun {lv lc l} hv=>hW.setL (lv:=lv) (lc:=lc) (l:=l) hv
   have hlv:=Zsg (g:=Yi G s) hni.leads hok.ld
   obtain ⟨nb,ni,nl,nF,nfr,ncap,hnv2,hnb,hng⟩:=Zm4 hW h0 h1
   have hnba:=hnb (G.bc::Vl G.aw G.cw G.nd M.n 0 s.toNat::L)
   rw [hnv] at hnv2
   obtain ⟨rfl,-,rfl⟩:=Value.slice.inj hnv2
   have hrel:RelH (Zi s dn M.w 0 2) []:=RelH.new hwl rfl rfl
   have hokD:=fun lp=>hok.lead (d:=dn) (q:=(lp,Ys,[])) (hs:=[]) (x:=Zi s dn M.w 0 2) Zv hrel
   refine W6 (L':=W1 G s (Yi G s) (Zf M s) (Vl G.aw G.cw G.nd M.n 0 s.toNat) L) ?_ (Zis hW.ndl h0 h1 L)
   generalize Vl G.aw G.cw G.nd M.n 0 s.toNat=X at *
   generalize hmm:Zf M s=m at *
   generalize hgg:Yi G s=g at *
   have eVs:=fun q'=>Zkr (g:=g) (m:=m) (o':=some (Zi s dn M.w 0 2)) (q':=q') (g':={ g with ld:=g.ld.set dn q' }) (m':={ m with leads:=m.leads.set dn (some (Zi s dn M.w 0 2)) }) rfl rfl
   have eBs:=fun q'=>eB (some (Zi s dn M.w 0 2)) q' { m with leads:=m.leads.set dn (some (Zi s dn M.w 0 2)) } { g with ld:=g.ld.set dn q' } rfl rfl
   obtain ⟨pl,site,leads,done⟩:=m
   simp only at hs
   subst hs
   simp only [Vt,hnv,hwlG] at ks
   simp only at eVs eBs hokD hlv hm1
   refine W6 (L':=[(G.wp,.cells ⟨[.slice G.aw M.w.length G.cw,sl nb ni M.n.length capn,G.bv,G.lv,G.ev]⟩ 47)]::G.ec::[(g.np,.cells ⟨[pt g.rs 0,pt g.rp 0,sl g.bl 0 6 6,sl g.bd 0 6 6]⟩ 58)]::[(g.bl,.cells ⟨U4 g ⟨pl,some (j,ref),leads,done⟩⟩ 83)]::Zks g ⟨pl,some (j,ref),leads,done⟩::Ze3 g.rs g.r.rj g.bR s ref::Q2 g.r j::Wp g.rp pl g.left::A::B::G.lc::G.nc::G.bc::X::L) ?_ ?_
   ·repeat' (first|refine uN ?_|refine uC (ku) ?_|(refine uP ?_ ?_<;>(intro h;((try simp only [zs,zq,reduceCtorEq] at h);try exact zx)))|fail)
    refine gc (kb _) ?_
    rintro v L' ⟨lp,rfl,rfl⟩
    have gP:=rl_put (g:=g) (m:=⟨pl,some (j,ref),leads,done⟩) (d:=dn) (pt lp 0) (by omega)
    repeat' (first|refine uN ?_|refine uC (ku) ?_|(refine uP ?_ ?_<;>(intro h;((try simp only [zs,zq,reduceCtorEq] at h);try exact zx)))|fail)
    refine gc (kst lp _) ?_
    rintro v L' ⟨c2,hv2,rfl⟩
    obtain ⟨a7,cap7,rfl,-,hR7⟩:=hv2.rd Zl
    repeat' (first|refine uN ?_|refine uC (ku) ?_|(refine uP ?_ ?_<;>(intro h;((try simp only [zs,zq,reduceCtorEq] at h);try exact zx)))|fail)
    refine fo 12 ?_
    refine fo 3 ?_
    refine gc (ks _ _ _ (hR7 _)) ?_
    rintro v L' ⟨lv3,lc3,hv3,rfl,rfl⟩
    repeat' (first|refine uN ?_|refine uC (ku) ?_|(refine uP ?_ ?_<;>(intro h;((try simp only [zs,zq,reduceCtorEq] at h);try exact zx)))|fail)
    obtain ⟨L9,hP,hLS⟩:=hsh { G with lv:=lv3,lc:=lc3 } { M with l:=M.l++Xk (Zi s dn M.w 0 2) } { g with ld:=g.ld.set dn (lp,Ys,[]) } ⟨pl,some (j,ref),leads.set dn (some (Zi s dn M.w 0 2)),done⟩ (hWL hv3) rfl rfl Zkx (hokD lp) rfl
    refine Z9 (L':=L9) (LS.trans hLS ?_) ⟨rfl,hP⟩
    simp only [W1,Zd6,Zbg,Zd7,Zhr,Zlw,Zlv,Vt,hnv,hwlG]
    rw [eBs (lp,Ys,[]),eVs (lp,Ys,[])]
    exact LS.trans ls8 uL
   ·simp only [W1,Zd6,Zbg,Zd7,Zhr,Zlw,Zlv,Vt,hnv,hwlG]
    rw [eA]
    exact ls8n
end Go.HL
end

/-! MwJ -/
section
namespace Go.HL
open Go Go.Proofs
theorem try_fine {M:Wm} {s a:Int} {d:Nat} {j:Jn} {ref:Int→Bool} (hM:WI M) (h0:0≤s) (h1:s<M.n.length) (hs:(Zf M s).site=some (j,ref)) (hd:d<6) (ha0:0≤a) (ha:a≤1048576) (hn:(j.l.getD d Zm).n+1<4294967296) :
  Zjl s (Zf M s) (Vv s d a)=(Yt M s (Vv s d a)).2.2:=by
 have hni:=Wu hM h0 h1
 have hj:=hni.jn hs
 have hoff:=(hni.up j ref hs).2
 have hwn:=hM.wn
 have hwl:=hM.wl
 have hb : ¬ X5 (Vv s d a):=by
  unfold X5 Vv W4
  simp only
  omega
 have htu:=(Zpm (ref:=ref) (f:=Vv s d a) (st:=(j.l.getD d Zm).s) (hj.st d hd) hb).1
 have hfine:=Zzm hj.ji hoff s ref (Vv s d a) hb rfl hn (by
  unfold Zgy at htu
  unfold Uf
  have:((Vv s d a).dl).toNat=d:=rfl
  rw [this]
  have e:(Vv s d a).dl=(d:Int):=rfl
  rw [e]
  omega)
 unfold Zjl Yt Y7
 simp only [hs]
 split
 ·rename_i h
  rw [h];rfl
 ·exact hfine.symm
theorem Zp1 {M:Wm} {s d:Int} {st:St} {k:Int}:Zci (Zi s d M.w st.pr k) 7 st.ph=W7 M s d st:=by
 unfold Zci W7
 have e : ∀ i,Zaz (Zi s d M.w st.pr k) 7 st.ph i=[⟨s,(i:Int),d,7,st.pr,false,⟨st.ph,0,0⟩⟩]:=fun i=>if_pos (.inl (by decide))
 rw [show Zaz (Zi s d M.w st.pr k) 7 st.ph=fun i:Nat=>[(⟨s,(i:Int),d,7,st.pr,false,⟨st.ph,0,0⟩⟩:Fr)] from funext e]
 exact (List.map_eq_flatMap ..).symm
theorem Zrp {A L:Zb} {c:List Zr}:LS (A++L).flatten (A++(c::L)).flatten:=by
 simp only [List.flatten_append,List.flatten_cons]
 exact LS.boths _ (LS.skips _ (LS.refl _))
set_option maxHeartbeats 2000000 attribute [local irreducible] HW HO HQ HD HC QOp Has Upd Zt Gets Z8 Z0 Zo Xm Zz Zj Xp Zy
attribute [local irreducible] Zn Zs Q2 Wp Ze3 Zbl
set_option maxHeartbeats 4000000 in
theorem Zsk (G:RwG) (M:Wm) (s:Int) (L:Zb) (hRw:Rd ic 1 L G.aw M.w) (hW:RwOk G M) (hM:WI M) (hl:M.l.length≤99998000)
  (hnum:Zco M s=none → ∀ k j ref,k<6→(Zf (Wg s M k).1 s).site=some (j,ref)→(j.l.getD k Zm).n+1<4294967296) :
  HC Tryz.prog 18 [pt G.wp 0,iv s] (Wj G M++L) (fun v L'=>v=iv (cdN (Uc M s).2)∧Zlh G (Uc M s).1 L L'):=by
 unfold Uc
 have hself:=Ub hW L
 rcases Za2 (M:=M) (s:=s) with ⟨e,he⟩|⟨he,hn,h0,h1,j,ref,hs⟩
 ·have ku:=Zkw s hW L
  have h1:=Zit he
  generalize Wj G M++L=H at *
  simp only [he,cdN] at ku ⊢
  refine Za (fun _ _=>Tryz.call18 _ _) Tryz.func18 rfl Tryz.ntmps18 (Nat.le_of_ble_eq_true rfl) ?_;simp only [Zd,Nat.reduceAdd]
  repeat' (first|refine uN ?_|refine Z2 S ?_|refine uC (ku) ?_|(refine uB ?_;intro b)|(refine uP ?_ ?_<;>(intro h;((try simp only [zs,zq,reduceCtorEq] at h);try exact zx)))|fail)
  exact Um rfl ⟨rfl,hself⟩
 ·replace hnum:=hnum he
  have ku:=Zkw s hW L
  simp only [he,cdN] at ku ⊢
  have hticks:=fun k hk=>Zaq hM h0 h1 (by rw [hs];simp) k hk
  change ∀ k,k≤6→TickOk M (Wg s M k) s k at hticks
  change HC _ _ _ _ (fun v L'=>v=iv 0∧Zlh G (Wg s M 6).1 L L')
  have hI0:=Zf9 hW L
  obtain ⟨nb,ni,nl,nF,nfr,ncap,hnv,hnb,hng⟩:=Zkz hI0 hW.ndl h0 h1
  have hw0:=hI0.wp
  unfold Vt at hw0
  rw [hnv] at hw0
  generalize hH0:Wj G M++L=H0 at *
  refine Za (fun _ _=>Tryz.call18 _ _) Tryz.func18 rfl Tryz.ntmps18 (Nat.le_of_ble_eq_true rfl) ?_;simp only [Zd,Nat.reduceAdd]
  repeat' (first|refine uN ?_|refine Z2 S ?_|refine uC (ku) ?_|(refine uB ?_;intro b)|(refine uP ?_ ?_<;>(intro h;((try simp only [zs,zq,reduceCtorEq] at h);try exact zx)))|fail)
  subst hH0
  refine Zp (σ:=Nat × RwG) (fun r=>[(0,pt G.wp 0),(1,iv s),(6,pt (Yi G s).np 0),(7,iv r.1)]) (fun r=>Wj r.2 (Wg s M r.1).1++L)
   (fun r=>r.1≤6∧(Wg s M r.1).2=true∧RwOk r.2 (Wg s M r.1).1∧RwS G r.2) (fun r=>6-r.1) (0,G) uS (List.Sublist.refl _) ⟨by simp,rfl,hW,.refl G⟩ ?_
  rintro ⟨d,G1⟩ ⟨hd,hon,hW1,eS⟩
  simp only at hd hon hW1 eS ⊢
  obtain ⟨hM1,hsame,hlen,hsite⟩:=hticks d hd
  have hsite1:=hsite hon
  have hnx:=Ze6 s M d
  by_cases hd6:d<6
  ·have hnx2:=hticks (d+1) (by omega)
   have hstop:=fun h=>Ze5 (s:=s) (M:=M) (k:=d+1) h (5-d)
   rw [show d+1+(5-d)=6 by omega] at hstop
   have hnum1:=fun j ref=>hnum d j ref hd6
   generalize Wg s M d=q at *
   obtain ⟨M1,b0⟩:=q
   simp only at hon hW1 hM1 hsame hlen hsite1 hnum1 ⊢
   subst hon
   have h1':s<M1.n.length:=by rw [hsame.n];exact h1
   have hnp2:=Zwt eS h0 (by rw [hW.ndl];exact h1)
   have hok:=U5 hW1 h0 h1'
   have hni:=Wu hM1 h0 h1'
   obtain ⟨⟨j1,ref1⟩,hs1⟩:=Option.ne_none_iff_exists'.1 hsite1
   have hnumd:=hnum1 j1 ref1 hs1
   have hj:=hni.jn hs1
   have hst:=hj.st d hd6
   have hB : ∀ {b:Nat} {o:Obj},(b,o)∈Zgk G1.aw G1.cw (Yi G1 s) s (Zf M1 s)→Has (Wj G1 M1++L) b o:=fun {b o} hb=>Zf8 hW1.ndl h0 h1' hb L
   have hN:=Zds hW1.ndl h0 h1' L
   have hRI:RsIn (Wj G1 M1++L) (Yi G1 s) s j1:=Zpc (ref:=ref1) (fun p hp=>hB (by simp [Zgk,hs1,Zlw,hp])) (fun p hp=>hB (by simp [Zgk,hs1,Zlv,hp]))
   obtain ⟨⟨bRv,hsi⟩,hrj,hsS⟩:=hRI
   have gS:=Zo0 (r:=(Yi G1 s).r) (j:=j1) (d:=d) (e:=j1.l.getD d Zm) (by simp [List.getD,hj.ji.jn.len,hd6])
   have htd:Wg s M (d+1)=if Yq j1 d=W4 then (M1,true) else if (Yq j1 d).ph=2∨(Yq j1 d).ph=3 then ({ M1 with l:=M1.l++W7 M1 s d (Yq j1 d) },true) else Zbl M1 s d (Yq j1 d).pr:=by
    rw [hnx]
    unfold tickD
    simp only [hs1,Bool.true_eq_false,if_false]
   unfold Zbg at hN
   rw [hs1] at hN
   simp only [Zd7,hnp2] at hN
   unfold Zf4 at hrj
   have hdl:=Zcv M1 s d (Yq j1 d)
   have hall:=fun k=>Zp1 (M:=M1) (s:=s) (d:=d) (st:=Yq j1 d) (k:=k)
   change Gets _ _ (sc (Yq j1 d)) at gS
   generalize hstv:Yq j1 d=st at *
   obtain ⟨ph,pr,att⟩:=st
   obtain ⟨q1,q2,q3,q4,q5⟩:=hst
   simp only at q1 q2 q3 q4 q5 hall
   have hwn:=hM1.wn
   have hwl:=hM1.wl
   have ewp:=eS.wp
   have kfin:=fun L=>Zbv ph L
   by_cases hz:ph=0∧pr=0∧att=0
   ·obtain ⟨rfl,rfl,rfl⟩:=hz
    rw [if_pos (show (⟨0,0,0⟩:St)=W4 from rfl)] at htd
    clear hB
    generalize hH:Wj G1 M1++L=H at *
    repeat' (first|refine uN ?_|refine Z2 S ?_|refine uC (kfin _) ?_|(refine uB ?_;intro b)|(refine uP ?_ ?_<;>(intro h;((try simp only [zs,zq,reduceCtorEq] at h);try exact zx)))|fail)
    all_goals subst hH
    all_goals refine Zg (d+1,G1) uS ?_ ⟨by simp only;omega,by simp only [htd],by simp only [htd];exact hW1,eS⟩ (by simp only;omega)
    all_goals simp only [htd]
    all_goals exact ls_out
   have hz2 : ¬ ((⟨ph,pr,att⟩:St)=W4):=fun e=>by cases e;exact hz ⟨rfl,rfl,rfl⟩
   rw [if_neg hz2] at htd
   have hwlG:=hW1.wl
   have hwp:=(Zf9 hW1 L).wp
   unfold Vt at hwp
   rw [hwlG,ewp] at hwp
   have hMl:M1.l.length≤99998100:=by omega
   by_cases hf:ph=2∨ph=3
   ·rw [if_pos hf] at htd
    have kfin2:=kfin
    rw [decide_eq_true hf] at kfin2
    clear hB
    have kb:=fun L=>Zak s d G1.aw G1.cw M1.w pr L
    have ksd:=fun lp L=>Qu lp G1.aw G1.cw Ys [] (Zi s d M1.w pr (Zk9 pr)) 7 ph true L hwl rfl
    rw [hall] at ksd
    have ks:=fun a7 cap7 L hR=>U6 G1 M1.l (W7 M1 s d ⟨ph,pr,att⟩) a7 cap7 L hW1.l hR (by omega)
    rw [ewp] at ks
    have hcl : ∀ lv lc,Z7 lv (M1.l++W7 M1 s d ⟨ph,pr,att⟩) lc→RwOk { G1 with lv:=lv,lc:=lc } { M1 with l:=M1.l++W7 M1 s d ⟨ph,pr,att⟩ }:=fun lv lc hv=>hW1.setL hv
    generalize hH:Wj G1 M1++L=H at *
    repeat' (first|refine uN ?_|refine Zu S ?_|refine uC (kfin2 _) ?_|refine Yb (fun _=>kfin2 _) ?_|refine Yc (fun _=>kfin2 _) ?_|refine Yd (fun _=>kfin2 _) ?_|refine Ye (fun _=>kfin2 _) ?_|(refine uB ?_;intro b)|(refine uP ?_ ?_<;>(intro h;((try simp only [zs,zq,reduceCtorEq] at h);try exact zx)))|refine da 101 ?_|fail)
    all_goals refine gc (kb _) ?_
    all_goals rintro v L' ⟨lp,rfl,rfl⟩
    all_goals repeat' (first|refine uN ?_|refine Zu S ?_|refine uC (kfin2 _) ?_|refine Yb (fun _=>kfin2 _) ?_|refine Yc (fun _=>kfin2 _) ?_|refine Yd (fun _=>kfin2 _) ?_|refine Ye (fun _=>kfin2 _) ?_|(refine uB ?_;intro b)|(refine uP ?_ ?_<;>(intro h;((try simp only [zs,zq,reduceCtorEq] at h);try exact zx)))|refine da 101 ?_|fail)
    all_goals refine gc (ksd lp _) ?_
    all_goals rintro v L' ⟨c2,hv2,rfl⟩
    all_goals obtain ⟨a7,cap7,rfl,-,hR7⟩:=hv2.rd Zl
    all_goals repeat' (first|refine uN ?_|refine Zu S ?_|refine uC (kfin2 _) ?_|refine Yb (fun _=>kfin2 _) ?_|refine Yc (fun _=>kfin2 _) ?_|refine Yd (fun _=>kfin2 _) ?_|refine Ye (fun _=>kfin2 _) ?_|(refine uB ?_;intro b)|(refine uP ?_ ?_<;>(intro h;((try simp only [zs,zq,reduceCtorEq] at h);try exact zx)))|refine da 101 ?_|fail)
    all_goals subst hH
    all_goals refine Q5 (L':=[(G.wp,Vt G1)]::G1.lc::c2::G1.ec::G1.nc::G1.bc::Zal G1.aw G1.cw G1.nd M1.n 0::L) ?_ (by simp only [Wj,Zei,List.cons_append,List.nil_append,ewp];exact uL)
    all_goals refine gc (ks a7 cap7 _ (hR7 _)) ?_
    all_goals rintro v L' ⟨lv3,lc3,hv3,rfl,rfl⟩
    all_goals repeat' (first|refine uN ?_|refine Zu S ?_|refine uC (kfin2 _) ?_|refine Yb (fun _=>kfin2 _) ?_|refine Yc (fun _=>kfin2 _) ?_|refine Yd (fun _=>kfin2 _) ?_|refine Ye (fun _=>kfin2 _) ?_|(refine uB ?_;intro b)|(refine uP ?_ ?_<;>(intro h;((try simp only [zs,zq,reduceCtorEq] at h);try exact zx)))|refine da 101 ?_|fail)
    all_goals refine Zg (d+1,{ G1 with lv:=lv3,lc:=lc3 }) uS ?_ ⟨by simp only;omega,by simp only [htd],by simp only [htd];exact hcl lv3 lc3 hv3,eS.trans Zkx⟩ (by simp only;omega)
    all_goals simp only [htd,Wj,Zei,List.cons_append,List.nil_append,ewp]
    all_goals exact uL
   ·rw [if_neg hf] at htd
    have kfin2:=kfin
    rw [decide_eq_false hf] at kfin2
    have hm1:(Zf M1 s).leads[d]? = some ((Zf M1 s).leads.getD d none):=getD_some (by rw [hni.leads];exact hd6)
    obtain ⟨q,hq⟩ : ∃ q,(Yi G1 s).ld[d]? = some q:=⟨_,List.getElem?_eq_getElem (by rw [hok.ld];exact hd6)⟩
    have hv:=Zip hm1 hq
    have gL:(U4 (Yi G1 s) (Zf M1 s))[0+(d:Int).toNat]? = some (Zed ((Zf M1 s).leads.getD d none) q):=by rw [Nat.zero_add,Int.toNat_natCast];exact hv
    have hLb:Has (Wj G1 M1++L) (Yi G1 s).bl (.cells ⟨U4 (Yi G1 s) (Zf M1 s)⟩ 83):=hB (by simp [Zgk,Zhr])
    have hseen : ∀ x,(Zf M1 s).leads[d]? = some (some x)→Has (Wj G1 M1++L) q.1 (.cells ⟨Zz4 G1.aw G1.cw q.2.1 x⟩ 93):=fun x hx=>hB (by
     unfold Zgk
     exact List.mem_append_right _ (List.mem_append_right _ (List.mem_append_right _ (List.mem_append_right _ (List.mem_append_right _ (List.mem_append_right _ (Zsf hx hq (by simp [U3]))))))))
    have hab:0≤Yu (Zf M1 s) d pr∧Yu (Zf M1 s) d pr≤1048576:=by
     unfold Yu
     split
     ·omega
     ·rename_i x hx
      have:=hni.ldi d x (by rw [hm1];simp only [Int.toNat_natCast] at hx;rw [hx])
      have h1:=this.seen0
      have h2:=this.seen1
      omega
    have hw1:=hM1.w1
    have hr0:=Int.emod_nonneg (s-(Yu (Zf M1 s) d pr+1)) (by omega:(M1.w.length:Int)≠0)
    have hr1:=Int.emod_lt_of_pos (s-(Yu (Zf M1 s) d pr+1)) (by omega:(0:Int)<M1.w.length)
    have htf:=fun a ha0 ha=>try_fine (a:=a) hM1 h0 h1' hs1 hd6 ha0 ha hnumd
    generalize hH:Wj G1 M1++L=H at *
    unfold Zbl Zar at htd
    have habv:Yu (Zf M1 s) d pr=match (Zf M1 s).leads.getD d none with
     | none=>pr
     | some x=>max pr x.seen:=rfl
    generalize hab2:Yu (Zf M1 s) d pr=ab at *
    apply Zus (ι:=Int) (fun a=>a=ab) (fun a=>[(0,pt G.wp 0),(1,iv s),(6,pt (Yi G s).np 0),(7,iv d),(11,iv (a+1))]) (fun _=>H)
    ·intro key
     cases hx:(Zf M1 s).leads.getD d none with
     | none =>
      rw [hx] at gL habv
      simp only [Zed] at gL habv
      repeat' (first|refine uN ?_|refine Zu S ?_|refine uC (kfin2 _) ?_|refine Yb (fun _=>kfin2 _) ?_|refine Yc (fun _=>kfin2 _) ?_|refine Yd (fun _=>kfin2 _) ?_|refine Ye (fun _=>kfin2 _) ?_|(refine uB ?_;intro b)|(refine uP ?_ ?_<;>(intro h;((try simp only [zs,zq,reduceCtorEq] at h);try exact zx)))|refine da 101 ?_|fail)
      exact W6 (Zgo (key _ habv.symm) uS) (LS.c (LS.refl _))
     | some x =>
      rw [hx] at gL habv hm1
      simp only [Zed] at gL habv
      have hse:=hseen x hm1
      unfold Zz4 at hse
      repeat' (first|refine uN ?_|refine Zu S ?_|refine uC (kfin2 _) ?_|refine Yb (fun _=>kfin2 _) ?_|refine Yc (fun _=>kfin2 _) ?_|refine Yd (fun _=>kfin2 _) ?_|refine Ye (fun _=>kfin2 _) ?_|(refine uB ?_;intro b)|(refine uP ?_ ?_<;>(intro h;((try simp only [zs,zq,reduceCtorEq] at h);try exact zx)))|refine da 101 ?_|fail)
      ·exact W6 (Zgo (key x.seen (by rw [habv];omega)) uS) (LS.c (LS.refl _))
      ·exact W6 (Zgo (key pr (by rw [habv];omega)) uS) (LS.c (LS.refl _))
    rintro ab' rfl
    refine Zp (σ:=Int) (fun x=>[(0,pt G.wp 0),(1,iv s),(6,pt (Yi G s).np 0),(7,iv d),(11,iv x)]) (fun _=>H) (fun x => ∃ j:Nat,x=ab'+1+j∧(j:Int)≤(s-(ab'+1)) % M1.w.length) (fun x=>(ab'+1+(s-(ab'+1)) % M1.w.length-x).toNat) (ab'+1) uS (List.Sublist.refl _) ⟨0,by simp,hr0⟩ ?_
    rintro x ⟨jj,rfl,hjj⟩
    have hst:=Zqb (k:=M1.w.length) (s:=s) (a:=ab'+1) (j:=jj) (by omega) h0 (by omega) (by omega) hjj
    by_cases hlt:(jj:Int)=(s-(ab'+1)) % M1.w.length
    ·rw [← hlt] at htd
     have hst2:=hst.2 hlt
     have ha1:1≤ab'+1+jj:=by omega
     have ha2:ab'+1+jj≤1048590:=by omega
     have ha3:0≤ab'+1+(jj:Int):=by omega
     have hs7:s<7:=by omega
     clear hjj hst hB gL hv
     generalize ab'+1+(jj:Int)=a at *
     by_cases hmax:1048576<a
     ·rw [if_pos hmax] at htd
      repeat' (first|refine uN ?_|refine Zu S ?_|refine uC (kfin2 _) ?_|refine Yb (fun _=>kfin2 _) ?_|refine Yc (fun _=>kfin2 _) ?_|refine Yd (fun _=>kfin2 _) ?_|refine Ye (fun _=>kfin2 _) ?_|(refine uB ?_;intro b)|(refine uP ?_ ?_<;>(intro h;((try simp only [zs,zq,reduceCtorEq] at h);try exact zx)))|refine da 101 ?_|fail)
      all_goals subst hH
      all_goals refine Zg (d+1,G1) uS ?_ ⟨by simp only;omega,by simp only [htd],by simp only [htd];exact hW1,eS⟩ (by simp only;omega)
      all_goals simp only [htd]
      all_goals exact LS.refl _
     ·rw [if_neg hmax] at htd
      subst hH
      have kH:=Zf3 G1 M1 s (Vv s d a) L hW1 hM1 h0 h1' hsite1
      rw [htf a ha3 (by omega),ewp] at kH
      have hRI:=hM1.hear (f:=Vv s d a) h0 h1' (by show s<_;omega)
      have hRl:=Zdm M1 s (Vv s d a)
      have hRw2:(Yt M1 s (Vv s d a)).1.w=M1.w:=rfl
      have hRL:(Yt M1 s (Vv s d a)).1.l=M1.l:=rfl
      have hRn:(Yt M1 s (Vv s d a)).1.n.length=M1.n.length:=hRI.1.wn.trans ((congrArg List.length hRw2).trans hwn.symm)
      clear htf hseen
      generalize Yt M1 s (Vv s d a)=R at *
      obtain ⟨M2,told,ok⟩:=R
      simp only at kH hRI hRl hRw2 hRL hRn htd
      obtain ⟨hM2,hfo⟩:=hRI
      repeat' (first|refine uN ?_|refine Zu S ?_|refine uC (kfin2 _) ?_|refine Yb (fun _=>kfin2 _) ?_|refine Yc (fun _=>kfin2 _) ?_|refine Yd (fun _=>kfin2 _) ?_|refine Ye (fun _=>kfin2 _) ?_|(refine uB ?_;intro b)|(refine uP ?_ ?_<;>(intro h;((try simp only [zs,zq,reduceCtorEq] at h);try exact zx)))|refine da 101 ?_|fail)
      refine gc kH ?_
      rintro v L' ⟨c,⟨fv,hfv,rfl⟩,G2,eS2,hW2,rfl⟩
      obtain ⟨af,capf,rfl,-,hRf⟩:=hfv.rd Zl
      cases ok with
      | false =>
       rw [if_pos rfl] at htd
       have h6:=hstop (by rw [htd])
       rw [h6,htd]
       repeat' (first|refine uN ?_|refine Zu S ?_|refine uC (kfin2 _) ?_|refine Yb (fun _=>kfin2 _) ?_|refine Yc (fun _=>kfin2 _) ?_|refine Yd (fun _=>kfin2 _) ?_|refine Ye (fun _=>kfin2 _) ?_|(refine uB ?_;intro b)|(refine uP ?_ ?_<;>(intro h;((try simp only [zs,zq,reduceCtorEq] at h);try exact zx)))|refine da 101 ?_|fail)
       exact Z9 (L':=Wj G2 M2++L) Zrp ⟨rfl,G2,eS.trans eS2,hW2,rfl⟩
      | true =>
       rw [if_neg (by simp)] at htd
       have h1'':s<M2.n.length:=by rw [hRn];exact h1'
       have hl2:=hW2.ndl
       have hnp3:=Zwt eS2 h0 (by rw [hW1.ndl];exact h1')
       have hok2:=U5 hW2 h0 h1''
       have hni2:=Wu hM2 h0 h1''
       have ewp2:G2.wp=G.wp:=eS2.wp.trans ewp
       have hwlG2:G2.wl=M1.w.length:=by rw [hW2.wl,hRw2]
       have hm2:(Zf M2 s).leads[d]? = some ((Zf M2 s).leads.getD d none):=getD_some (by rw [hni2.leads];exact hd6)
       obtain ⟨q2,hq2⟩ : ∃ q2,(Yi G2 s).ld[d]? = some q2:=⟨_,List.getElem?_eq_getElem (by rw [hok2.ld];exact hd6)⟩
       obtain ⟨A,B,eA,eB⟩:=Zgv (aw:=G2.aw) (cw:=G2.cw) hm2 hq2
       have kb:=fun L=>Zak s d G2.aw G2.cw M1.w a L
       rw [show Zk9 a=4 from if_neg (by omega)] at kb
       have kst:=fun lp L=>Zf7 lp G2.aw G2.cw Ys [] (Zi s d M1.w a 4) L hwl
       have hNI:LdI M1.w s.toNat d (Zi s d M1.w a 4):=by
        have:=Zij (w:=M1.w) (s:=s.toNat) (d:=d) (a:=a) (k:=4) (by omega) (by omega)
        rw [show ((s.toNat:Nat):Int)=s by omega] at this
        exact this
       have hsl:=Zca (Zi s d M1.w a 4)
       have hslw:(Zi s d M1.w a 4).w=M1.w:=rfl
       rw [hslw] at hsl
       have hrel0:RelH (Zi s d M1.w a 4) []:=RelH.new hwl rfl rfl
       have ks:=fun lv lc (xs ys:List Fr) a7 cap7 L (hv:Z7 lv xs lc) hR hlen=>U6 { G2 with lv:=lv,lc:=lc } xs ys a7 cap7 L hv hR hlen
       have hsh:=fun G' M1 g' m' y1 y2 y3 y4 y5 y6=>Zsm (G:=G2) (G':=G') (M:=M2) (M1:=M1) (s:=s) (g':=g') (m':=m') (c::L) hl2 h0 h1'' y1 y2 y3 y4 y5 y6
       have hlvs:=Zsg (g:=Yi G2 s) hni2.leads hok2.ld
       have hRwB:Rd ic 1 L G2.aw M1.w:=by rw [eS2.aw,eS.aw,hsame.w];exact hRw
       have hokD:=fun lp hv' hc' (x:Ld) (hs:List Fr) (h1:Z7 hv' hs hc') (h2:RelH x hs)=>hok2.lead (d:=d) (q:=(lp,hv',hc')) h1 h2
       refine Q5 (L':=W1 G2 s (Yi G2 s) (Zf M2 s) (Vl G2.aw G2.cw G2.nd M2.n 0 s.toNat) (c::L)) ?_ (Zis hl2 h0 h1'' _)
       generalize Vl G2.aw G2.cw G2.nd M2.n 0 s.toNat=X at *
       generalize hmm:Zf M2 s=m at *
       generalize hgg:Yi G2 s=g at *
       have hgnp:g.np=(Yi G s).np:=hnp3.trans hnp2
       have eVs:=fun x q'=>Zkr (g:=g) (m:=m) (o':=some x) (q':=q') (g':={ g with ld:=g.ld.set d q' }) (m':={ m with leads:=m.leads.set d (some x) }) rfl rfl
       have eBs:=fun x q'=>eB (some x) q' { m with leads:=m.leads.set d (some x) } { g with ld:=g.ld.set d q' } rfl rfl
       simp only [Vt,ewp2,hwlG2] at ks
       refine Q5 (L':=[(G.wp,.cells ⟨[.slice G2.aw M1.w.length G2.cw,G2.nv,G2.bv,G2.lv,G2.ev]⟩ 47)]::G2.ec::[((Yi G s).np,.cells ⟨[Zd7 g m.site,pt g.rp 0,sl g.bl 0 6 6,sl g.bd 0 6 6]⟩ 58)]::[(g.bl,.cells ⟨U4 g m⟩ 83)]::Zks g m::Zlw g s m.site::Zlv g m.site::Wp g.rp m.pl g.left::A::B::G2.lc::G2.nc::G2.bc::X::c::L) ?_ ?_
       ·repeat' (first|refine uN ?_|refine Zu S ?_|refine uC (kfin2 _) ?_|refine Yb (fun _=>kfin2 _) ?_|refine Yc (fun _=>kfin2 _) ?_|refine Yd (fun _=>kfin2 _) ?_|refine Ye (fun _=>kfin2 _) ?_|(refine uB ?_;intro b)|(refine uP ?_ ?_<;>(intro h;((try simp only [zs,zq,reduceCtorEq] at h);try exact zx)))|refine da 101 ?_|fail)
        refine gc (kb _) ?_
        rintro v L' ⟨lp,rfl,rfl⟩
        have gP:=rl_put (g:=g) (m:=m) (d:=d) (pt lp 0) (by omega)
        repeat' (first|refine uN ?_|refine Zu S ?_|refine uC (kfin2 _) ?_|refine Yb (fun _=>kfin2 _) ?_|refine Yc (fun _=>kfin2 _) ?_|refine Yd (fun _=>kfin2 _) ?_|refine Ye (fun _=>kfin2 _) ?_|(refine uB ?_;intro b)|(refine uP ?_ ?_<;>(intro h;((try simp only [zs,zq,reduceCtorEq] at h);try exact zx)))|refine da 101 ?_|fail)
        refine gc (kst lp _) ?_
        rintro v L' ⟨c2,hv2,rfl⟩
        obtain ⟨a7,cap7,rfl,-,hR7⟩:=hv2.rd Zl
        repeat' (first|refine uN ?_|refine Zu S ?_|refine uC (kfin2 _) ?_|refine Yb (fun _=>kfin2 _) ?_|refine Yc (fun _=>kfin2 _) ?_|refine Yd (fun _=>kfin2 _) ?_|refine Ye (fun _=>kfin2 _) ?_|(refine uB ?_;intro b)|(refine uP ?_ ?_<;>(intro h;((try simp only [zs,zq,reduceCtorEq] at h);try exact zx)))|refine da 101 ?_|fail)
        refine fo 12 ?_
        refine fo 3 ?_
        refine gc (ks _ _ M2.l (Xk (Zi s d M1.w a 4)) _ _ _ hW2.l (hR7 _) (by rw [hRL];omega)) ?_
        rintro v L' ⟨lv3,lc3,hv3,rfl,rfl⟩
        repeat' (first|refine uN ?_|refine Zu S ?_|refine uC (kfin2 _) ?_|refine Yb (fun _=>kfin2 _) ?_|refine Yc (fun _=>kfin2 _) ?_|refine Yd (fun _=>kfin2 _) ?_|refine Ye (fun _=>kfin2 _) ?_|(refine uB ?_;intro b)|(refine uP ?_ ?_<;>(intro h;((try simp only [zs,zq,reduceCtorEq] at h);try exact zx)))|refine da 101 ?_|fail)
        have hho:=fun i=>Zdn (w:=M1.w) (s:=s.toNat) (d:=d) (by omega) hwl hd6 (told.take i) (Zi s d M1.w a 4) [] hNI (fun f hf=>hfo f (List.mem_of_mem_take hf)) (fun f hf=>by cases hf)
        change ∀ i,LdI M1.w s.toNat d (Z6 (Zi s d M1.w a 4) (told.take i)).1 ∧ ∀ f∈(Z6 (Zi s d M1.w a 4) (told.take i)).2,Zil M1.w.length f at hho
        refine W6 (L':=U3 lp G2.aw G2.cw Ys [] (Zi s d M1.w a 4)::[(G.wp,.cells ⟨[.slice G2.aw M1.w.length G2.cw,G2.nv,G2.bv,lv3,G2.ev]⟩ 47)]::lc3::G2.ec::[((Yi G s).np,.cells ⟨[Zd7 g m.site,pt g.rp 0,sl g.bl 0 6 6,sl g.bd 0 6 6]⟩ 58)]::[(g.bl,.cells ⟨(U4 g m).set d (pt lp 0)⟩ 83)]::Zks g m::Zlw g s m.site::Zlv g m.site::Wp g.rp m.pl g.left::A::B::G2.nc::G2.bc::X::c::L) ?_ uL
        refine Zp (σ:=Nat × Value × List Zr × Value × List Zr) (fun r=>[(0,pt G.wp 0),(1,iv s),(6,pt (Yi G s).np 0),(7,iv d),(12,.slice af told.length capf),(14,pt lp 0),(15,iv r.1)])
         (fun r=>U3 lp G2.aw G2.cw r.2.2.2.1 r.2.2.2.2 (Z6 (Zi s d M1.w a 4) (told.take r.1)).1::[(G.wp,.cells ⟨[.slice G2.aw M1.w.length G2.cw,G2.nv,G2.bv,r.2.1,G2.ev]⟩ 47)]::r.2.2.1::G2.ec::[((Yi G s).np,.cells ⟨[Zd7 g m.site,pt g.rp 0,sl g.bl 0 6 6,sl g.bd 0 6 6]⟩ 58)]::[(g.bl,.cells ⟨(U4 g m).set d (pt lp 0)⟩ 83)]::Zks g m::Zlw g s m.site::Zlv g m.site::Wp g.rp m.pl g.left::A::B::G2.nc::G2.bc::X::c::L)
         (fun r=>r.1≤told.length∧(Z6 (Zi s d M1.w a 4) (told.take r.1)).2.length≤7*r.1∧Z7 r.2.1 (M2.l++Xk (Zi s d M1.w a 4)++(Z6 (Zi s d M1.w a 4) (told.take r.1)).2) r.2.2.1 ∧ ∃ hs,Z7 r.2.2.2.1 hs r.2.2.2.2∧RelH (Z6 (Zi s d M1.w a 4) (told.take r.1)).1 hs) (fun r=>told.length-r.1) (0,lv3,lc3,Ys,[]) uS (List.Sublist.refl _)
         ⟨by simp,by simp [Z6],by simp only [List.take_zero,Z6,List.foldl_nil,List.append_nil];exact hv3,[],Zv,hrel0⟩ ?_
        rintro ⟨i,lv4,lc4,hv4,hc4⟩ ⟨hi,hlen4,hvl4,hs4,hH4,hrel4⟩
        simp only at hi hlen4 hvl4 hH4 hrel4 ⊢
        obtain ⟨hI4,hF4⟩:=hho i
        have hlast:i=told.length→Z6 (Zi s d M1.w a 4) (told.take i)=Z6 (Zi s d M1.w a 4) told:=fun e=>by rw [e,List.take_length]
        have hsucc:=fun h=>Zhe (Zi s d M1.w a 4) told i h
        by_cases hit:i<told.length
        ·specialize hsucc hit
         have hl3:=Zba (Z6 (Zi s d M1.w a 4) (told.take i)).1 told[i]
         rw [hI4.ww] at hl3
         have hck:Ym (Z6 (Zi s d M1.w a 4) (told.take i)).1.w=none:=by rw [hI4.ww];exact hM1.w0
         have hRx:Rd ic 1 L G2.aw (Z6 (Zi s d M1.w a 4) (told.take i)).1.w:=by rw [hI4.ww];exact hRwB
         have hrel5:=hrel4.hear told[i]
         have kh:=fun L hR=>Zho lp G2.aw G2.cw hv4 hc4 (Z6 (Zi s d M1.w a 4) (told.take i)).1 hs4 told[i] L hR hck hH4 hrel4
         obtain ⟨b5,i5,l5,F5,fr5,e6,hb5,hg5⟩:=(hRf L).at (j:=(i:Int)) (by omega) (by omega)
         subst e6
         have hgi:told[(i:Int).toNat]'(by omega)=told[i]:=rfl
         rw [hgi] at hg5
         clear hlast hI4 hF4 hho
         generalize Z6 (Zi s d M1.w a 4) (told.take i)=Q at *
         obtain ⟨x3,fs3⟩:=Q
         simp only at hlen4 hvl4 hH4 hrel4 hl3 hck hRx hrel5 kh hsucc ⊢
         generalize told[i]=f at *
         obtain ⟨ffr,fto,fdl,fkd,fatt,fys,fs⟩:=f
         repeat' (first|refine uN ?_|refine Zu S ?_|refine uC (kfin2 _) ?_|refine Yb (fun _=>kfin2 _) ?_|refine Yc (fun _=>kfin2 _) ?_|refine Yd (fun _=>kfin2 _) ?_|refine Ye (fun _=>kfin2 _) ?_|(refine uB ?_;intro b)|(refine uP ?_ ?_<;>(intro h;((try simp only [zs,zq,reduceCtorEq] at h);try exact zx)))|refine da 101 ?_|fail)
         refine gc (kh _ (Rd.up hRx [_,_,_,_,_,_,_,_,_,_,_,_,_,_,_])) ?_
         rintro v L' ⟨c4,hv5,hc5,hv6,hH5,rfl⟩
         obtain ⟨a9,cap9,rfl,-,hR9⟩:=hv6.rd Zl
         repeat' (first|refine uN ?_|refine Zu S ?_|refine uC (kfin2 _) ?_|refine Yb (fun _=>kfin2 _) ?_|refine Yc (fun _=>kfin2 _) ?_|refine Yd (fun _=>kfin2 _) ?_|refine Ye (fun _=>kfin2 _) ?_|(refine uB ?_;intro b)|(refine uP ?_ ?_<;>(intro h;((try simp only [zs,zq,reduceCtorEq] at h);try exact zx)))|refine da 101 ?_|fail)
         refine fo 3 ?_
         refine fo 3 ?_
         refine gc (ks _ _ _ (Zw x3 ⟨ffr,fto,fdl,fkd,fatt,fys,fs⟩).2 _ _ _ hvl4 (hR9 _) (by simp only [List.length_append,hRL];omega)) ?_
         rintro v L' ⟨lv7,lc7,hv7,rfl,rfl⟩
         repeat' (first|refine uN ?_|refine Zu S ?_|refine uC (kfin2 _) ?_|refine Yb (fun _=>kfin2 _) ?_|refine Yc (fun _=>kfin2 _) ?_|refine Yd (fun _=>kfin2 _) ?_|refine Ye (fun _=>kfin2 _) ?_|(refine uB ?_;intro b)|(refine uP ?_ ?_<;>(intro h;((try simp only [zs,zq,reduceCtorEq] at h);try exact zx)))|refine da 101 ?_|fail)
         refine Zg (i+1,lv7,lc7,hv5,hc5) uS ?_ ⟨by simp only;omega,?_,?_,Qd x3 hs4 ⟨ffr,fto,fdl,fkd,fatt,fys,fs⟩,hH5,?_⟩ (by simp only;omega)
         ·simp only [hsucc]
          exact uL
         ·simp only [hsucc,List.length_append]
          omega
         ·simp only [hsucc]
          rw [← List.append_assoc]
          exact hv7
         ·simp only [hsucc]
          exact hrel5
        ·obtain rfl:i=told.length:=by omega
         rw [hlast rfl] at hvl4 hrel4 ⊢
         repeat' (first|refine uN ?_|refine Zu S ?_|refine uC (kfin2 _) ?_|refine Yb (fun _=>kfin2 _) ?_|refine Yc (fun _=>kfin2 _) ?_|refine Yd (fun _=>kfin2 _) ?_|refine Ye (fun _=>kfin2 _) ?_|(refine uB ?_;intro b)|(refine uP ?_ ?_<;>(intro h;((try simp only [zs,zq,reduceCtorEq] at h);try exact zx)))|refine da 101 ?_|fail)
         obtain ⟨L9,hP,hLS⟩:=hsh { G2 with lv:=lv4,lc:=lc4 } { M2 with l:=M2.l++Xk (Zi s d M1.w a 4)++(Z6 (Zi s d M1.w a 4) told).2 } { g with ld:=g.ld.set d (lp,hv4,hc4) } { m with leads:=m.leads.set d (some (Z6 (Zi s d M1.w a 4) told).1) } (hW2.setL hvl4) rfl rfl Zkx (hokD lp hv4 hc4 _ hs4 hH4 hrel4) rfl
         obtain ⟨G3,eS3,hW3,rfl⟩:=hP
         simp only [Int.toNat_natCast] at htd
         refine Zg (d+1,G3) uS ?_ ⟨by simp only;omega,by simp only [htd],by simp only [htd];exact hW3,(eS.trans eS2).trans eS3⟩ (by simp only;omega)
         simp only [htd]
         refine LS.trans Zrp (LS.trans hLS ?_)
         rw [← hgnp]
         simp only [W1,Zd6,Zbg,Zhr,Vt,ewp2,hwlG2]
         rw [eBs _ (lp,hv4,hc4),eVs _ (lp,hv4,hc4)]
         exact LS.trans ls8 uL
       ·simp only [W1,Zd6,Zbg,Zhr,Vt,ewp2,hwlG2,hgnp]
        rw [eA]
        exact ls8n
    ·have hst2 : ¬ (ab'+1+jj) % M1.w.length=s:=fun h=>hlt (hst.1 h)
     repeat' (first|refine uN ?_|refine Zu S ?_|refine uC (kfin2 _) ?_|refine Yb (fun _=>kfin2 _) ?_|refine Yc (fun _=>kfin2 _) ?_|refine Yd (fun _=>kfin2 _) ?_|refine Ye (fun _=>kfin2 _) ?_|(refine uB ?_;intro b)|(refine uP ?_ ?_<;>(intro h;((try simp only [zs,zq,reduceCtorEq] at h);try exact zx)))|refine da 101 ?_|fail)
     refine Zg (ab'+1+(jj:Int)+1) uS (LS.refl _) ⟨jj+1,by push_cast;omega,by push_cast;omega⟩ (by omega)
  ·obtain rfl:d=6:=by omega
   repeat' (first|refine uN ?_|refine Z2 S ?_|(refine uB ?_;intro b)|(refine uP ?_ ?_<;>(intro h;((try simp only [zs,zq,reduceCtorEq] at h);try exact zx)))|fail)
   exact Z9 (LS.refl _) ⟨rfl,G1,eS,hW1,rfl⟩
end Go.HL
end

/-! MwK -/
section
namespace Go.HL
open Go Go.Proofs
section c
variable {P:Program} {n:Nat} {ops:List Oper} {Q:Exit→Z5→Zb→Prop} {ρ:Z5} {L:Zb}
theorem hd_three {Ss:List (Nat × Zr)} {rem r1 r2 r3:List (Nat × Oper)} {i j k:Nat} {o p q:Oper} (h1:HO P n ops (Zz P n ops Q i Ss r1) [o] ρ L) (h2:HO P n ops (Zz P n ops Q j Ss r2) [p] ρ L) (h3:HO P n ops (Zz P n ops Q k Ss r3) [q] ρ L) (hn:Zrx ops rem=[((i,o),r1),((j,p),r2),((k,q),r3)]:=by exact rfl):HD P n ops Q Ss rem ρ L:=by
 refine hd_all (by rw [hn];simp) fun x hx=>?_
 rw [hn] at hx
 rcases List.mem_cons.1 hx with rfl|hx
 ·exact h1
 ·rcases List.mem_cons.1 hx with rfl|hx
  ·exact h2
  ·rcases List.mem_cons.1 hx with rfl|hx
   ·exact h3
   ·cases hx
end c
theorem Zsi {aw:Option Addr} {cw:Nat} {g:NrG} {m:Nd} : ∀ {gs:List NrG} {ms:List Nd} {i:Nat},gs.length=ms.length→Zal aw cw (gs++[g]) (ms++[m]) i=Zal aw cw gs ms i++Zgk aw cw g ((i+gs.length:Nat):Int) m
 | [],[],i,_=>by simp [Zal]
 | g0::gs,m0::ms,i,h=>by
  have ih:=Zsi (aw:=aw) (cw:=cw) (g:=g) (m:=m) (gs:=gs) (ms:=ms) (i:=i+1) (by simpa using h)
  simp only [List.cons_append,Zal,ih,List.append_assoc,List.length_cons]
  rw [show i+1+gs.length=i+(gs.length+1) by omega]
 | [],_::_,_,h=>by simp at h
 | _::_,[],_,h=>by simp at h
theorem bytes512:List.replicate (Int.toNat 512) (Value.int .u8 0)=(Yk 512).map u8:=(Zk6 512).symm
theorem Zw3 (b:Nat):Wp b ⟨Yk 512,false,-1⟩ 0=[(b,.cells ⟨[bs (Yk 512),.bool false,iv 0,.bool false]⟩ 51)]:=rfl
theorem Zgj:(Yk 512).length=512:=Znp 512
def ld6:List (Nat × Value × List Zr):=List.replicate 6 (0,Ys,[])
theorem Zgq {x y n a b c d e f:List Zr} {L:Zb}:LS (x::y::(n++(a++(b++(c++(d++(e++(f++[])))))))::L).flatten (x::y::n::a::b::c::d::e::f::L).flatten:=LS.of_eq (by simp only [List.flatten_cons,List.append_assoc,List.append_nil,List.nil_append])
theorem nrOk_new {np rp rs bR bA bB:Nat} {r:RJ} (hr:r.rp=rp):NrOk ⟨np,rp,0,rs,bR,r,bA,bB,ld6⟩ newNd:=by
 refine ⟨rfl,hr,fun h=>absurd rfl h,fun d x hx=>?_⟩
 simp only [newNd,noLeads,List.getElem?_replicate] at hx
 split at hx<;>cases hx
set_option maxHeartbeats 2000000 attribute [local irreducible] HW HO HQ HD HC QOp Has Upd Zt Gets Z8 Z0 Zo Xm Zz Zj Xp Zy
attribute [local irreducible] Zn Zs Q2 Ze3 Yk
theorem Zh7 (w:List Int) (aw:Option Addr) (cw:Nat) (L:Zb) (hw:w.length≤7) :
  HC Tryz.prog 7 [.slice aw w.length cw] L (fun v L' => ∃ G,v=pt G.wp 0∧G.aw=aw∧G.cw=cw∧RwOk G (Ve w)∧L'=Wj G (Ve w)++L):=by
 refine Za (fun _ _=>Tryz.call7 _ _) Tryz.func7 rfl Tryz.ntmps7 (Nat.le_of_ble_eq_true rfl) ?_;simp only [Zd,Nat.reduceAdd]
 repeat' (first|refine uN ?_|refine Zu S ?_|(refine uB ?_;intro b)|(refine uP ?_ ?_<;>(intro h;((try simp only [zs,zq,reduceCtorEq] at h);try exact zx)))|refine da 101 ?_|fail)
 generalize b=wp
 refine W6 (L':=[]::[(wp,.cells ⟨[.slice aw w.length cw,Ys,Ys,Ys,Ys]⟩ 47)]::[]::L) ?_ uL
 refine Zp (σ:=Nat × Value × List Zr × List NrG) (fun r=>[(0,.slice aw w.length cw),(3,pt wp 0),(4,iv r.1)])
  (fun r=>r.2.2.1::[(wp,.cells ⟨[.slice aw w.length cw,r.2.1,Ys,Ys,Ys]⟩ 47)]::Zal aw cw r.2.2.2 (List.replicate r.1 newNd) 0::L)
  (fun r=>r.1≤w.length∧r.2.2.2.length=r.1∧Vec 52 1 pc r.2.1 (r.2.2.2.map (·.np)) r.2.2.1 ∧ ∀ g∈r.2.2.2,NrOk g newNd) (fun r=>w.length-r.1) (0,Ys,[],[]) uS (List.Sublist.refl _) ⟨by simp,rfl,Zv,by simp⟩ ?_
 rintro ⟨i,nv,nc,nd⟩ ⟨hi,hnl,hnv,hok⟩
 simp only at hi hnl hnv hok ⊢
 by_cases hlt:i<w.length
 ·obtain ⟨an,capn,he,-,-⟩:=hnv.rd Wz
  subst he
  have kn:=fun rp L=>Zdb i rp ⟨Yk 512,false,-1⟩ 0 L (by simp only [Zgj];omega) (by simp only [Zgj];omega)
  simp only [Zw3] at kn
  have hz5:=Zgj
  repeat' (first|refine uN ?_|refine Zu S ?_|(refine uB ?_;intro b)|(refine uP ?_ ?_<;>(intro h;((try simp only [zs,zq,reduceCtorEq] at h);try exact zx)))|refine da 101 ?_|fail)
  rw [bytes512]
  refine Wq (qtx S (Zkl _ _ _ _) ?_) ?_
  ·exact Zgj
  generalize b=bytes
  repeat' (first|refine uN ?_|refine Zu S ?_|(refine uB ?_;intro b)|(refine uP ?_ ?_<;>(intro h;((try simp only [zs,zq,reduceCtorEq] at h);try exact zx)))|refine da 101 ?_|fail)
  generalize b=rp
  have eN : ∀ np rs bR (r:RJ) bA bB,Zal aw cw (nd++[⟨np,rp,0,rs,bR,r,bA,bB,ld6⟩]) (List.replicate (i+1) newNd) 0=Zal aw cw nd (List.replicate i newNd) 0++([(np,.cells ⟨[pt rs 0,pt rp 0,sl bA 0 6 6,sl bB 0 6 6]⟩ 58)]++([(bA,.cells ⟨Zyt⟩ 83)]++([(bB,.cells ⟨List.replicate 6 (.bool false)⟩ 4)]++(Ze3 rs r.rj bR i (fun _=>false)++(Q2 r ⟨Zn (Yk 512),false⟩++([(rp,.cells ⟨[bs (Yk 512),.bool false,iv 0,.bool false]⟩ 51)]++[])))))):=fun np rs bR r bA bB=>by
   rw [List.replicate_succ',Zsi (by simp [hnl]),hnl,Nat.zero_add,← Zw3]
   rfl
  have hokN : ∀ np rs bR (r:RJ) bA bB,r.rp=rp → ∀ g∈nd++[(⟨np,rp,0,rs,bR,r,bA,bB,ld6⟩:NrG)],NrOk g newNd:=fun np rs bR r bA bB hr g hg=>by
   rcases List.mem_append.1 hg with h|h
   ·exact hok g h
   ·rw [List.mem_singleton.1 h]
    exact nrOk_new hr
  refine hd_three ?_ ?_ ?_
  ·refine gc (kn _ _) ?_
   rintro v L' ⟨rs,bR,r,rfl,hr,rfl⟩
   repeat' (first|refine uN ?_|refine Zu S ?_|(refine uB ?_;intro b)|(refine uP ?_ ?_<;>(intro h;((try simp only [zs,zq,reduceCtorEq] at h);try exact zx)))|refine da 101 ?_|fail)
   refine Zbx ?_ ?_
   ·repeat' (first|refine uN ?_|refine Zu S ?_|(refine uB ?_;intro b)|(refine uP ?_ ?_<;>(intro h;((try simp only [zs,zq,reduceCtorEq] at h);try exact zx)))|refine da 101 ?_|fail)
    rename_i bA bB np
    refine fo 8 ?_
    refine Zce S np hnv Wz Zez ?_ (hby:=by simp only [List.length_map];omega) (hmax:=by simp only [List.length_map];omega)
    intro v' c' hv'
    obtain ⟨a6,cap6,rfl,-,-⟩:=hv'.rd Wz
    repeat' (first|refine uN ?_|refine Zu S ?_|(refine uB ?_;intro b)|(refine uP ?_ ?_<;>(intro h;((try simp only [zs,zq,reduceCtorEq] at h);try exact zx)))|refine da 101 ?_|fail)
    refine Zg (i+1,_,c',nd++[⟨np,rp,0,rs,bR,r,bA,bB,ld6⟩]) uS ?_ ⟨by simp only;omega,by simp [hnl],by simp only [List.map_append,List.map_cons,List.map_nil];exact hv',hokN _ _ _ _ _ _ hr⟩ (by simp only;omega)
    simp only [eN]
    exact LS.trans Zgq uL
   ·repeat' (first|refine uN ?_|refine Zu S ?_|(refine uB ?_;intro b)|(refine uP ?_ ?_<;>(intro h;((try simp only [zs,zq,reduceCtorEq] at h);try exact zx)))|refine da 101 ?_|fail)
    rename_i bB bA np
    refine fo 8 ?_
    refine Zce S np hnv Wz Zez ?_ (hby:=by simp only [List.length_map];omega) (hmax:=by simp only [List.length_map];omega)
    intro v' c' hv'
    obtain ⟨a6,cap6,rfl,-,-⟩:=hv'.rd Wz
    repeat' (first|refine uN ?_|refine Zu S ?_|(refine uB ?_;intro b)|(refine uP ?_ ?_<;>(intro h;((try simp only [zs,zq,reduceCtorEq] at h);try exact zx)))|refine da 101 ?_|fail)
    refine Zg (i+1,_,c',nd++[⟨np,rp,0,rs,bR,r,bA,bB,ld6⟩]) uS ?_ ⟨by simp only;omega,by simp [hnl],by simp only [List.map_append,List.map_cons,List.map_nil];exact hv',hokN _ _ _ _ _ _ hr⟩ (by simp only;omega)
    simp only [eN]
    exact LS.trans Zgq uL
  ·repeat' (first|refine uN ?_|refine Zu S ?_|(refine uB ?_;intro b)|(refine uP ?_ ?_<;>(intro h;((try simp only [zs,zq,reduceCtorEq] at h);try exact zx)))|refine da 101 ?_|fail)
   refine Zbx ?_ ?_
   ·refine fo 1 ?_
    refine gc (kn _ _) ?_
    rintro v L' ⟨rs,bR,r,rfl,hr,rfl⟩
    repeat' (first|refine uN ?_|refine Zu S ?_|(refine uB ?_;intro b)|(refine uP ?_ ?_<;>(intro h;((try simp only [zs,zq,reduceCtorEq] at h);try exact zx)))|refine da 101 ?_|fail)
    rename_i bA bB np
    refine fo 8 ?_
    refine Zce S np hnv Wz Zez ?_ (hby:=by simp only [List.length_map];omega) (hmax:=by simp only [List.length_map];omega)
    intro v' c' hv'
    obtain ⟨a6,cap6,rfl,-,-⟩:=hv'.rd Wz
    repeat' (first|refine uN ?_|refine Zu S ?_|(refine uB ?_;intro b)|(refine uP ?_ ?_<;>(intro h;((try simp only [zs,zq,reduceCtorEq] at h);try exact zx)))|refine da 101 ?_|fail)
    refine Zg (i+1,_,c',nd++[⟨np,rp,0,rs,bR,r,bA,bB,ld6⟩]) uS ?_ ⟨by simp only;omega,by simp [hnl],by simp only [List.map_append,List.map_cons,List.map_nil];exact hv',hokN _ _ _ _ _ _ hr⟩ (by simp only;omega)
    simp only [eN]
    exact LS.trans Zgq uL
   ·repeat' (first|refine uN ?_|refine Zu S ?_|(refine uB ?_;intro b)|(refine uP ?_ ?_<;>(intro h;((try simp only [zs,zq,reduceCtorEq] at h);try exact zx)))|refine da 101 ?_|fail)
    refine fo 2 ?_
    refine gc (kn _ _) ?_
    rintro v L' ⟨rs,bR,r,rfl,hr,rfl⟩
    repeat' (first|refine uN ?_|refine Zu S ?_|(refine uB ?_;intro b)|(refine uP ?_ ?_<;>(intro h;((try simp only [zs,zq,reduceCtorEq] at h);try exact zx)))|refine da 101 ?_|fail)
    rename_i bA bB np
    refine fo 8 ?_
    refine Zce S np hnv Wz Zez ?_ (hby:=by simp only [List.length_map];omega) (hmax:=by simp only [List.length_map];omega)
    intro v' c' hv'
    obtain ⟨a6,cap6,rfl,-,-⟩:=hv'.rd Wz
    repeat' (first|refine uN ?_|refine Zu S ?_|(refine uB ?_;intro b)|(refine uP ?_ ?_<;>(intro h;((try simp only [zs,zq,reduceCtorEq] at h);try exact zx)))|refine da 101 ?_|fail)
    refine Zg (i+1,_,c',nd++[⟨np,rp,0,rs,bR,r,bA,bB,ld6⟩]) uS ?_ ⟨by simp only;omega,by simp [hnl],by simp only [List.map_append,List.map_cons,List.map_nil];exact hv',hokN _ _ _ _ _ _ hr⟩ (by simp only;omega)
    simp only [eN]
    exact LS.trans Zgq uL
  ·repeat' (first|refine uN ?_|refine Zu S ?_|(refine uB ?_;intro b)|(refine uP ?_ ?_<;>(intro h;((try simp only [zs,zq,reduceCtorEq] at h);try exact zx)))|refine da 101 ?_|fail)
   refine Zbx ?_ ?_
   ·refine fo 1 ?_
    refine gc (kn _ _) ?_
    rintro v L' ⟨rs,bR,r,rfl,hr,rfl⟩
    repeat' (first|refine uN ?_|refine Zu S ?_|(refine uB ?_;intro b)|(refine uP ?_ ?_<;>(intro h;((try simp only [zs,zq,reduceCtorEq] at h);try exact zx)))|refine da 101 ?_|fail)
    rename_i bB bA np
    refine fo 8 ?_
    refine Zce S np hnv Wz Zez ?_ (hby:=by simp only [List.length_map];omega) (hmax:=by simp only [List.length_map];omega)
    intro v' c' hv'
    obtain ⟨a6,cap6,rfl,-,-⟩:=hv'.rd Wz
    repeat' (first|refine uN ?_|refine Zu S ?_|(refine uB ?_;intro b)|(refine uP ?_ ?_<;>(intro h;((try simp only [zs,zq,reduceCtorEq] at h);try exact zx)))|refine da 101 ?_|fail)
    refine Zg (i+1,_,c',nd++[⟨np,rp,0,rs,bR,r,bA,bB,ld6⟩]) uS ?_ ⟨by simp only;omega,by simp [hnl],by simp only [List.map_append,List.map_cons,List.map_nil];exact hv',hokN _ _ _ _ _ _ hr⟩ (by simp only;omega)
    simp only [eN]
    exact LS.trans Zgq uL
   ·repeat' (first|refine uN ?_|refine Zu S ?_|(refine uB ?_;intro b)|(refine uP ?_ ?_<;>(intro h;((try simp only [zs,zq,reduceCtorEq] at h);try exact zx)))|refine da 101 ?_|fail)
    refine fo 2 ?_
    refine gc (kn _ _) ?_
    rintro v L' ⟨rs,bR,r,rfl,hr,rfl⟩
    repeat' (first|refine uN ?_|refine Zu S ?_|(refine uB ?_;intro b)|(refine uP ?_ ?_<;>(intro h;((try simp only [zs,zq,reduceCtorEq] at h);try exact zx)))|refine da 101 ?_|fail)
    rename_i bB bA np
    refine fo 8 ?_
    refine Zce S np hnv Wz Zez ?_ (hby:=by simp only [List.length_map];omega) (hmax:=by simp only [List.length_map];omega)
    intro v' c' hv'
    obtain ⟨a6,cap6,rfl,-,-⟩:=hv'.rd Wz
    repeat' (first|refine uN ?_|refine Zu S ?_|(refine uB ?_;intro b)|(refine uP ?_ ?_<;>(intro h;((try simp only [zs,zq,reduceCtorEq] at h);try exact zx)))|refine da 101 ?_|fail)
    refine Zg (i+1,_,c',nd++[⟨np,rp,0,rs,bR,r,bA,bB,ld6⟩]) uS ?_ ⟨by simp only;omega,by simp [hnl],by simp only [List.map_append,List.map_cons,List.map_nil];exact hv',hokN _ _ _ _ _ _ hr⟩ (by simp only;omega)
    simp only [eN]
    exact LS.trans Zgq uL
 ·obtain rfl:i=w.length:=by omega
  repeat' (first|refine uN ?_|refine Zu S ?_|(refine uB ?_;intro b)|(refine uP ?_ ?_<;>(intro h;((try simp only [zs,zq,reduceCtorEq] at h);try exact zx)))|refine da 101 ?_|fail)
  refine Z9 (L':=Wj ⟨wp,aw,cw,w.length,nv,nc,Ys,[],[],Ys,[],Ys,[],nd⟩ (Ve w)++L) ?_ ⟨⟨wp,aw,cw,w.length,nv,nc,Ys,[],[],Ys,[],Ys,[],nd⟩,rfl,rfl,rfl,⟨rfl,hnv,by simp [Ve,hnl],Zv,(fun a b=>by simp [Ve]),List.nodup_nil,(fun p hp=>by cases hp),Zv,Zv,fun s g m hg hm=>?_⟩,rfl⟩
  ·simp only [Wj,Zei,Vt,List.cons_append,List.nil_append,Ve]
   exact uL
  ·have:m=newNd:=by
    simp only [Ve,List.getElem?_replicate] at hm
    split at hm
    ·cases hm;rfl
    ·cases hm
   rw [this]
   exact hok g (List.mem_of_getElem? hg)
end Go.HL
end

/-! PwG -/
section
namespace Go.HL
open Go Go.Proofs
set_option maxHeartbeats 2000000 attribute [local irreducible] HW HO HQ HD HC QOp Has Upd Zt Gets Z8 Z0 Zo Xm Zz Zj Xp Zy
attribute [local irreducible] runW Ve
end Go.HL
end

/-! SfI -/
section
namespace Go.HL
open Go Go.Proofs
structure StpS where
 kd:List UInt8
 s:Int
 d:Int
 n:Int
def Zxh (M:Wm) (x:StpS):Wm × Option Nat:=
 if x.kd=[98,101,103,105,110] then Wv M x.s x.d else
 if x.kd=[114,101,102,117,115,101] then Wo M x.s x.d else
 if x.kd=[116,105,99,107] then Uc M x.s else
 if x.kd=[100,111,119,110] then Qo M x.s else
 if x.kd=[117,112] then Zpo M x.s else
 if x.kd=[100,114,111,112] then Qp M x.n else
 if x.kd=[116,119,105,99,101] then Vw M x.n else
 if x.kd=[108,105,110,107] then V8 M x.s x.d true else
 if x.kd=[98,114,101,97,107] then V8 M x.s x.d false else
 if x.kd=[99,117,116] then Zct M x.s x.n else Ya M x.n
def RiseW (M M':Wm):Prop := ∀ s d:Nat,s<M.w.length→d<6→Zpj (Xf (Zf M (s:Int)).pl d) (Xf (Zf M' (s:Int)).pl d)
theorem Zun {a b c:Int} (h:Zum a b=true) (h':Zum b c=true):Zum a c=true:=by
 unfold Zum at *
 have h1:=of_decide_eq_true h
 have h2:=of_decide_eq_true h'
 exact decide_eq_true (by omega)
theorem Zvj {a b c:St} (h:Zpj a b) (h':Zpj b c):Zpj a c:=⟨Int.le_trans h.1 h'.1,Int.le_trans h.2.1 h'.2.1,Zun h.2.2 h'.2.2⟩
theorem st_ok {M:Wm} (h:WI M) {s d:Nat} (hs:s<M.w.length) (hd:d<6):Zgy (Xf (Zf M (s:Int)).pl d):=by
 have:=(h.at (s:=(s:Int)) (by omega) (by rw [h.wn];omega)).si.st d hd
 exact this
theorem RiseW.same {M M':Wm} (h:WI M) (hst : ∀ s d:Nat,Xf (Zf M' (s:Int)).pl d=Xf (Zf M (s:Int)).pl d):RiseW M M':=fun s d hs hd=>by
 rw [hst]
 exact Ut (st_ok h hs hd)
theorem RiseW.trans {A B C:Wm} (hw:B.w.length=A.w.length) (h:RiseW A B) (h':RiseW B C):RiseW A C:=fun s d hs hd=>Zvj (h s d hs hd) (h' s d (by omega) hd)
theorem RiseW.left {M M1 M':Wm} (h:RiseW M1 M') (hw:M1.w=M.w) (hst : ∀ s d:Nat,Xf (Zf M1 (s:Int)).pl d=Xf (Zf M (s:Int)).pl d):RiseW M M':=fun s d hs hd=>by
 rw [← hst]
 exact h s d (by rw [hw];exact hs) hd
def stsW (M:Wm) (d:Nat):List St:=(List.range M.w.length).map fun (s:Nat)=>Xf (Zf M (s:Int)).pl d
end Go.HL
end

/-! PwH -/
section
namespace Go.HL
open Go Go.Proofs
section ee
variable {P:Program} {Qv:Value→Zb→Prop} {ρ:Z5} {L:Zb} {fn:Func}
end ee
set_option maxHeartbeats 2000000 attribute [local irreducible] HW HO HQ HD HC QOp Has Upd Zt Gets Z8 Z0 Zo Xm Zz Zj Xp Zy
attribute [local irreducible] Vh Yr Xl Zs X3 Zn Zbl Uc Wv Ya Zpo
end Go.HL
end

/-! PwI -/
section
namespace Go.HL
open Go Go.Proofs
def actsW (M:Wm) (l:List StpS):Wm:=l.foldl (fun M x=>(Zxh M x).1) M
def WasI (w:Nat) (vals:List Int) (M:Wm):Prop:=vals.length=6*w ∧ ∀ d s:Nat,d<6→s<w → ∃ x,vals[d*w+s]? = some x∧Zum x (Xf (Zf M (s:Int)).pl d).ph=true
theorem idx_lt {d s w:Nat} (hd:d<6) (hs:s<w):d*w+s<6*w:=by
 have:d*w≤5*w:=Nat.mul_le_mul_right w (by omega)
 omega
theorem idx_inj {d s e t w:Nat} (hs:s<w) (ht:t<w) (h:d*w+s=e*w+t):d=e∧s=t:=by
 rcases Nat.lt_trichotomy d e with hlt|hlt|hlt
 ·have:(d+1)*w≤e*w:=Nat.mul_le_mul_right w hlt
  rw [Nat.add_mul,Nat.one_mul] at this
  omega
 ·subst hlt;exact ⟨rfl,by omega⟩
 ·have:(e+1)*w≤d*w:=Nat.mul_le_mul_right w hlt
  rw [Nat.add_mul,Nat.one_mul] at this
  omega
theorem WasI.set {w:Nat} {vals:List Int} {M:Wm} (h:WasI w vals M) (hM:WI M) (hw:M.w.length=w) {d s:Nat} (hd:d<6) (hs:s<w):WasI w (vals.set (d*w+s) (Xf (Zf M (s:Int)).pl d).ph) M:=by
 refine ⟨by rw [List.length_set];exact h.1,fun e t he ht=>?_⟩
 rw [List.getElem?_set]
 by_cases hh:d*w+s=e*w+t
 ·obtain ⟨rfl,rfl⟩:=idx_inj hs ht hh
  rw [if_pos rfl,if_pos (by rw [h.1];exact idx_lt hd hs)]
  exact ⟨_,rfl,(Ut (st_ok hM (by omega) hd)).2.2⟩
 ·rw [if_neg hh]
  exact h.2 e t he ht
theorem WasI.new {w:List Int} (hc:Ym w=none):WasI w.length (List.replicate (6*w.length) 0) (Ve w):=by
 refine ⟨by simp,fun d s hd hs=>⟨0,?_,?_⟩⟩
 ·rw [List.getElem?_replicate,if_pos (idx_lt hd hs)]
 ·have:=st_ok (Zuo hc) (s:=s) (d:=d) hs hd
  obtain ⟨g1,g2,-⟩:=this
  unfold Zum
  exact decide_eq_true (by omega)
end Go.HL
end

/-! HLFi -/
section
namespace Go.HL
open Go
section fi
variable {P:Program} (S:Tab P) {ρ:Z5} {L:Zb} {d:Option Tmp} {ty:TypeId} {pos:String} {af:Array Edge} {g:Option (Nat × Bool)}
end fi
end Go.HL
end

/-! PwJ -/
section
namespace Go.HL
open Go Go.Proofs
set_option maxHeartbeats 2000000 attribute [local irreducible] HW HO HQ HD HC QOp Has Upd Zt Gets Z8 Z0 Zo Xm Zz Zj Xp Zy
attribute [local irreducible] Ve actsW Zxh stsW Wa
end Go.HL
end

/-! MwL -/
section
namespace Go.HL
open Go Go.Proofs
def Q3 (G:RwG) (M:Wm):List Zr:=(Wj G M).flatten
theorem Zpf (G:RwG) (M:Wm) (L:Zb):(Q3 G M::L).flatten=(Wj G M++L).flatten:=by
 unfold Q3
 rw [List.flatten_cons,List.flatten_append]
def RwQ (G:RwG) (M':Wm) (L L':Zb):Prop := ∃ G',RwS G G'∧RwOk G' M'∧L'=Q3 G' M'::L
theorem HC.shutD {F:Nat} {args:List Value} {G:RwG} {M M':Wm} {L:Zb} {V:Value→Prop} (h:HC Tryz.prog F args (Wj G M++L) (fun v L'=>V v∧Zlh G M' L L')):HC Tryz.prog F args (Q3 G M::L) (fun v L'=>V v∧RwQ G M' L L'):=by
 refine HC.post (HC.fl h (Zpf G M L).symm) ?_
 rintro v L' ⟨hv,G',e1,e3,rfl⟩
 exact ⟨Q3 G' M'::L,LS.of_eq (Zpf G' M' L),hv,G',e1,e3,rfl⟩
set_option maxHeartbeats 2000000 attribute [local irreducible] HW HO HQ HD HC QOp Has Upd Zt Gets Z8 Z0 Zo Xm Zz Zj Xp Zy
attribute [local irreducible] Wa Q3
end Go.HL
end

/-! MwM -/
section
namespace Go.HL
open Go Go.Proofs
theorem lsD {D:RwG} {M:Wm} {X:Zb}:LS (Wj D M++X).flatten (Q3 D M::X).flatten:=LS.of_eq (Zpf D M X).symm
theorem lsD' {D:RwG} {M:Wm} {X:Zb}:LS (Q3 D M::X).flatten (Wj D M++X).flatten:=LS.of_eq (Zpf D M X)
set_option maxHeartbeats 2000000 attribute [local irreducible] HW HO HQ HD HC QOp Has Upd Zt Gets Z8 Z0 Zo Xm Zz Zj Xp Zy
attribute [local irreducible] Wa Q3 Zn
end Go.HL
end

/-! EdA -/
section
namespace Go.HL
open Go Go.Proofs
def Zc6 (m:Pl) (d:Nat):Int:=((Zn m.b).getD d Zm).n
theorem Zwz {m:Pl} {j:Jn} (h:JI m j) (deal:Int) (s:St) (q:Nat):((Xt m j deal s).2.1.l.getD q Zm).n≤(j.l.getD q Zm).n+1:=by
 have hp:=Zf1 h deal s
 obtain ⟨-,-,hp⟩:=hp
 rcases hp with ⟨h1,-⟩|⟨-,-,-,-,⟨-,h1,-⟩|⟨-,h1⟩⟩
 ·rw [h1];omega
 ·rw [h1];omega
 ·rw [h1]
  by_cases e:q=deal.toNat
  ·subst e
   by_cases hl:deal.toNat<j.l.length
   ·simp [List.getD,List.getElem?_set,hl]
   ·simp [List.getD,List.getElem?_set,hl,Zm]
  ·simp [List.getD,List.getElem?_set,Ne.symm e]
   omega
theorem site_num {id:Int} {ref:Int→Bool} {m:Pl} {j:Jn} (h:SI m j) (f:Fr) (q:Nat):((Zs id ref m j f).2.1.l.getD q Zm).n≤(j.l.getD q Zm).n+1:=by
 unfold Zs
 split
 ·simp only;omega
 split
 ·simp only;omega
 split
 ·exact Zwz h.ji _ _ _
 ·exact Zwz h.ji _ _ _
def stW (M:Wm) (s d:Nat):St:=Xf (Zf M (s:Int)).pl d
def ldW (M:Wm) (s d:Nat):Option Ld:=(Zf M (s:Int)).leads.getD d none
def nmW (M:Wm) (s d:Nat):Int:=Zc6 (Zf M (s:Int)).pl d
def LiveN (m:Nd):Prop:=m.site≠none∧m.pl.cut = -1
theorem LiveN.off {w:List Int} {s:Nat} {m:Nd} (h:NdI w s m) (hl:LiveN m) : ∃ j ref,m.site=some (j,ref)∧j=⟨Zn m.pl.b,false⟩∧m.pl.off=false∧m.pl.cut = -1∧SI m.pl j:=by
 obtain ⟨⟨j,ref⟩,hs⟩:=Option.ne_none_iff_exists'.1 hl.1
 obtain ⟨e1,e2⟩:=h.up j ref hs
 exact ⟨j,ref,hs,e1,e2,hl.2,h.jn hs⟩
theorem nd_num {w:List Int} {s:Nat} {m:Nd} (h:NdI w s m) (ev:List Evt) (f:Fr) (q:Nat):Zc6 (Y7 s m ev f).1.pl q≤Zc6 m.pl q+1:=by
 unfold Y7
 split
 ·simp only;omega
 ·rename_i j ref hs
  have hS:=h.jn hs
  have hn:=site_num (id:=s) (ref:=ref) hS f q
  have hany:=(Zdc (id:=s) (ref:=ref) hS f).1
  have hl':(Zs s ref m.pl j f).2.1.l=Zn (Zs s ref m.pl j f).1.b:=hany.ji.l
  have hj:j.l=Zn m.pl.b:=hS.ji.l
  rw [hl',hj] at hn
  unfold Zc6
  split<;>exact hn
theorem nd_st {w:List Int} {s:Nat} {m:Nd} (h:NdI w s m) (ev:List Evt) (f:Fr):(∀ d:Nat,d<6→Xf (Y7 s m ev f).1.pl d=Xf m.pl d∨(d=f.dl.toNat ∧ ∃ ref,Xf (Y7 s m ev f).1.pl d=(Yj ref f (Xf m.pl d)).1)) ∧
  (∀ x∈(Y7 s m ev f).2.2.1,∃ ref,x=⟨s,f.fr,f.dl,(Yj ref f (Xf m.pl f.dl)).2.1,f.att,(Yj ref f (Xf m.pl f.dl)).2.2,(Yj ref f (Xf m.pl f.dl)).1⟩∧(Yj ref f (Xf m.pl f.dl)).2.1≠0 ∧ ¬ X5 f∧f.to=s):=by
 unfold Y7
 split
 ·exact ⟨fun d _ => .inl rfl,fun x hx=>by cases hx⟩
 ·rename_i j ref hs
  have hS:=h.jn hs
  have hstep:=Zzn (id:=s) (ref:=ref) hS f
  have hany:=(Zdc (id:=s) (ref:=ref) hS f).1
  have hl':(Zs s ref m.pl j f).2.1.l=Zn (Zs s ref m.pl j f).1.b:=hany.ji.l
  have hpl : ∀ q:Nat,Xf (Zs s ref m.pl j f).1 q=Yq (Zs s ref m.pl j f).2.1 q:=fun q=>by
   unfold Yq Xf
   rw [hl']
   rfl
  have ej : ∀ q,Yq j q=Xf m.pl q:=fun q=>st_eq h hs q
  have key:(∀ d:Nat,d<6→Xf (Zs s ref m.pl j f).1 d=Xf m.pl d∨(d=f.dl.toNat ∧ ∃ r',Xf (Zs s ref m.pl j f).1 d=(Yj r' f (Xf m.pl d)).1)) ∧
    (∀ x∈(Zs s ref m.pl j f).2.2.1,∃ ref,x=⟨s,f.fr,f.dl,(Yj ref f (Xf m.pl f.dl)).2.1,f.att,(Yj ref f (Xf m.pl f.dl)).2.2,(Yj ref f (Xf m.pl f.dl)).1⟩∧(Yj ref f (Xf m.pl f.dl)).2.1≠0 ∧ ¬ X5 f∧f.to=s):=by
   rcases hstep with ⟨hq,hx⟩|⟨hb,hto,htu,hoth,hx⟩
   ·exact ⟨fun d hd => .inl (by rw [hpl,hq d hd,ej]),fun x hx2=>by rw [hx] at hx2;cases hx2⟩
   ·have hb2:=hb
    unfold X5 at hb2
    obtain ⟨d0,hd0⟩:=Int.eq_ofNat_of_zero_le (show 0≤f.dl by omega)
    have hdn:f.dl.toNat=d0:=by omega
    have e2:Yq j f.dl.toNat=Xf m.pl f.dl:=by rw [hdn,hd0];exact ej d0
    refine ⟨fun d hd=>?_,fun x hx2=>?_⟩
    ·by_cases e:d=f.dl.toNat
     ·exact .inr ⟨e,ref,by rw [hpl,e,htu,ej]⟩
     ·exact .inl (by rw [hpl,hoth d hd e,ej])
    ·obtain ⟨k1,k2⟩:=hx x hx2
     rw [e2] at k1 k2
     exact ⟨ref,k2,k1,hb,hto⟩
  clear hstep hany hl' hpl
  generalize Zs s ref m.pl j f=r at key ⊢
  split
  ·exact ⟨key.1,fun x hx=>by cases hx⟩
  ·exact key
end Go.HL
end

/-! EdB -/
section
namespace Go.HL
open Go Go.Proofs
structure Bnd (M:Wm) (P N:Int):Prop where
 pr : ∀ s d:Nat,s<M.w.length→d<6→(stW M s d).pr≤P
 ld : ∀ s d x,s<M.w.length→d<6→ldW M s d=some x→x.seen≤P∧x.att≤P
 fr : ∀ f∈M.l,f.att≤P∧f.s.pr≤P
 nm : ∀ s d:Nat,s<M.w.length→nmW M s d≤N
 p0:0≤P
 n0:0≤N
theorem Bnd.mono {M:Wm} {P N P' N':Int} (h:Bnd M P N) (hP:P≤P') (hN:N≤N'):Bnd M P' N':=
 ⟨fun s d a b=>by have:=h.pr s d a b;omega,fun s d x a b c=>by have:=h.ld s d x a b c;omega,fun f hf=>by have:=h.fr f hf;omega,fun s d a=>by have:=h.nm s d a;omega,by have:=h.p0;omega,by have:=h.n0;omega⟩
theorem Bnd.of {M M':Wm} {P N:Int} (h:Bnd M P N) (hw:M'.w=M.w) (hst : ∀ s d:Nat,stW M' s d=stW M s d) (hnm : ∀ s d:Nat,nmW M' s d=nmW M s d)
  (hld : ∀ s d x,s<M.w.length→d<6→ldW M' s d=some x→ldW M s d=some x∨(x.seen≤P∧x.att≤P)) (hl : ∀ f∈M'.l,f∈M.l∨(f.att≤P∧f.s.pr≤P)):Bnd M' P N:=
 ⟨fun s d a b=>by rw [hst];exact h.pr s d (by rw [← hw];exact a) b,fun s d x a b c=>by
  rw [hw] at a
  rcases hld s d x a b c with k|k
  ·exact h.ld s d x a b k
  ·exact k,fun f hf=>(by
  rcases hl f hf with k|k
  ·exact h.fr f k
  ·exact k),fun s d a=>by rw [hnm];exact h.nm s d (by rw [← hw];exact a),h.p0,h.n0⟩
theorem Zq2 (x:Ld) (f:Fr):(Zw x f).1.att=x.att∧(Zw x f).1.id=x.id∧(Zw x f).1.deal=x.deal∧(Zw x f).1.w=x.w∧((Zw x f).1.seen≤x.seen∨(Zw x f).1.seen≤f.s.pr):=by
 have h1:(Q8 x f).att=x.att∧(Q8 x f).id=x.id∧(Q8 x f).deal=x.deal∧(Q8 x f).w=x.w∧((Q8 x f).seen≤x.seen∨(Q8 x f).seen≤f.s.pr):=by
  unfold Q8
  split
  ·exact ⟨rfl,rfl,rfl,rfl,.inl (Int.le_refl _)⟩
  ·refine ⟨rfl,rfl,rfl,rfl,?_⟩
   simp only
   omega
 have h2:(Qm x f).att=x.att∧(Qm x f).id=x.id∧(Qm x f).deal=x.deal∧(Qm x f).w=x.w∧((Qm x f).seen≤x.seen∨(Qm x f).seen≤f.s.pr):=h1
 unfold Zw
 split
 ·exact ⟨rfl,rfl,rfl,rfl,.inl (Int.le_refl _)⟩
 split
 ·unfold Zz2
  split<;>exact h1
 ·unfold Yf
  split
  ·exact h2
  split
  ·exact h2
  split
  ·exact h2
  split<;>exact h2
theorem Zhd {x:Ld} {f:Fr} : ∀ y∈(Zw x f).2,y.fr=x.id∧y.dl=x.deal∧y.att=x.att∧y.s.pr=0∧(y.kd=5∨y.kd=7):=by
 have hall : ∀ (m:Ld) (k p:Int),m.deal=x.deal→m.id=x.id→m.att=x.att→(k=5∨k=7) → ∀ y∈Zci m k p,y.fr=x.id∧y.dl=x.deal∧y.att=x.att∧y.s.pr=0∧(y.kd=5∨y.kd=7):=fun m k p h h2 h3 hk y hy=>by
  obtain ⟨i,-,rfl,-⟩:=Zfa hy
  exact ⟨h2,h,h3,rfl,hk⟩
 have e1:(Q8 x f).deal=x.deal∧(Q8 x f).id=x.id∧(Q8 x f).att=x.att:=by unfold Q8;split<;>exact ⟨rfl,rfl,rfl⟩
 have e2:(Qm x f).deal=x.deal∧(Qm x f).id=x.id∧(Qm x f).att=x.att:=by unfold Qm;exact e1
 unfold Zw
 split
 ·intro y hy;cases hy
 split
 ·unfold Zz2
  split
  ·exact hall _ _ _ e1.1 e1.2.1 e1.2.2 (.inr rfl)
  ·intro y hy;cases hy
 ·unfold Yf
  split
  ·exact hall _ _ _ e2.1 e2.2.1 e2.2.2 (.inl rfl)
  split
  ·intro y hy;cases hy
  split
  ·exact hall _ _ _ e2.1 e2.2.1 e2.2.2 (.inr rfl)
  split
  ·exact hall _ _ _ e2.1 e2.2.1 e2.2.2 (.inr rfl)
  ·exact hall _ _ _ e2.1 e2.2.1 e2.2.2 (.inl rfl)
theorem Zgd {m:Ld} : ∀ y∈Xk m,y.fr=m.id∧y.dl=m.deal∧y.att=m.att∧y.s.pr=0∧(y.kd=if m.att=0 then 1 else 3):=fun y hy=>by
 unfold Xk at hy
 split at hy
 ·rename_i h
  obtain ⟨i,-,rfl,-⟩:=Zfa hy
  exact ⟨rfl,rfl,rfl,rfl,by rw [if_pos h]⟩
 ·rename_i h
  obtain ⟨i,-,rfl,-⟩:=Zfa hy
  exact ⟨rfl,rfl,rfl,rfl,by rw [if_neg h]⟩
theorem Zw8 (ref:Int→Bool) (f:Fr) (st:St):(Yj ref f st).1.pr≤st.pr∨(Yj ref f st).1.pr≤f.att:=by
 unfold Yj
 split
 ·left;unfold Zxl;split
  ·split<;>exact Int.le_refl _
  ·exact Int.le_refl _
 split
 ·simp only;omega
 split
 ·split
  ·exact .inl (Int.le_refl _)
  ·split
   ·exact .inr (Int.le_refl _)
   ·exact .inl (Int.le_refl _)
 split
 ·left;simp only;split<;>exact Int.le_refl _
 ·exact .inl (Int.le_refl _)
theorem Zod {M:Wm} {s:Int} (h0:0≤s) (h1:s<M.n.length) (f:Fr) (t:Nat):Zf (Yt M s f).1 (t:Int)=if (t:Int)=s then (Y7 s (Zf M s) M.ev f).1 else Zf M (t:Int):=Qi h0 h1 t
theorem Zt8 (s:Int) (m:Nd) (ev:List Evt) (f:Fr):(Y7 s m ev f).1.leads=m.leads∨(Y7 s m ev f).1.leads=noLeads:=by
 unfold Y7
 split
 ·exact .inl rfl
 split
 ·exact .inr rfl
 ·exact .inl rfl
theorem Bnd.hear {M:Wm} {P N:Int} (h:Bnd M P N) (hI:WI M) {s:Int} (h0:0≤s) (h1:s<M.n.length) {f:Fr} (hf:f.att≤P) :
  Bnd (Yt M s f).1 P (N+1) ∧ ∀ y∈(Yt M s f).2.1,y.att≤P∧y.s.pr≤P:=by
 have hni:=hI.at h0 h1
 have hn:=hI.wn
 obtain ⟨sn,rfl⟩:=Int.eq_ofNat_of_zero_le h0
 simp only [Int.toNat_natCast] at hni
 have hsn:sn<M.w.length:=by omega
 have hw:(Yt M sn f).1.w=M.w:=rfl
 obtain ⟨k1,k2⟩:=nd_st hni M.ev f
 have k3:=nd_num hni M.ev f
 refine ⟨⟨fun t d ht hd=>?_,fun t d x ht hd hx=>?_,fun y hy=>h.fr y hy,fun t d ht=>?_,h.p0,by have:=h.n0;omega⟩,fun y hy=>?_⟩
 ·show (Xf (Zf (Yt M sn f).1 (t:Int)).pl d).pr≤P
  rw [Zod h0 h1]
  have hp:=h.pr t d ht hd
  unfold stW at hp
  split
  ·rename_i e
   rw [e] at hp
   rcases k1 d hd with k|⟨-,ref,k⟩
   ·rw [k];exact hp
   ·rw [k]
    have:=Zw8 ref f (Xf (Zf M sn).pl d)
    omega
  ·exact hp
 ·have hx':(Zf (Yt M sn f).1 (t:Int)).leads.getD d none=some x:=hx
  rw [Zod h0 h1] at hx'
  split at hx'
  ·rename_i e
   rcases Zt8 sn (Zf M sn) M.ev f with k|k
   ·rw [k,← e] at hx'
    exact h.ld t d x ht hd hx'
   ·rw [k,Zb1] at hx';cases hx'
  ·exact h.ld t d x ht hd hx'
 ·show Zc6 (Zf (Yt M sn f).1 (t:Int)).pl d≤N+1
  rw [Zod h0 h1]
  have hp:=h.nm t d ht
  unfold nmW at hp
  split
  ·rename_i e
   rw [e] at hp
   have:=k3 d
   omega
  ·omega
 ·have hy':y∈(Y7 sn (Zf M sn) M.ev f).2.2.1:=hy
  obtain ⟨ref,rfl,-,hb,-⟩:=k2 y hy'
  refine ⟨hf,?_⟩
  simp only
  unfold X5 at hb
  obtain ⟨d,hd⟩:=Int.eq_ofNat_of_zero_le (show 0≤f.dl by omega)
  have hp:=h.pr sn d hsn (by omega)
  unfold stW at hp
  rw [hd]
  have:=Zw8 ref f (Xf (Zf M sn).pl d)
  omega
theorem ldW_set {M:Wm} {s:Int} (h0:0≤s) (h1:s<M.n.length) (h6:(Zf M s).leads.length=6) {d:Nat} (hd:d<6) (o:Option Ld) (l:List Fr) (t e:Nat) :
  ldW { Y0 M s { Zf M s with leads:=(Zf M s).leads.set d o } with l:=l } t e=if (t:Int)=s∧e=d then o else ldW M t e:=by
 unfold ldW
 show (Zf (Y0 M s { Zf M s with leads:=(Zf M s).leads.set d o }) (t:Int)).leads.getD e none=_
 rw [Qi h0 h1]
 by_cases ht:(t:Int)=s
 ·rw [if_pos ht]
  by_cases he:e=d
  ·subst he
   rw [if_pos ⟨ht,rfl⟩]
   exact Zqz (by omega)
  ·rw [if_neg (fun q=>he q.2),ht]
   exact getD_set_ne he
 ·rw [if_neg ht,if_neg (fun q=>ht q.1)]
theorem stW_lead {M:Wm} {s:Int} (h0:0≤s) (h1:s<M.n.length) (ls:List (Option Ld)) (l:List Fr) (t e:Nat):stW { Y0 M s { Zf M s with leads:=ls } with l:=l } t e=stW M t e:=by
 unfold stW
 show Xf (Zf (Y0 M s { Zf M s with leads:=ls }) (t:Int)).pl e=_
 rw [Qi h0 h1]
 split
 ·rename_i ht;rw [ht]
 ·rfl
theorem nmW_lead {M:Wm} {s:Int} (h0:0≤s) (h1:s<M.n.length) (ls:List (Option Ld)) (l:List Fr) (t e:Nat):nmW { Y0 M s { Zf M s with leads:=ls } with l:=l } t e=nmW M t e:=by
 unfold nmW
 show Zc6 (Zf (Y0 M s { Zf M s with leads:=ls }) (t:Int)).pl e=_
 rw [Qi h0 h1]
 split
 ·rename_i ht;rw [ht]
 ·rfl
theorem Bnd.node {M:Wm} {P N:Int} (h:Bnd M P N) {s:Int} (h0:0≤s) (h1:s<M.n.length) {m:Nd} {ev:List Evt} (hb:m.pl.b=(Zf M s).pl.b) (hld:m.leads=(Zf M s).leads∨m.leads=noLeads):Bnd { Y0 M s m with ev:=ev } P N:=by
 refine h.of rfl (fun t d=>?_) (fun t d=>?_) (fun t d x ht hd hx=>?_) (fun f hf => .inl hf)
 ·show Xf (Zf (Y0 M s m) (t:Int)).pl d=Xf (Zf M (t:Int)).pl d
  rw [Qi h0 h1]
  split
  ·rename_i e;rw [e];unfold Xf;rw [hb]
  ·rfl
 ·show Zc6 (Zf (Y0 M s m) (t:Int)).pl d=Zc6 (Zf M (t:Int)).pl d
  rw [Qi h0 h1]
  split
  ·rename_i e;rw [e];unfold Zc6;rw [hb]
  ·rfl
 ·have hx':(Zf (Y0 M s m) (t:Int)).leads.getD d none=some x:=hx
  rw [Qi h0 h1] at hx'
  split at hx'
  ·rename_i e
   rcases hld with k|k
   ·rw [k] at hx'
    left
    show (Zf M (t:Int)).leads.getD d none=some x
    rw [e];exact hx'
   ·rw [k,Zb1] at hx';cases hx'
  ·exact .inl hx'
theorem Bnd.setL {M:Wm} {P N:Int} (h:Bnd M P N) {l:List Fr} (hl : ∀ f∈l,f∈M.l∨(f.att≤P∧f.s.pr≤P)):Bnd { M with l:=l } P N:=
 h.of rfl (fun _ _=>rfl) (fun _ _=>rfl) (fun _ _ _ _ _ hx => .inl hx) hl
theorem Bnd.erase {M:Wm} {P N:Int} (h:Bnd M P N) (k:Nat):Bnd { M with l:=M.l.eraseIdx k } P N:=h.setL fun f hf => .inl (List.mem_of_mem_eraseIdx hf)
theorem Bnd.lead {M:Wm} {P N:Int} (h:Bnd M P N) (hI:WI M) {s:Int} (h0:0≤s) (h1:s<M.n.length) {d:Nat} (hd:d<6) {x:Ld} (hx:x.seen≤P∧x.att≤P) {l:List Fr} (hl : ∀ f∈l,f∈M.l∨(f.att≤P∧f.s.pr≤P)) :
  Bnd { Y0 M s { Zf M s with leads:=(Zf M s).leads.set d (some x) } with l:=l } P N:=by
 have h6:=(hI.at h0 h1).leads
 refine h.of rfl (fun t e=>stW_lead h0 h1 _ _ t e) (fun t e=>nmW_lead h0 h1 _ _ t e) (fun t e y ht he hy=>?_) hl
 rw [ldW_set h0 h1 h6 hd] at hy
 split at hy
 ·cases hy;exact .inr hx
 ·exact .inl hy
theorem Bnd.hears {P:Int} : ∀ (l:List Fr) (x:Ld) (acc:List Fr),0≤P→x.seen≤P∧x.att≤P→(∀ f∈l,f.att≤P∧f.s.pr≤P)→(∀ f∈acc,f.att≤P∧f.s.pr≤P) →
  ((l.foldl (fun q f=>((Zw q.1 f).1,q.2++(Zw q.1 f).2)) (x,acc)).1.seen≤P∧(l.foldl (fun q f=>((Zw q.1 f).1,q.2++(Zw q.1 f).2)) (x,acc)).1.att≤P) ∧ ∀ f∈(l.foldl (fun q f=>((Zw q.1 f).1,q.2++(Zw q.1 f).2)) (x,acc)).2,f.att≤P∧f.s.pr≤P
 | [],x,acc,h0,hx,_,ha=>⟨hx,ha⟩
 | f::l,x,acc,h0,hx,hl,ha=>by
  rw [List.foldl_cons]
  obtain ⟨e1,-,-,-,e2⟩:=Zq2 x f
  have hf:=hl f (by simp)
  refine Bnd.hears l _ _ h0 ⟨(show (Zw x f).1.seen≤P by omega),by rw [e1];exact hx.2⟩ (fun g hg=>hl g (by simp [hg])) fun g hg=>?_
  rcases List.mem_append.1 hg with hg|hg
  ·exact ha g hg
  ·obtain ⟨-,-,k1,k2,-⟩:=Zhd g hg
   rw [k1,k2]
   exact ⟨hx.2,h0⟩
theorem Zzq {k s a:Int} (hk:0<k):a≤Zar k s a∧Zar k s a≤a+k-1:=by
 unfold Zar
 have h1:=Int.emod_nonneg (s-a) (by omega:k≠0)
 have h2:=Int.emod_lt_of_pos (s-a) hk
 generalize (s-a) % k=z at *
 omega
theorem Zsx {M:Wm} {P N:Int} (h:Bnd M P N) {s:Int} (h0:0≤s) (h1:s<M.w.length) {d:Nat} (hd:d<6) {p:Int} (hp:p≤P):Yu (Zf M s) d p≤P:=by
 unfold Yu
 split
 ·exact hp
 ·rename_i x hx
  have:=(h.ld s.toNat d x (by omega) hd (by unfold ldW;rw [show ((s.toNat:Nat):Int)=s by omega];exact hx)).1
  omega
theorem Bnd.try {M:Wm} {P N:Int} (h:Bnd M P N) (hI:WI M) {s p:Int} {d:Nat} (h0:0≤s) (h1:s<M.n.length) (hd:d<6) (hp:p≤P):Bnd (Zbl M s d p).1 (P+7) (N+1):=by
 have hn:=hI.wn
 have hw:=hI.wl
 have hw1:=hI.w1
 have hab:=Zsx h h0 (by omega) hd hp
 have hp0:=h.p0
 unfold Zbl
 simp only
 have hle:=Zzq (k:=M.w.length) (s:=s) (a:=Yu (Zf M s) d p+1) (by omega)
 generalize Zar M.w.length s (Yu (Zf M s) d p+1)=a at *
 split
 ·exact h.mono (by omega) (by omega)
 have h7:=h.mono (P':=P+7) (N':=N) (by omega) (by omega)
 obtain ⟨k1,k2⟩:=h7.hear hI (f:=Vv s d a) h0 h1 (by show a≤_;omega)
 obtain ⟨hI2,-⟩:=hI.hear (f:=Vv s d a) h0 h1 (by show s<_;omega)
 have hS:=Zdt M s (Vv s d a)
 generalize Yt M s (Vv s d a)=R at *
 split
 ·exact k1
 ·obtain ⟨q1,q2⟩:=Bnd.hears (P:=P+7) R.2.1 (Zi s d M.w a 4) [] (by omega) ⟨by show (0:Int)≤_;omega,by show a≤_;omega⟩ k2 (fun f hf=>by cases hf)
  refine k1.lead hI2 h0 (by rw [hS.n];exact h1) (d:=(d:Int).toNat) (by simpa using hd) q1 fun f hf=>?_
  rcases List.mem_append.1 hf with hf|hf
  ·rcases List.mem_append.1 hf with hf|hf
   ·exact .inl hf
   ·obtain ⟨-,-,e1,e2,-⟩:=Zgd f hf
    rw [e1,e2]
    exact .inr ⟨by show a≤_;omega,by omega⟩
  ·exact .inr (q2 f hf)
theorem Bnd.tickD {M:Wm} {P N:Int} {q:Wm × Bool} {s:Int} {k d:Nat} (h:Bnd q.1 P N) (hT:TickOk M q s k) (h0:0≤s) (h1:s<M.n.length) (hd:d<6):Bnd (tickD s q d).1 (P+7) (N+1):=by
 obtain ⟨M1,b⟩:=q
 have hn:=hT.same.n
 simp only at hn h
 have hwn:=hT.wi.wn
 simp only at hwn
 have hp0:=h.p0
 unfold HL.tickD
 split
 ·exact h.mono (by omega) (by omega)
 split
 ·exact h.mono (by omega) (by omega)
 rename_i hb _ j ref hs
 have hs':(Zf M1 s).site=some (j,ref):=hs
 have hni:=hT.wi.at (s:=s) h0 (by simp only;omega)
 have e:=st_eq hni hs' d
 have hpr:=h.pr s.toNat d (by omega) hd
 unfold stW at hpr
 rw [show ((s.toNat:Nat):Int)=s by omega] at hpr
 split
 ·exact h.mono (by omega) (by omega)
 split
 ·refine (h.mono (P':=P+7) (N':=N+1) (by omega) (by omega)).setL fun f hf=>?_
  rcases List.mem_append.1 hf with hf|hf
  ·exact .inl hf
  ·unfold W7 at hf
   obtain ⟨i,hi,rfl⟩:=List.mem_map.1 hf
   refine .inr ⟨?_,?_⟩
   ·show (Yq j d).pr≤P+7
    rw [e]
    exact Int.le_trans hpr (by omega)
   ·show (0:Int)≤P+7
    omega
 ·exact h.try hT.wi h0 (by show s<M1.n.length;omega) hd (by rw [e];exact hpr)
theorem Bnd.ticks {M:Wm} {P N:Int} (h:Bnd M P N) (hI:WI M) {s:Int} (h0:0≤s) (h1:s<M.n.length) (hs:(Zf M s).site≠none) : ∀ k:Nat,k≤6→Bnd ((List.range k).foldl (HL.tickD s) (M,true)).1 (P+7*k) (N+k)
 | 0,_=>by simpa using h
 | k+1,hk=>by
  rw [List.range_succ,List.foldl_append]
  have:=Bnd.tickD (d:=k) (Bnd.ticks h hI h0 h1 hs k (by omega)) (Zaq hI h0 h1 hs k (by omega)) h0 h1 (by omega)
  exact this.mono (by push_cast;omega) (by push_cast;omega)
theorem Bnd.tick {M:Wm} {P N:Int} (h:Bnd M P N) (hI:WI M) (s:Int):Bnd (Uc M s).1 (P+42) (N+6):=by
 unfold Uc
 split
 ·exact h.mono (by omega) (by omega)
 ·rename_i hu
  obtain ⟨h0,h1,hs⟩:=V5 hu
  exact (h.ticks hI h0 h1 hs 6 (by omega)).mono (by omega) (by omega)
theorem Bnd.deliver {M:Wm} {P N:Int} (h:Bnd M P N) (hI:WI M) (k:Int):Bnd (Ya M k).1 P (N+1):=by
 have hn:=hI.wn
 unfold Ya
 split
 ·exact h.mono (by omega) (by omega)
 rename_i hk
 obtain ⟨⟨hbad,hto,hfr⟩,hk0,hk1⟩:=Zfm hI hk
 have hmem:M.l.getD k.toNat Yv∈M.l:=by
  rw [List.getD,List.getElem?_eq_getElem (show k.toNat<M.l.length by omega)]
  exact List.getElem_mem _
 have hE:=hI.erase k.toNat
 have hB:=h.erase k.toNat
 generalize M.l.getD k.toNat Yv=f at *
 unfold X5 at hbad
 have hf:=h.fr f hmem
 have hp0:=h.p0
 simp only
 split
 ·exact hB.mono (by omega) (by omega)
 split
 ·split
  ·exact hB.mono (by omega) (by omega)
  ·rename_i x hx
   have hx':=h.ld f.to.toNat f.dl.toNat x (by omega) (by omega) (by unfold ldW;rw [show ((f.to.toNat:Nat):Int)=f.to by omega];exact hx)
   obtain ⟨e1,-,-,-,e2⟩:=Zq2 x f
   refine Bnd.mono (N:=N) ?_ (Int.le_refl P) (by omega)
   refine hB.lead hE (by omega) (by simp only;omega) (by omega) ⟨by omega,by omega⟩ fun g hg=>?_
   rcases List.mem_append.1 hg with hg|hg
   ·exact .inl hg
   ·obtain ⟨-,-,k1,k2,-⟩:=Zhd g hg
    rw [k1,k2]
    exact .inr ⟨hx'.2,hp0⟩
 ·obtain ⟨k1,k2⟩:=hB.hear hE (s:=f.to) (f:=f) (by omega) (by simp only;omega) hf.1
  refine k1.setL fun g hg=>?_
  rcases List.mem_append.1 hg with hg|hg
  ·exact .inl hg
  ·exact .inr (k2 g hg)
theorem Bnd.act {M:Wm} {P N:Int} (h:Bnd M P N) (hI:WI M) (x:StpS):Bnd (Zxh M x).1 (P+42) (N+6):=by
 have hp0:=h.p0
 have hm : ∀ {M':Wm},Bnd M' P N→Bnd M' (P+42) (N+6):=fun h=>h.mono (by omega) (by omega)
 have hlk : ∀ a b c,Bnd (V8 M a b c).1 P N:=fun a b c=>by
  unfold V8
  split
  ·exact h
  ·exact h.of rfl (fun _ _=>rfl) (fun _ _=>rfl) (fun _ _ _ _ _ hx => .inl hx) fun f hf => .inl hf
 unfold Zxh
 split
 ·refine hm ?_
  unfold Wv
  split
  ·exact h
  rename_i hb
  split
  ·exact h
  split
  ·exact h
  refine h.lead hI (by omega) (by omega) (by omega) ⟨by show (0:Int)≤P;exact hp0,by show (0:Int)≤P;exact hp0⟩ fun f hf=>?_
  rcases List.mem_append.1 hf with hf|hf
  ·exact .inl hf
  ·obtain ⟨-,-,e1,e2,-⟩:=Zgd f hf
   rw [e1,e2]
   exact .inr ⟨by show (0:Int)≤P;exact hp0,hp0⟩
 split
 ·refine hm ?_
  unfold Wo
  split
  ·exact h
  split
  ·exact h
  rename_i hu
  obtain ⟨h0,h1,-⟩:=V5 hu
  exact h.node h0 h1 (ev:=M.ev) (by unfold U2;split<;>rfl) (.inl (by unfold U2;split<;>rfl))
 split
 ·exact h.tick hI _
 split
 ·refine hm ?_
  unfold Qo
  split
  ·exact h
  rename_i hu
  obtain ⟨h0,h1,-⟩:=V5 hu
  exact h.node h0 h1 (ev:=M.ev) rfl (.inr rfl)
 split
 ·refine hm ?_
  unfold Zpo
  split
  ·exact h
  split
  ·exact h
  rename_i hu _
  obtain ⟨h0,h1⟩:=Y8 hu
  exact h.node h0 h1 rfl (.inl rfl)
 split
 ·refine hm ?_
  unfold Qp
  split
  ·exact h
  ·exact h.erase _
 split
 ·refine hm ?_
  unfold Vw
  split
  ·exact h
  rename_i hk
  have hkk:0≤x.n∧x.n<M.l.length:=by
   unfold Zs1 at hk
   split at hk
   ·cases hk
   ·omega
  refine h.setL fun f hf => .inl ?_
  rcases List.mem_append.1 hf with hf|hf
  ·exact List.mem_of_mem_take hf
  ·rcases List.mem_cons.1 hf with hf|hf
   ·rw [hf,List.getD,List.getElem?_eq_getElem (show x.n.toNat<M.l.length by omega)]
    exact List.getElem_mem _
   ·exact List.mem_of_mem_drop hf
 split
 ·exact hm (hlk _ _ _)
 split
 ·exact hm (hlk _ _ _)
 split
 ·refine hm ?_
  unfold Zct
  split
  ·exact h
  split
  ·exact h
  rename_i hu
  obtain ⟨h0,h1,-⟩:=V5 hu
  exact h.node h0 h1 (ev:=M.ev) rfl (.inl rfl)
 ·exact (h.deliver hI _).mono (by omega) (by omega)
theorem bnd_new {w:List Int} (hc:Ym w=none):Bnd (Ve w) 0 0:=by
 have e : ∀ s:Nat,s<(Ve w).w.length→Zf (Ve w) (s:Int)=newNd:=fun s hs=>ndAt_new (by omega) (by have:(Ve w).w=w:=rfl;rw [this] at hs;omega)
 refine ⟨fun s d hs hd=>?_,fun s d x hs hd hx=>?_,fun f hf=>(by cases hf),fun s d hs=>?_,(by omega),(by omega)⟩
 ·unfold stW
  rw [e s hs,plSt_new]
  exact Int.le_refl _
 ·unfold ldW at hx
  rw [e s hs] at hx
  have:newNd.leads=noLeads:=rfl
  rw [this,Zb1] at hx
  cases hx
 ·unfold nmW
  rw [e s hs]
  unfold Zc6 newNd
  simp only
  rw [Zex (by omega)]
  rw [List.getD,List.getElem?_replicate]
  split<;>exact Int.le_refl _
end Go.HL
end

/-! MwN -/
section
namespace Go.HL
open Go Go.Proofs
theorem num_of {M:Wm} {P N:Int} (h:Bnd M P N) (hI:WI M) (hN:N+8<4294967296) (s:Int) (hu:Zco M s=none) (k:Nat) (j:Jn) (ref:Int→Bool) (hk:k<6) (hs:(Zf (Wg s M k).1 s).site=some (j,ref)):(j.l.getD k Zm).n+1<4294967296:=by
 obtain ⟨h0,h1,hs0⟩:=V5 hu
 have hb:Bnd (Wg s M k).1 (P+7*k) (N+k):=h.ticks hI h0 h1 hs0 k (by omega)
 have ht:TickOk M (Wg s M k) s k:=Zaq hI h0 h1 hs0 k (by omega)
 have hn:=ht.same.n
 have hwn:=ht.wi.wn
 have hni:=Wu ht.wi h0 (by omega)
 obtain ⟨rfl,-⟩:=hni.up j ref hs
 have:=hb.nm s.toNat k (by omega)
 unfold nmW Zc6 at this
 rw [show ((s.toNat:Nat):Int)=s by omega] at this
 simp only
 omega
set_option maxHeartbeats 2000000 attribute [local irreducible] HW HO HQ HD HC QOp Has Upd Zt Gets Z8 Z0 Zo Xm Zz Zj Xp Zy
attribute [local irreducible] Ve actsW Zxh Wa Q3
end Go.HL
end

/-! ScN -/
section
namespace Go.HL
open Go Go.Proofs
theorem Zs8 : ∀ w:List UInt8,32 ∉ w→Y4 w=[w]
 | [],_=>rfl
 | c::r,h=>by
  have h1 : ¬ c=32:=fun e=>h (by simp [e])
  have ih:=Zs8 r fun e=>h (List.mem_cons_of_mem _ e)
  simp only [Y4,if_neg h1,ih]
theorem Zs9 (r:List UInt8) : ∀ w:List UInt8,32 ∉ w→Y4 (w++32::r)=w::Y4 r
 | [],_=>by simp [Y4]
 | c::w,h=>by
  have h1 : ¬ c=32:=fun e=>h (by simp [e])
  have ih:=Zs9 r w fun e=>h (List.mem_cons_of_mem _ e)
  simp only [List.cons_append,Y4,if_neg h1,ih]
theorem Zic (d:Nat) (h:d<10):(UInt8.ofNat (48+d)).toNat=48+d:=by
 rcases (show d=0∨d=1∨d=2∨d=3∨d=4∨d=5∨d=6∨d=7∨d=8∨d=9 by omega) with rfl|rfl|rfl|rfl|rfl|rfl|rfl|rfl|rfl|rfl<;>rfl
theorem Zn5 : ∀ (N u:Nat),u<N → ∀ c∈Lib.decDigits u,48≤c.toNat∧c.toNat≤57
 | 0,u,h=>by omega
 | N+1,u,h=>by
  rw [Zjb]
  split
  ·rename_i h10
   intro c hc
   rw [List.mem_singleton.1 hc,Zic u h10]
   omega
  ·intro c hc
   rcases List.mem_append.1 hc with hc|hc
   ·exact Zn5 N (u / 10) (by omega) c hc
   ·rw [List.mem_singleton.1 hc,Zic (u % 10) (by omega)]
    omega
theorem Zm0 : ∀ (a b:List UInt8) (acc v:Nat),Lib.parseUint10 acc a = .ok v→Lib.parseUint10 acc (a++b)=Lib.parseUint10 v b
 | [],b,acc,v,h=>by simp only [Lib.parseUint10] at h;cases h;rfl
 | c :: a,b,acc,v,h=>by
  simp only [Lib.parseUint10,List.cons_append] at h ⊢
  split at h
  ·rename_i h1
   rw [if_pos h1]
   split at h
   ·cases h
   ·rename_i h2
    rw [if_neg h2]
    split at h
    ·cases h
    ·rename_i h3
     rw [if_neg h3]
     exact Zm0 a b _ v h
  ·cases h
theorem Zm1 : ∀ (N u:Nat),u<N→u≤99999→Lib.parseUint10 0 (Lib.decDigits u) = .ok u
 | 0,u,h,_=>by omega
 | N+1,u,h,hu=>by
  rw [Zjb]
  split
  ·rename_i h10
   have:=Zic u h10
   simp only [Lib.parseUint10,this]
   rw [if_pos (by omega),if_neg (by omega),if_neg (by omega)]
   congr 1
   omega
  ·rw [Zm0 _ _ 0 (u / 10) (Zm1 N (u / 10) (by omega) (by omega))]
   have:=Zic (u % 10) (by omega)
   simp only [Lib.parseUint10,this]
   rw [if_pos (by omega),if_neg (by omega),if_neg (by omega)]
   congr 1
   omega
theorem nd_le : ∀ (k u:Nat),u<10 ^ (k+1)→Lib.nDigits u≤k+1
 | 0,u,h=>by rw [Lib.nDigits_small (by simpa using h)];omega
 | k+1,u,h=>by
  by_cases h1:u<10
  ·rw [Lib.nDigits_small h1];omega
  ·rw [Lib.nDigits_big h1]
   have:=nd_le k (u / 10) (by rw [Nat.pow_succ] at h;omega)
   omega
theorem Zjp {n:Int} (h0:0≤n):Lib.itoa n=Lib.decDigits n.toNat:=by unfold Lib.itoa;rw [if_neg (by omega)]
theorem Zyy {n:Int} (h0:0≤n) (h1:n≤99999):Zd0 (Lib.itoa n)=some n:=by
 have hl:(Lib.decDigits n.toNat).length≤5:=by
  rw [Lib.decDigits_length]
  exact nd_le 4 _ (by omega)
 have hne:1≤(Lib.decDigits n.toNat).length:=by
  rw [Lib.decDigits_length]
  exact Lib.nDigits_pos _
 have hd:=Zn5 (n.toNat+1) n.toNat (by omega)
 have hp:=Zm1 (n.toNat+1) n.toNat (by omega) (by omega)
 have ha:Lib.atoiAll (Lib.decDigits n.toNat) = .ok n:=by
  obtain ⟨c,r,hc⟩ : ∃ c r,Lib.decDigits n.toNat=c::r:=by
   cases hx:Lib.decDigits n.toNat with
   | nil=>rw [hx] at hne;simp at hne
   | cons c r=>exact ⟨c,r,rfl⟩
  rw [hc] at hd hp ⊢
  have:=hd c List.mem_cons_self
  unfold Lib.atoiAll
  simp only
  rw [if_neg (show ¬ (c.toNat=43∨c.toNat=45) by omega)]
  unfold Lib.parseMag
  rw [if_neg (by simp),hp]
  simp only
  rw [if_neg (by omega),if_neg (by omega),if_neg (by omega)]
  congr 1
  omega
 rw [Zjp h0]
 rw [Zov ha,if_pos ⟨by omega,h0,Zjp h0⟩]
theorem Zyi {n:Int} (h0:0≤n):32 ∉ Lib.itoa n:=fun h=>by
 rw [Zjp h0] at h
 have:=Zn5 (n.toNat+1) n.toNat (by omega) 32 h
 rw [show (32:UInt8).toNat=32 from rfl] at this
 omega
theorem Znn : ∀ (ns:List Int) (w:List UInt8),32 ∉ w→(∀ x∈ns,0≤x)→Y4 (w++Zde ns)=w::ns.map Lib.itoa
 | [],w,h,_=>by
  simp only [Zde,List.flatMap_nil,List.append_nil,List.map_nil]
  exact Zs8 w h
 | n::ns,w,h,hn=>by
  have e:Zde (n::ns)=32::(Lib.itoa n++Zde ns):=by simp [Zde]
  rw [e,Zs9 _ w h,Znn ns _ (Zyi (hn n List.mem_cons_self)) fun x hx=>hn x (List.mem_cons_of_mem _ hx)]
  rfl
theorem Zkm : ∀ (f:List UInt8) (ns:List Int),f.length=ns.length→(∀ j,j<ns.length→0≤ns.getD j 0∧ns.getD j 0≤99999∧((f.getD j 0).toNat=100→ns.getD j 0≤9))→Ua f (ns.map Lib.itoa)=some ns
 | [],[],_,_=>rfl
 | c::f,n::ns,h,hn=>by
  obtain ⟨h0,h1,h2⟩:=hn 0 (by simp)
  simp only [List.getD_cons_zero] at h0 h1 h2
  have ih:=Zkm f ns (by simpa using h) fun j hj=>by
   have:=hn (j+1) (by simpa using hj)
   simpa using this
  simp only [List.map_cons,Ua,Zyy h0 h1]
  rw [if_neg (fun q=>by have:=h2 q.1;omega),ih]
  rfl
theorem Zqu (w:List UInt8) : ∀ (t:List (List UInt8 × List UInt8 × Nat)) (i k:Nat),V7 w t i=some k→i≤k∧k-i<t.length∧w=(t.getD (k-i) ([],[],0)).1
 | [],i,k,h=>by cases h
 | (x,f,F)::r,i,k,h=>by
  simp only [V7] at h
  split at h
  ·rename_i hx
   cases h
   exact ⟨Nat.le_refl _,by simp,by simp [hx]⟩
  ·obtain ⟨h1,h2,h3⟩:=Zqu w r (i+1) k h
   refine ⟨by omega,by simp only [List.length_cons];omega,?_⟩
   rw [show k-i=k-(i+1)+1 by omega]
   exact h3
theorem cmd_word : ∀ k,k<18→32 ∉ (cmdT.getD k ([],[],0)).1∧Y9 k≠[43]:=by decide
theorem Zrg {w:List UInt8} {ns:List Int} {s:List UInt8} (h:lineM w ns=some s):(∀ x∈ns,0≤x∧x≤99999)∧Y4 s=w::ns.map Lib.itoa ∧
  ((w=Xu∧V9 (List.replicate (max 1 (ns.map Lib.itoa).length) 110) (ns.map Lib.itoa)=some ns)∨(w≠Xu ∧ ∃ k,k<18∧w=(cmdT.getD k ([],[],0)).1∧V7 w cmdT 0=some k∧ns.length=(Y9 k).length∧V9 (Y9 k) (ns.map Lib.itoa)=some ns)):=by
 unfold lineM at h
 split at h
 ·cases h
 rename_i hb
 cases h
 have ho:Zfx (X9 w).1 ns ns.length:=Classical.byContradiction fun h2=>hb (.inr h2)
 have hbl : ¬ Zxo w ns:=fun h2=>hb (.inl h2)
 have hr : ∀ x∈ns,0≤x∧x≤99999:=fun x hx=>by
  obtain ⟨j,hj,rfl⟩:=List.getElem_of_mem hx
  have h1:=ho j hj
  have h2:=Zft (X9 w).1 j
  have e:ns.getD j 0=ns[j]:=by simp [List.getD,List.getElem?_eq_getElem hj]
  omega
 have hz : ∀ f:List UInt8,f.length=ns.length→(∀ j,(f.getD j 0).toNat=100→Zc2 (X9 w).1 j=9)→V9 f (ns.map Lib.itoa)=some ns:=fun f hf hm=>by
  unfold V9
  rw [if_pos (by rw [List.length_map];exact hf)]
  refine Zkm f ns hf fun j hj=>?_
  have h1:=ho j hj
  have h2:=Zft (X9 w).1 j
  exact ⟨h1.1,by omega,fun h=>by rw [hm j h] at h1;exact h1.2⟩
 have hwd:32 ∉ w→Y4 (w++Zde ns)=w::ns.map Lib.itoa:=fun h=>Znn ns w h fun x hx=>(hr x hx).1
 refine ⟨hr,?_⟩
 unfold Zxo at hbl
 by_cases hs:w=Xu
 ·subst hs
  have hf:(X9 Xu).1=[43]:=rfl
  have hn:1≤ns.length:=by
   rcases Nat.lt_or_ge 0 ns.length with h|h
   ·exact h
   ·exact absurd (.inr (.inl ⟨hf,by omega⟩)) hbl
  refine ⟨hwd (by decide),.inl ⟨rfl,hz _ (by rw [List.length_replicate,List.length_map];omega) fun j hj=>?_⟩⟩
  rw [List.getD,List.getElem?_replicate] at hj
  split at hj<;>exact absurd hj (by decide)
 ·have hfm:X9 w=match V7 w cmdT 0 with
   | some k=>(Y9 k,true)
   | none=>([],false):=if_neg hs
  cases hk:V7 w cmdT 0 with
  | none=>rw [hk] at hfm;exact absurd (.inl (by rw [hfm])) hbl
  | some k =>
   rw [hk] at hfm
   obtain ⟨-,k18,hw⟩:=Zqu w cmdT 0 k hk
   rw [Nat.sub_zero] at k18 hw
   have k18:k<18:=k18
   obtain ⟨h32,h43⟩:=cmd_word k k18
   have e1:(X9 w).1=Y9 k:=by rw [hfm]
   rw [e1] at hbl hz
   have hl:ns.length=(Y9 k).length:=Classical.byContradiction fun h=>hbl (.inr (.inr ⟨h43,h⟩))
   refine ⟨hwd (by rw [hw];exact h32),.inr ⟨hs,k,k18,hw,rfl,hl,hz _ hl.symm fun j hj=>?_⟩⟩
   unfold Zc2
   exact if_pos ⟨h43,hj⟩
def Zh3 (k:Nat) (M:Wm) (n:List Int):List UInt8:=if (doW k M n).2.1=0 then (doW k M n).1 else W2 (doW k M n).2.1.toNat
theorem Zk3 {ns:List Int} {s:List UInt8} (h:lineM Xu ns=some s) (o:Option Wm):Q6 o s=match Ym ns with
  | none=>([111,107],some (Ve ns))
  | some e=>(if (e:Int)=0 then [111,107] else W2 e,o):=by
 obtain ⟨-,hw,hc⟩:=Zrg h
 rcases hc with ⟨-,hr⟩|⟨h1,-⟩
 ·unfold Q6 Zah Za3
  rw [hw]
  simp only [List.headD_cons,List.tail_cons,if_pos,hr]
  cases Ym ns with
  | none=>rfl
  | some e=>simp
 ·exact absurd rfl h1
theorem Zsw {w:List UInt8} {ns:List Int} {s:List UInt8} (h:lineM w ns=some s) (hs:w≠Xu) : ∃ k,k<18∧w=(cmdT.getD k ([],[],0)).1∧ns.length=(Y9 k).length∧(∀ x∈ns,0≤x∧x≤99999) ∧
  (∀ M,Q6 (some M) s=(Zh3 k M ns,some (doW k M ns).2.2))∧Q6 none s=(W2 4,none):=by
 obtain ⟨hx,hw,hc⟩:=Zrg h
 rcases hc with ⟨h1,-⟩|⟨-,k,k18,hwk,hf,hl,hr⟩
 ·exact absurd h1 hs
 refine ⟨k,k18,hwk,hl,hx,fun M=>?_,?_⟩
 ·unfold Q6 Zah Za3 Zh3
  rw [hw]
  simp only [List.headD_cons,List.tail_cons,if_neg hs,hf,hr]
 ·unfold Q6 Zah Za3
  rw [hw]
  simp only [List.headD_cons,List.tail_cons,if_neg hs,hf,hr]
  rfl
theorem Ztv (k:Nat) (M:Wm) (n:List Int) : ∃ x,(Y3 k M n).1=(Zxh M x).1:=by
 unfold Y3
 split
 ·exact ⟨⟨[98,101,103,105,110],n.getD 0 0,n.getD 1 0,0⟩,rfl⟩
 ·exact ⟨⟨[114,101,102,117,115,101],n.getD 0 0,n.getD 1 0,0⟩,rfl⟩
 ·exact ⟨⟨[116,105,99,107],n.getD 0 0,0,0⟩,rfl⟩
 ·exact ⟨⟨[],0,0,n.getD 0 0⟩,rfl⟩
 ·exact ⟨⟨[100,114,111,112],0,0,n.getD 0 0⟩,rfl⟩
 ·exact ⟨⟨[116,119,105,99,101],0,0,n.getD 0 0⟩,rfl⟩
 ·exact ⟨⟨[108,105,110,107],n.getD 0 0,n.getD 1 0,0⟩,rfl⟩
 ·exact ⟨⟨[98,114,101,97,107],n.getD 0 0,n.getD 1 0,0⟩,rfl⟩
 ·exact ⟨⟨[99,117,116],n.getD 0 0,0,n.getD 1 0⟩,rfl⟩
 ·exact ⟨⟨[100,111,119,110],n.getD 0 0,0,0⟩,rfl⟩
 ·exact ⟨⟨[117,112],n.getD 0 0,0,0⟩,rfl⟩
theorem Bnd.all : ∀ (k:Nat) {M:Wm} {P N:Int},Bnd M P N→WI M→Bnd (Ue k M).1 P (N+k)
 | 0,M,P,N,h,_=>h.mono (by omega) (by simp)
 | k+1,M,P,N,h,hI=>by
  have h1:=h.deliver hI 0
  rw [Zdj]
  split
  ·exact (Bnd.all k h1 (Qg hI 0).wi).mono (by omega) (by push_cast;omega)
  ·exact h1.mono (by omega) (by push_cast;omega)
theorem Bnd.doW {M:Wm} {P N:Int} (h:Bnd M P N) (hI:WI M) (k:Nat) (n:List Int):Bnd (doW k M n).2.2 (P+42) (N+3006):=by
 have hm:=h.mono (P':=P+42) (N':=N+3006) (by omega) (by omega)
 unfold HL.doW
 split
 ·obtain ⟨x,e⟩:=Ztv k M n
  rw [e]
  exact (h.act hI x).mono (by omega) (by omega)
 ·split
  ·exact (h.all 3000 hI).mono (by omega) (by omega)
  all_goals exact hm
def BndO (o:Option Wm) (i:Nat):Prop := ∀ M,o=some M→WI M∧EvW M∧M.l.length≤252000*i∧Bnd M (42*i) (3006*i)
theorem BndO.new {w:List Int} (hc:Ym w=none) (i:Nat):BndO (some (Ve w)) i:=fun M hM=>by
 cases hM
 exact ⟨Zuo hc,ev_new w,by show ([]:List Fr).length≤_;simp,(bnd_new hc).mono (by omega) (by omega)⟩
theorem BndO.mono {o:Option Wm} {i j:Nat} (h:BndO o i) (hj:i≤j):BndO o j:=fun M hM=>by
 obtain ⟨a,b,c,d⟩:=h M hM
 exact ⟨a,b,by omega,d.mono (by omega) (by omega)⟩
theorem BndO.do {M:Wm} {i:Nat} (h:BndO (some M) i) (k:Nat) {n:List Int} (hn : ∀ x∈n,0≤x∧x≤99999):BndO (some (HL.doW k M n).2.2) (i+1):=fun M' hM=>by
 cases hM
 obtain ⟨a,b,c,d⟩:=h M rfl
 obtain ⟨h1,h2⟩:=Ztz a b k n (Zob hn)
 exact ⟨h1.wi,h2,by have:=h1.len;omega,(d.doW a k n).mono (by push_cast;omega) (by push_cast;omega)⟩
end Go.HL
end

/-! ScO -/
section
namespace Go.HL
open Go Go.Proofs
def Zuv (c:Int):List UInt8:=if c=0 then [111,107] else W2 c.toNat
theorem ans_act {k:Nat} (h:k<11) (M:Wm) (n:List Int):Zh3 k M n=Zuv (cdN (Y3 k M n).2)∧(doW k M n).2.2=(Y3 k M n).1:=by
 unfold Zh3 doW
 rw [if_pos h]
 exact ⟨rfl,rfl⟩
theorem Zib {e:Option Nat} (h:Zz3 e):0≤cdN e∧cdN e≤9:=by
 cases e with
 | none=>exact ⟨Int.le_refl _,by decide⟩
 | some c =>
  have:=List.elem_iff.1 (show List.elem c all9=true from h)
  simp [all9] at this
  show 0≤(c:Int)∧(c:Int)≤9
  omega
set_option maxHeartbeats 2000000 attribute [local irreducible] HW HO HQ HD HC QOp Has Upd Zt Gets Z8 Z0 Zo Xm Zz Zj Xp Zy
theorem Zey (c:Int) (L:Zb) (h0:0≤c) (h9:c≤9):HC Tryz.prog 8 [iv c] L (fun v L'=>v=bs (Zuv c)∧L'=L):=by
 unfold Zuv
 by_cases h:c=0
 ·subst h
  simp only [if_pos]
  refine Za (fun _ _=>Tryz.call8 _ _) Tryz.func8 rfl Tryz.ntmps8 (Nat.le_of_ble_eq_true rfl) ?_;simp only [Zd,Nat.reduceAdd]
  repeat' (first|refine uN ?_|(refine uP ?_ ?_<;>(intro h;((try simp only [zs,zq,reduceCtorEq] at h);try exact zx)))|fail)
  exact Um rfl ⟨rfl,rfl⟩
 ·rw [if_neg h]
  have ke:=Vc c L (by omega) h9
  refine Za (fun _ _=>Tryz.call8 _ _) Tryz.func8 rfl Tryz.ntmps8 (Nat.le_of_ble_eq_true rfl) ?_;simp only [Zd,Nat.reduceAdd]
  repeat' (first|refine uN ?_|refine uC (ke) ?_|(refine uP ?_ ?_<;>(intro h;((try simp only [zs,zq,reduceCtorEq] at h);try exact zx)))|fail)
  all_goals first|(exfalso;omega)|exact Um rfl ⟨rfl,rfl⟩
theorem Zf5 (p:Int) (h0:0≤p) (h1:p<6) (L:Zb):HC Tryz.prog 27 [iv p] L (fun v L'=>v=bs (Zz1 p)∧L'=L):=by
 rw [Zz1,if_neg (by omega)]
 rcases (show p=0∨p=1∨p=2∨p=3∨p=4∨p=5 by omega) with rfl|rfl|rfl|rfl|rfl|rfl
 all_goals
  refine Za (fun _ _=>Tryz.call27 _ _) Tryz.func27 rfl Tryz.ntmps27 (Nat.le_of_ble_eq_true rfl) ?_;simp only [Zd,Nat.reduceAdd]
  repeat' (first|refine uN ?_|(refine uB ?_;intro b)|fail)
 all_goals exact Z9 (L':=L) (LS.c (LS.refl _)) ⟨rfl,rfl⟩
attribute [local irreducible] Q3 Uc Ya Wv Wo Qp Vw V8 Zct Qo Zpo Zuv
section
variable (D:RwG) (M:Wm) (a:Option Addr) (cap:Nat) (ns:List Int) (X:Zb)
set_option maxRecDepth 20000 in
theorem Zli (k:Nat) (hk:k<11) (hRw:Rd ic 1 X D.aw M.w) (hD:RwOk D M) (hM:WI M) (hl:M.l.length≤99000000) (hnum : ∀ s,Zco M s=none → ∀ k j ref,k<6→(Zf (Wg s M k).1 s).site=some (j,ref)→(j.l.getD k Zm).n+1<4294967296)
  (hR:Rd ic 1 X a ns) (hn:ns.length=(Y9 k).length) (hcap:ns.length≤cap) :
  HC Tryz.prog 10 [pt D.wp 0,.agg ⟨[bs (cmdT.getD k ([],[],0)).1,.slice a ns.length cap]⟩] (Q3 D M::X) (fun v L'=>v=bs (Zh3 k M ns)∧RwQ D (doW k M ns).2.2 X L'):=by
 obtain ⟨e1,e2⟩:=ans_act hk M ns
 rw [e1,e2]
 clear e1 e2
 have kO:=fun L=>Zey (cdN (Y3 k M ns).2) L (Zib (Zn0 k M ns).ok).1 (Zib (Zn0 k M ns).ok).2
 have hcase:k=0∨k=1∨k=2∨k=3∨k=4∨k=5∨k=6∨k=7∨k=8∨k=9∨k=10:=by omega
 have h1:1≤ns.length:=by rw [hn];rcases hcase with rfl|rfl|rfl|rfl|rfl|rfl|rfl|rfl|rfl|rfl|rfl<;>decide
 obtain ⟨b1,i1,q1,F1,f1,rfl,hb1,hg1,hg2⟩:=Zpx hR h1
 have hb1:=(Zc hb1:Has (Q3 D M::X) _ _)
 rcases hcase with rfl|rfl|rfl|rfl|rfl|rfl|rfl|rfl|rfl|rfl|rfl
 ·have d:=fun L (hL:Rd ic 1 L D.aw M.w)=>HC.shutD (M':=(Y3 0 M ns).1) (V:=fun v=>v=iv (cdN (Y3 0 M ns).2)) (Zo1 D M (ns.getD 0 0) (ns.getD 1 0) L hD hM (by omega))
  have hn:ns.length=2:=hn
  have hg2:=hg2 (by omega)
  generalize Y3 0 M ns=R at *
  rw [show (cmdT.getD 0 ([],[],0)).1=[98,101,103,105,110] from rfl]
  refine Za (fun _ _=>Tryz.call10 _ _) Tryz.func10 rfl Tryz.ntmps10 (Nat.le_of_ble_eq_true rfl) ?_;simp only [Zd,Nat.reduceAdd]
  repeat' (first|refine uN ?_|refine Zu S ?_|(refine uB ?_;intro b)|(refine uP ?_ ?_<;>(intro h;((try simp only [zs,zq,reduceCtorEq] at h);try exact zx)))|refine da 101 ?_|fail)
  refine fo 1 ?_
  refine gc (d _ (hRw.cons _)) ?_
  rintro v L' ⟨rfl,D2,f2,hD2,rfl⟩
  repeat' (first|refine uN ?_|refine Zu S ?_|refine uC (kO _) ?_|refine Yb (fun _=>kO _) ?_|refine Yc (fun _=>kO _) ?_|refine Yd (fun _=>kO _) ?_|refine Ye (fun _=>kO _) ?_|(refine uB ?_;intro b)|(refine uP ?_ ?_<;>(intro h;((try simp only [zs,zq,reduceCtorEq] at h);try exact zx)))|refine da 101 ?_|fail)
  exact Z9 uL ⟨rfl,D2,f2,hD2,rfl⟩
 ·have d:=fun L (hL:Rd ic 1 L D.aw M.w)=>HC.shutD (M':=(Y3 1 M ns).1) (V:=fun v=>v=iv (cdN (Y3 1 M ns).2)) (Zlx D M (ns.getD 0 0) (ns.getD 1 0) L hD hM)
  have hn:ns.length=2:=hn
  have hg2:=hg2 (by omega)
  generalize Y3 1 M ns=R at *
  rw [show (cmdT.getD 1 ([],[],0)).1=[114,101,102,117,115,101] from rfl]
  refine Za (fun _ _=>Tryz.call10 _ _) Tryz.func10 rfl Tryz.ntmps10 (Nat.le_of_ble_eq_true rfl) ?_;simp only [Zd,Nat.reduceAdd]
  repeat' (first|refine uN ?_|refine Zu S ?_|(refine uB ?_;intro b)|(refine uP ?_ ?_<;>(intro h;((try simp only [zs,zq,reduceCtorEq] at h);try exact zx)))|refine da 101 ?_|fail)
  refine fo 1 ?_
  refine gc (d _ (hRw.cons _)) ?_
  rintro v L' ⟨rfl,D2,f2,hD2,rfl⟩
  repeat' (first|refine uN ?_|refine Zu S ?_|refine uC (kO _) ?_|refine Yb (fun _=>kO _) ?_|refine Yc (fun _=>kO _) ?_|refine Yd (fun _=>kO _) ?_|refine Ye (fun _=>kO _) ?_|(refine uB ?_;intro b)|(refine uP ?_ ?_<;>(intro h;((try simp only [zs,zq,reduceCtorEq] at h);try exact zx)))|refine da 101 ?_|fail)
  exact Z9 uL ⟨rfl,D2,f2,hD2,rfl⟩
 ·have d:=fun L (hL:Rd ic 1 L D.aw M.w)=>HC.shutD (M':=(Y3 2 M ns).1) (V:=fun v=>v=iv (cdN (Y3 2 M ns).2)) (Zsk D M (ns.getD 0 0) L hL hD hM (by omega) (hnum (ns.getD 0 0)))
  clear hg2
  generalize Y3 2 M ns=R at *
  rw [show (cmdT.getD 2 ([],[],0)).1=[116,105,99,107] from rfl]
  refine Za (fun _ _=>Tryz.call10 _ _) Tryz.func10 rfl Tryz.ntmps10 (Nat.le_of_ble_eq_true rfl) ?_;simp only [Zd,Nat.reduceAdd]
  repeat' (first|refine uN ?_|refine Zu S ?_|(refine uB ?_;intro b)|(refine uP ?_ ?_<;>(intro h;((try simp only [zs,zq,reduceCtorEq] at h);try exact zx)))|refine da 101 ?_|fail)
  refine fo 1 ?_
  refine gc (d _ (hRw.cons _)) ?_
  rintro v L' ⟨rfl,D2,f2,hD2,rfl⟩
  repeat' (first|refine uN ?_|refine Zu S ?_|refine uC (kO _) ?_|refine Yb (fun _=>kO _) ?_|refine Yc (fun _=>kO _) ?_|refine Yd (fun _=>kO _) ?_|refine Ye (fun _=>kO _) ?_|(refine uB ?_;intro b)|(refine uP ?_ ?_<;>(intro h;((try simp only [zs,zq,reduceCtorEq] at h);try exact zx)))|refine da 101 ?_|fail)
  exact Z9 uL ⟨rfl,D2,f2,hD2,rfl⟩
 ·have d:=fun L (hL:Rd ic 1 L D.aw M.w)=>HC.shutD (M':=(Y3 3 M ns).1) (V:=fun v=>v=iv (cdN (Y3 3 M ns).2)) (Zc9 D M (ns.getD 0 0) L hL hD hM (by omega))
  clear hg2
  generalize Y3 3 M ns=R at *
  rw [show (cmdT.getD 3 ([],[],0)).1=[103,111] from rfl]
  refine Za (fun _ _=>Tryz.call10 _ _) Tryz.func10 rfl Tryz.ntmps10 (Nat.le_of_ble_eq_true rfl) ?_;simp only [Zd,Nat.reduceAdd]
  repeat' (first|refine uN ?_|refine Zu S ?_|(refine uB ?_;intro b)|(refine uP ?_ ?_<;>(intro h;((try simp only [zs,zq,reduceCtorEq] at h);try exact zx)))|refine da 101 ?_|fail)
  refine fo 1 ?_
  refine gc (d _ (hRw.cons _)) ?_
  rintro v L' ⟨rfl,D2,f2,hD2,rfl⟩
  repeat' (first|refine uN ?_|refine Zu S ?_|refine uC (kO _) ?_|refine Yb (fun _=>kO _) ?_|refine Yc (fun _=>kO _) ?_|refine Yd (fun _=>kO _) ?_|refine Ye (fun _=>kO _) ?_|(refine uB ?_;intro b)|(refine uP ?_ ?_<;>(intro h;((try simp only [zs,zq,reduceCtorEq] at h);try exact zx)))|refine da 101 ?_|fail)
  exact Z9 uL ⟨rfl,D2,f2,hD2,rfl⟩
 ·have d:=fun L (hL:Rd ic 1 L D.aw M.w)=>HC.shutD (M':=(Y3 4 M ns).1) (V:=fun v=>v=iv (cdN (Y3 4 M ns).2)) (Zsc D M (ns.getD 0 0) L hD (by omega))
  clear hg2
  generalize Y3 4 M ns=R at *
  rw [show (cmdT.getD 4 ([],[],0)).1=[108,111,115,101] from rfl]
  refine Za (fun _ _=>Tryz.call10 _ _) Tryz.func10 rfl Tryz.ntmps10 (Nat.le_of_ble_eq_true rfl) ?_;simp only [Zd,Nat.reduceAdd]
  repeat' (first|refine uN ?_|refine Zu S ?_|(refine uB ?_;intro b)|(refine uP ?_ ?_<;>(intro h;((try simp only [zs,zq,reduceCtorEq] at h);try exact zx)))|refine da 101 ?_|fail)
  refine fo 1 ?_
  refine gc (d _ (hRw.cons _)) ?_
  rintro v L' ⟨rfl,D2,f2,hD2,rfl⟩
  repeat' (first|refine uN ?_|refine Zu S ?_|refine uC (kO _) ?_|refine Yb (fun _=>kO _) ?_|refine Yc (fun _=>kO _) ?_|refine Yd (fun _=>kO _) ?_|refine Ye (fun _=>kO _) ?_|(refine uB ?_;intro b)|(refine uP ?_ ?_<;>(intro h;((try simp only [zs,zq,reduceCtorEq] at h);try exact zx)))|refine da 101 ?_|fail)
  exact Z9 uL ⟨rfl,D2,f2,hD2,rfl⟩
 ·have d:=fun L (hL:Rd ic 1 L D.aw M.w)=>HC.shutD (M':=(Y3 5 M ns).1) (V:=fun v=>v=iv (cdN (Y3 5 M ns).2)) (Zpe D M (ns.getD 0 0) L hD (by omega))
  clear hg2
  generalize Y3 5 M ns=R at *
  rw [show (cmdT.getD 5 ([],[],0)).1=[116,119,105,99,101] from rfl]
  refine Za (fun _ _=>Tryz.call10 _ _) Tryz.func10 rfl Tryz.ntmps10 (Nat.le_of_ble_eq_true rfl) ?_;simp only [Zd,Nat.reduceAdd]
  repeat' (first|refine uN ?_|refine Zu S ?_|(refine uB ?_;intro b)|(refine uP ?_ ?_<;>(intro h;((try simp only [zs,zq,reduceCtorEq] at h);try exact zx)))|refine da 101 ?_|fail)
  refine fo 1 ?_
  refine gc (d _ (hRw.cons _)) ?_
  rintro v L' ⟨rfl,D2,f2,hD2,rfl⟩
  repeat' (first|refine uN ?_|refine Zu S ?_|refine uC (kO _) ?_|refine Yb (fun _=>kO _) ?_|refine Yc (fun _=>kO _) ?_|refine Yd (fun _=>kO _) ?_|refine Ye (fun _=>kO _) ?_|(refine uB ?_;intro b)|(refine uP ?_ ?_<;>(intro h;((try simp only [zs,zq,reduceCtorEq] at h);try exact zx)))|refine da 101 ?_|fail)
  exact Z9 uL ⟨rfl,D2,f2,hD2,rfl⟩
 ·have d:=fun L (hL:Rd ic 1 L D.aw M.w)=>HC.shutD (M':=(Y3 6 M ns).1) (V:=fun v=>v=iv (cdN (Y3 6 M ns).2)) (Zhq D M (ns.getD 0 0) (ns.getD 1 0) true L hD hM)
  have hn:ns.length=2:=hn
  have hg2:=hg2 (by omega)
  generalize Y3 6 M ns=R at *
  rw [show (cmdT.getD 6 ([],[],0)).1=[108,105,110,107] from rfl]
  refine Za (fun _ _=>Tryz.call10 _ _) Tryz.func10 rfl Tryz.ntmps10 (Nat.le_of_ble_eq_true rfl) ?_;simp only [Zd,Nat.reduceAdd]
  repeat' (first|refine uN ?_|refine Zu S ?_|(refine uB ?_;intro b)|(refine uP ?_ ?_<;>(intro h;((try simp only [zs,zq,reduceCtorEq] at h);try exact zx)))|refine da 101 ?_|fail)
  refine fo 1 ?_
  refine gc (d _ (hRw.cons _)) ?_
  rintro v L' ⟨rfl,D2,f2,hD2,rfl⟩
  repeat' (first|refine uN ?_|refine Zu S ?_|refine uC (kO _) ?_|refine Yb (fun _=>kO _) ?_|refine Yc (fun _=>kO _) ?_|refine Yd (fun _=>kO _) ?_|refine Ye (fun _=>kO _) ?_|(refine uB ?_;intro b)|(refine uP ?_ ?_<;>(intro h;((try simp only [zs,zq,reduceCtorEq] at h);try exact zx)))|refine da 101 ?_|fail)
  exact Z9 uL ⟨rfl,D2,f2,hD2,rfl⟩
 ·have d:=fun L (hL:Rd ic 1 L D.aw M.w)=>HC.shutD (M':=(Y3 7 M ns).1) (V:=fun v=>v=iv (cdN (Y3 7 M ns).2)) (Zhq D M (ns.getD 0 0) (ns.getD 1 0) false L hD hM)
  have hn:ns.length=2:=hn
  have hg2:=hg2 (by omega)
  generalize Y3 7 M ns=R at *
  rw [show (cmdT.getD 7 ([],[],0)).1=[98,114,101,97,107] from rfl]
  refine Za (fun _ _=>Tryz.call10 _ _) Tryz.func10 rfl Tryz.ntmps10 (Nat.le_of_ble_eq_true rfl) ?_;simp only [Zd,Nat.reduceAdd]
  repeat' (first|refine uN ?_|refine Zu S ?_|(refine uB ?_;intro b)|(refine uP ?_ ?_<;>(intro h;((try simp only [zs,zq,reduceCtorEq] at h);try exact zx)))|refine da 101 ?_|fail)
  refine fo 1 ?_
  refine gc (d _ (hRw.cons _)) ?_
  rintro v L' ⟨rfl,D2,f2,hD2,rfl⟩
  repeat' (first|refine uN ?_|refine Zu S ?_|refine uC (kO _) ?_|refine Yb (fun _=>kO _) ?_|refine Yc (fun _=>kO _) ?_|refine Yd (fun _=>kO _) ?_|refine Ye (fun _=>kO _) ?_|(refine uB ?_;intro b)|(refine uP ?_ ?_<;>(intro h;((try simp only [zs,zq,reduceCtorEq] at h);try exact zx)))|refine da 101 ?_|fail)
  exact Z9 uL ⟨rfl,D2,f2,hD2,rfl⟩
 ·have d:=fun L (hL:Rd ic 1 L D.aw M.w)=>HC.shutD (M':=(Y3 8 M ns).1) (V:=fun v=>v=iv (cdN (Y3 8 M ns).2)) (Zso D M (ns.getD 0 0) (ns.getD 1 0) L hD hM)
  have hn:ns.length=2:=hn
  have hg2:=hg2 (by omega)
  generalize Y3 8 M ns=R at *
  rw [show (cmdT.getD 8 ([],[],0)).1=[99,117,116] from rfl]
  refine Za (fun _ _=>Tryz.call10 _ _) Tryz.func10 rfl Tryz.ntmps10 (Nat.le_of_ble_eq_true rfl) ?_;simp only [Zd,Nat.reduceAdd]
  repeat' (first|refine uN ?_|refine Zu S ?_|(refine uB ?_;intro b)|(refine uP ?_ ?_<;>(intro h;((try simp only [zs,zq,reduceCtorEq] at h);try exact zx)))|refine da 101 ?_|fail)
  refine fo 1 ?_
  refine gc (d _ (hRw.cons _)) ?_
  rintro v L' ⟨rfl,D2,f2,hD2,rfl⟩
  repeat' (first|refine uN ?_|refine Zu S ?_|refine uC (kO _) ?_|refine Yb (fun _=>kO _) ?_|refine Yc (fun _=>kO _) ?_|refine Yd (fun _=>kO _) ?_|refine Ye (fun _=>kO _) ?_|(refine uB ?_;intro b)|(refine uP ?_ ?_<;>(intro h;((try simp only [zs,zq,reduceCtorEq] at h);try exact zx)))|refine da 101 ?_|fail)
  exact Z9 uL ⟨rfl,D2,f2,hD2,rfl⟩
 ·have d:=fun L (hL:Rd ic 1 L D.aw M.w)=>HC.shutD (M':=(Y3 9 M ns).1) (V:=fun v=>v=iv (cdN (Y3 9 M ns).2)) (Zsb D M (ns.getD 0 0) L hD hM)
  clear hg2
  generalize Y3 9 M ns=R at *
  rw [show (cmdT.getD 9 ([],[],0)).1=[100,111,119,110] from rfl]
  refine Za (fun _ _=>Tryz.call10 _ _) Tryz.func10 rfl Tryz.ntmps10 (Nat.le_of_ble_eq_true rfl) ?_;simp only [Zd,Nat.reduceAdd]
  repeat' (first|refine uN ?_|refine Zu S ?_|(refine uB ?_;intro b)|(refine uP ?_ ?_<;>(intro h;((try simp only [zs,zq,reduceCtorEq] at h);try exact zx)))|refine da 101 ?_|fail)
  refine fo 1 ?_
  refine gc (d _ (hRw.cons _)) ?_
  rintro v L' ⟨rfl,D2,f2,hD2,rfl⟩
  repeat' (first|refine uN ?_|refine Zu S ?_|refine uC (kO _) ?_|refine Yb (fun _=>kO _) ?_|refine Yc (fun _=>kO _) ?_|refine Yd (fun _=>kO _) ?_|refine Ye (fun _=>kO _) ?_|(refine uB ?_;intro b)|(refine uP ?_ ?_<;>(intro h;((try simp only [zs,zq,reduceCtorEq] at h);try exact zx)))|refine da 101 ?_|fail)
  exact Z9 uL ⟨rfl,D2,f2,hD2,rfl⟩
 ·have d:=fun L (hL:Rd ic 1 L D.aw M.w)=>HC.shutD (M':=(Y3 10 M ns).1) (V:=fun v=>v=iv (cdN (Y3 10 M ns).2)) (Zvf D M (ns.getD 0 0) L hD hM)
  clear hg2
  generalize Y3 10 M ns=R at *
  rw [show (cmdT.getD 10 ([],[],0)).1=[117,112] from rfl]
  refine Za (fun _ _=>Tryz.call10 _ _) Tryz.func10 rfl Tryz.ntmps10 (Nat.le_of_ble_eq_true rfl) ?_;simp only [Zd,Nat.reduceAdd]
  repeat' (first|refine uN ?_|refine Zu S ?_|(refine uB ?_;intro b)|(refine uP ?_ ?_<;>(intro h;((try simp only [zs,zq,reduceCtorEq] at h);try exact zx)))|refine da 101 ?_|fail)
  refine fo 1 ?_
  refine gc (d _ (hRw.cons _)) ?_
  rintro v L' ⟨rfl,D2,f2,hD2,rfl⟩
  repeat' (first|refine uN ?_|refine Zu S ?_|refine uC (kO _) ?_|refine Yb (fun _=>kO _) ?_|refine Yc (fun _=>kO _) ?_|refine Yd (fun _=>kO _) ?_|refine Ye (fun _=>kO _) ?_|(refine uB ?_;intro b)|(refine uP ?_ ?_<;>(intro h;((try simp only [zs,zq,reduceCtorEq] at h);try exact zx)))|refine da 101 ?_|fail)
  exact Z9 uL ⟨rfl,D2,f2,hD2,rfl⟩
end
end Go.HL
end
