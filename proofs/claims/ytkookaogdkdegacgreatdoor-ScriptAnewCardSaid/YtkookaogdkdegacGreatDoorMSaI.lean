/- Texts laid into one, without what the claim does not use. Conditions: none. -/
import Derived.Test.YtkookaogdkdegacGreatDoorMSaG
import Derived.Shelf.Vars
import Derived.LaidSub
import Derived.ChangeSame
set_option linter.unusedVariables false
set_option linter.unusedSimpArgs false
/-! HLOpen -/
section
namespace Go.HL
open Go Go.ChangeShapes Go.WideShapes Go.ChangeAt Go.RowKit

def kFs (P:Program) (g:Nat→Option (List Nat)):List Field→Nat→Option (List Nat)
 | [],_=>some []
 | f::r,off=>match g f.type with
  | some l=>if f.offset=off∧P.cellsOf f.type=l.length then (match kFs P g r (off+l.length) with
   | some m=>some (l++m)
   | none=>none) else none
  | none=>none
def kT (P:Program):Nat→Nat→Option (List Nat)
 | 0,_=>none
 | d+1,t=>match P.underlying t with
  | some .bool=>some [8]
  | some (.int k)=>some [Zae k]
  | some .string=>some [9]
  | some (.struct fs)=>(match kFs P (kT P d) fs.toList 0 with
   | some l=>if P.cellsOf t=l.length then some l else none
   | none=>none)
  | _=>none
def fitV:Nat→Value→Prop
 | 8,.bool _=>True
 | 9,.string s=>s.size≤9223372036854775807
 | k,.int k' n=>Zae k'=k∧loE k'≤n∧n≤Q5 k'
 | _,_=>False
def FitK:List Nat→List Value→Prop
 | [],[]=>True
 | k::l,v::cs=>fitV k v∧FitK l cs
 | _,_=>False
theorem FitK.append : ∀ {a b:List Nat} {cs:List Value},FitK a (cs.take a.length)→FitK b (cs.drop a.length)→FitK (a++b) cs
 | [],b,cs,_,h=>by simpa using h
 | k::a,b,[],h,_=>by simp [FitK] at h
 | k::a,b,v::cs,h,h2=>⟨h.1,FitK.append h.2 (by simpa using h2)⟩
theorem lit_wf {k:IntKind} {n:Int} (h:(Lit.int k n).wf=true):loE k≤n∧n≤Q5 k:=by
 cases k<;>simpa [Lit.wf,IntKind.min,IntKind.max,IntKind.signed,IntKind.bits,loE,Q5] using h
theorem Zpx {H:Type} {enc:TypeId × Value→H} {P:Program} {W:World} {base:Nat} {spare:Nat→Bool} {held:Bool} : ∀ (d t:Nat) (l:List Nat) (n:Nat) (cs:List Value) (x:DataW H × List MemPlace),kT P d t=some l→DataW.trod enc P W base spare held n t cs=some x→FitK l cs
 | 0,t,l,n,cs,x,h,_=>by simp [kT] at h
 | d + 1, t,l,n,cs,x,h,hx=>by
  unfold kT at h
  split at h
  ·rename_i hu
   cases h
   obtain ⟨b,rfl,-⟩:=DataW.trod_bool hu hx
   simp [FitK,fitV]
  ·rename_i k hu
   cases h
   obtain ⟨z,rfl,-,hw⟩:=DataW.trod_int hu hx
   have:=lit_wf hw
   refine ⟨?_,trivial⟩
   cases k<;>simp [fitV,Zae,loE,Q5] at this ⊢ <;> exact this
  ·rename_i hu
   cases h
   obtain ⟨s,rfl,-,hs⟩:=DataW.trod_string hu hx
   exact ⟨Nat.le_trans hs (by decide),trivial⟩
  ·rename_i fs hu
   split at h
   ·rename_i l' hl
    split at h
    ·rename_i hc
     cases h
     obtain ⟨xs,m,-,-,hlen,hxl,hf⟩:=DataW.trod_struct hu hx
     rw [hc] at hlen
     have key : ∀ (fl:List Field) (j off:Nat) (l2:List Nat),(∀ i f,fl[i]? = some f→fs[j+i]? = some f)→kFs P (kT P d) fl off=some l2→off+l2.length=cs.length→FitK l2 (cs.drop off):=by
      intro fl
      induction fl with
      | nil =>
       intro j off l2 _ h2 ho
       simp [kFs] at h2
       subst h2
       simp at ho
       rw [List.drop_of_length_le (by omega)]
       trivial
      | cons f fl ih =>
       intro j off l2 hi h2 ho
       simp only [kFs] at h2
       split at h2
       ·rename_i lf hlf
        split at h2
        ·rename_i hco
         split at h2
         ·rename_i lr hlr
          cases h2
          obtain ⟨e1,e2⟩:=hco
          have h0:=hi 0 f rfl
          have hxs : ∃ y,xs[j]? = some y:=by
           have:j<fs.size:=(Array.getElem?_eq_some_iff.1 (by simpa using h0)).1
           exact ⟨_,List.getElem?_eq_getElem (by omega)⟩
          obtain ⟨y,hy⟩:=hxs
          have h3:=hf j f (by simpa using h0)
          rw [hy,e2] at h3
          subst e1
          have h4:=Zpx d f.type lf m _ _ hlf h3
          refine FitK.append (by simpa using h4) ?_
          rw [List.drop_drop]
          exact ih (j+1) _ lr (fun i g hg=>by have:=hi (i+1) g (by simpa using hg);rwa [show j+1+i=j+(i+1) by omega]) hlr (by simp at ho;omega)
         ·cases h2
        ·cases h2
       ·cases h2
     have:=key fs.toList 0 0 l (fun i f hif=>by simpa using hif) hl (by omega)
     simpa using this
    ·cases h
   ·cases h
  ·cases h
theorem Zrj (k:IntKind):Zae k<8:=by cases k<;>decide
theorem fitT {l:List Nat} {cs:List Value} (h:FitK (9::l) cs) : ∃ s r,cs=bs s::r∧s.length≤9223372036854775807∧FitK l r:=by
 match cs with
 | []=>simp [FitK] at h
 | v::r =>
  obtain ⟨h1,h2⟩:=h
  cases v<;>simp [fitV] at h1
  ·rename_i k n;have:=Zrj k;omega
  rename_i s
  obtain ⟨⟨s⟩⟩:=s
  exact ⟨s,r,rfl,by simpa [ByteArray.size] using h1,h2⟩
theorem fit0 {cs:List Value} (h:FitK [] cs):cs=[]:=by
 match cs with
 | []=>rfl
 | v::r=>simp [FitK] at h
end Go.HL
end

/-! CdFr -/
section
namespace Go.HL
open Go Go.Proofs Go.ChangeShapes Go.WideShapes Go.ChangeAt Go.RowKit
def okI (z:Int):Prop := -9223372036854775808≤z∧z≤9223372036854775807
theorem open_ic {H:Type} {enc:TypeId × Value→H} {W:World} {base:Nat} {spare:Nat→Bool} {held:Bool} (n:Nat) (cs:List Value) (x:DataW H × List MemPlace) (h:DataW.trod enc Tryz.prog W base spare held n 3 cs=some x) :
  ∃ z:Int,cs=ic z∧okI z:=by
 obtain ⟨z,e,-,hw⟩:=DataW.trod_int Tryz.underlying3 h
 exact ⟨z,e,by simpa [okI,Lit.wf,IntKind.min,IntKind.max,IntKind.signed,IntKind.bits] using hw⟩
end Go.HL
end

/-! LayC -/
section
namespace Go.HL
open Go Go.Proofs Go.ChangeShapes Go.WideShapes Go.ChangeAt Go.RowKit
def Zjb (n:String) (l:List (String × DataW Unit)):List (String × DataW Unit):=l.filter fun x=>x.1 == n
def errL (l:List (String × DataW Unit)):List (String × DataW Unit):=l.filter fun x=>(Zd6 [1,2,3,4,5,6,7,8,9]).any fun y=>y.1 == x.1
theorem Zni {W:World} {g:Nat} {v:Value} (h:W.cell? ⟨g,0,none⟩=some v):Gl [Vk W] g v:=by
 unfold World.cell? at h
 simp only at h
 split at h
 ·rename_i c E fr hh
  obtain ⟨c⟩:=c
  exact ⟨c,E,fr,V9 hh,by simpa using h⟩
 ·cases h
theorem Zma {W:World} {n:String} {text:List UInt8} {g:Nat} (h:laidMet Tryz.prog [(n,.iface "*errors.errorString" (.ptr (.agg [.lit (.string text)])))] W) (hg:Tryz.prog.globalNamed n=some g) (ht:(Tryz.prog.globals[g]?).map (·.type)=some 28) : ∃ t v,Gl [Vk W] g (.iface t v):=by
 obtain ⟨a,c,t,h1,-⟩:=Zfk h hg ht
 exact ⟨_,_,h1⟩
theorem sz_of {W:World} {l:List (String × DataW Unit)} {t1 t2:List UInt8} (h:laidMet Tryz.prog l W) (hsh:W.ShapedOpen Tryz.prog)
  (e1:Zjb "internal/strconv.uint64pow10" l=[("internal/strconv.uint64pow10",Lib.tabData .u64 Lib.pow10Tab)])
  (e2:Zjb "strconv.ErrRange" l=[("strconv.ErrRange",.iface "*errors.errorString" (.ptr (.agg [.lit (.string t1)])))])
  (e3:Zjb "strconv.ErrSyntax" l=[("strconv.ErrSyntax",.iface "*errors.errorString" (.ptr (.agg [.lit (.string t2)])))]):Sz [Vk W]:=by
 have h1:=h.filter fun x=>x.1 == "internal/strconv.uint64pow10"
 have h2:=h.filter fun x=>x.1 == "strconv.ErrRange"
 have h3:=h.filter fun x=>x.1 == "strconv.ErrSyntax"
 unfold Zjb at e1 e2 e3
 rw [e1] at h1
 rw [e2] at h2
 rw [e3] at h3
 refine ⟨?_,?_,?_,?_⟩
 ·obtain ⟨m,hm⟩:=cell_of_shapedOpen_int (P:=Tryz.prog) (g:=10) (zero := #[.int .i64 0]) (t:=3) hsh (of_decide_eq_true (by kernel_rfl)) (by kernel_rfl) rfl (by kernel_rfl) (by kernel_rfl) Tryz.underlying3
  exact ⟨m,Zni hm⟩
 ·have hg:Tryz.prog.globalNamed "internal/strconv.uint64pow10" = some 15:=by kernel_rfl
  have ht:=Lib.tabIs_of_head (t:=390) (e:=235) (n:=20) hg (by kernel_rfl) Tryz.underlying390 Tryz.underlying235 (by kernel_rfl) (by kernel_rfl) h1
  unfold Lib.TabIs World.var? at ht
  rw [hg] at ht
  simp only [Option.bind_some] at ht
  split at ht
  ·rename_i c E fr hh
   have e:=Option.some.inj ht
   subst e
   exact ⟨E,fr,V9 hh⟩
  ·cases ht
 ·exact Zma h3 (by kernel_rfl) (by kernel_rfl)
 ·exact Zma h2 (by kernel_rfl) (by kernel_rfl)
theorem est_of {W:World} (hs:laidMet Tryz.prog (Zd6 [1,2,3,4,5,6,8,9]) W) (hh:handlesMet Tryz.prog handL W) : ∃ E,Es 394 E [Vk W]∧Et E [Vk W]:=by
 obtain ⟨E,hG,hE⟩:=errs_of hs
 have hmem : ∀ c,List.elem c all8=true→c∈[1,2,3,4,5,6,8,9]:=fun c hc=>List.elem_iff.1 hc
 refine ⟨E,⟨rfl,hG,Zq6 hh⟩,fun c hc=>?_⟩
 obtain ⟨-,h1,-⟩:=hE c (hmem c hc)
 generalize E c=a at *
 obtain ⟨b,i,sp⟩:=a
 unfold World.cell? at h1
 simp only at h1
 split at h1
 ·rename_i cs T fr hh
  split at h1
  ·cases h1
  ·rename_i hsp
   cases sp with
   | some x=>simp at hsp
   | none =>
    obtain ⟨cs⟩:=cs
    exact ⟨b,i,cs,T,fr,rfl,V9 hh,by simpa using h1⟩
 ·cases h1
theorem open_sb {H:Type} {enc:TypeId × Value→H} {W:World} {base:Nat} {spare:Nat→Bool} {held:Bool} (n:Nat) (cs:List Value) (x:DataW H × List MemPlace) (h:DataW.trod enc Tryz.prog W base spare held n 9 cs=some x) : ∃ s:List UInt8,cs=V1 s∧s.length≤9223372036854775807:=by
 have h0:=Zpx 2 9 [9] n cs x (by kernel_rfl) h
 obtain ⟨s,r,rfl,hs,h1⟩:=fitT h0
 obtain rfl:=fit0 h1
 exact ⟨s,rfl,hs⟩
noncomputable def layS (os:Os) (l:List (String × DataW Unit)):World:=(w0H os).layVars Tryz.prog l
theorem layS_os (os:Os) (l:List (String × DataW Unit)):(layS os l).os=os:=World.layVars_os _ _ _
end Go.HL
end

/-! ScI -/
section
namespace Go.HL
open Go Go.Proofs
set_option maxHeartbeats 2000000 attribute [local irreducible] HW HO HQ HD HC QOp Has Upd Zo Gets Ye Z6 Zq X0 Z5 Zj X7 Zw
theorem Qz (a a2:Option Addr) (cap cap2:Nat) (xs ys:List (List UInt8)) (L:Zb) (hR:Rd V1 1 L a xs) (hR2:Rd V1 1 L a2 ys) (hl:xs.length≤1000000) :
  HC Tryz.prog 61 [.slice a xs.length cap,.slice a2 ys.length cap2] L (fun v L'=>v = .bool (decide (xs=ys))∧L'=L):=by
 refine Za (fun _ _=>Tryz.call61 _ _) Tryz.func61 rfl Tryz.ntmps61 (Nat.le_of_ble_eq_true rfl) ?_;simp only [Ze,Nat.reduceAdd]
 repeat' (first|refine uN ?_|refine Yd S ?_|(refine uP ?_ ?_<;>(intro h;((try simp only [zs,zq,reduceCtorEq] at h);try exact zx)))|fail)
 ·exact Xn (LS.refl _) ⟨by rw [decide_eq_false];intro e;subst e;exact absurd rfl ‹_›,rfl⟩
 refine Zz (σ:=Nat) (fun i=>[(0,.slice a xs.length cap),(1,.slice a2 ys.length cap2),(5,iv i)]) (fun _=>L) (fun i=>i≤xs.length∧xs.take i=ys.take i) (fun i=>xs.length-i) 0 uS (List.Sublist.refl _) ⟨by omega,by simp⟩ ?_
 rintro i ⟨h1,h2⟩
 by_cases hlt:i<xs.length
 ·obtain ⟨b,ia,l,E,fr,rfl,hb,hg⟩:=hR.at1 (j:=(i:Int)) (by omega) (by omega)
  obtain ⟨b2,ia2,l2,E2,fr2,rfl,hb2,hg2⟩:=hR2.at1 (j:=(i:Int)) (by omega) (by omega)
  repeat' (first|refine uN ?_|refine Yd S ?_|(refine uP ?_ ?_<;>(intro h;((try simp only [zs,zq,reduceCtorEq] at h);try exact zx)))|fail)
  ·refine Xn (LS.refl _) ⟨?_,rfl⟩
   rw [decide_eq_false]
   intro e
   subst e
   exact h rfl
  ·refine Zp (i+1) uS (List.Sublist.refl _) ⟨by omega,?_⟩ (by omega)
   rw [Zjs hlt (by omega)]
   exact ⟨h2,by simpa using h⟩
 ·repeat' (first|refine uN ?_|refine Yd S ?_|(refine uP ?_ ?_<;>(intro h;((try simp only [zs,zq,reduceCtorEq] at h);try exact zx)))|fail)
  refine Xn (LS.refl _) ⟨?_,rfl⟩
  rw [decide_eq_true]
  have e1:xs.take i=xs:=List.take_of_length_le (by omega)
  have e2:ys.take i=ys:=List.take_of_length_le (by omega)
  rw [← e1,h2,e2]
def helloL:List (List UInt8):=[[115,105,116,101,115,32,49,32,49],[98,101,103,105,110,32,48,32,51],[97,108,108],[115,116,97,116,101,32,49,32,51],[101,118,101,110,116,115]]
def Znn:List (List UInt8):=[[111,107],[111,107],[49,48],[99,111,109,109,105,116,116,101,100,32,48,32,48],[48,32,51,32,99,111,109,109,105,116,116,101,100,44,32,49,32,51,32,99,111,109,109,105,116,116,101,100]]
theorem Zra:U5 none helloL=Znn:=by kernel_rfl
theorem Zl6 {L:Zb} {b:Nat} {l:List (List UInt8)} {c:List Value} {F:Nat} {fr:Nat × Nat} (hb:Has L b (.cells ⟨c⟩ F fr)) (hc:c=(l.map V1).flatten):Rd V1 1 L (some ⟨b,0,none⟩) l := .inr ⟨b,0,c,F,fr,rfl,hb,fun k x hk=>by
 subst hc
 have:=Wa (enc:=V1) Xo l [] [] k x hk
 simpa using this⟩
theorem Zk2 (T:Nat) (E:Nat→Addr) (L:Zb) (hE:Es T E L) (hS:Sz L) (hX:Et E L):HC Tryz.prog 58 [] L (fun v L'=>v = .bool true∧L'=L):=by
 have kr:=fun b (q:List Value) F (hq:q=(helloL.map V1).flatten)=>Zge T E (some ⟨b,0,none⟩) 5 helloL ([(b,.cells ⟨q⟩ F)]::L) (hE.cons _) (hS.cons _) (hX.cons _) (Zl6 Zh hq) (by decide) (by decide) (by decide)
 simp only [if_neg (show ¬ 100<helloL.length by decide),Zra] at kr
 refine Za (fun _ _=>Tryz.call58 _ _) Tryz.func58 rfl Tryz.ntmps58 (Nat.le_of_ble_eq_true rfl) ?_;simp only [Ze,Nat.reduceAdd]
 repeat' (first|refine uN ?_|(refine uB ?_;intro b)|(refine uP ?_ ?_<;>(intro h;((try simp only [zs,zq,reduceCtorEq] at h);try exact zx)))|fail)
 refine gc (kr _ _ _ rfl) ?_
 rintro v L' ⟨c,u,rfl,hu,rfl⟩
 obtain ⟨a1,cap1,rfl,-,hR1⟩:=hu.rd Xo
 repeat' (first|refine uN ?_|(refine uB ?_;intro b)|(refine uP ?_ ?_<;>(intro h;((try simp only [zs,zq,reduceCtorEq] at h);try exact zx)))|fail)
 have ks:=fun L hR hR2=>Qz a1 (some ⟨b,0,none⟩) cap1 5 Znn Znn L hR hR2 (by decide)
 refine gc (ks _ ((hR1 _).cons _) (Zl6 Zh rfl)) ?_
 rintro v L' ⟨rfl,rfl⟩
 repeat' (first|refine uN ?_|(refine uB ?_;intro b)|(refine uP ?_ ?_<;>(intro h;((try simp only [zs,zq,reduceCtorEq] at h);try exact zx)))|fail)
 exact Xn (L':=L) uL ⟨by first|rfl|simp,rfl⟩
end Go.HL
end

/-! ScJ -/
section
namespace Go.HL
open Go Go.Proofs
def LsN (m:Nd):Prop := ∀ y,some y∈m.leads→y.state≠[]
def LsW (M:Wm):Prop := ∀ m∈M.n,LsN m
theorem LsN.none {m:Nd} (h:m.leads=Yn):LsN m:=fun y hy=>by
 rw [h] at hy
 simp [Yn] at hy
theorem LsN.lead {m:Nd} (h:LsN m) {d:Nat} {x:Ld} (hx:x.state≠[]) {m':Nd} (hm:m'.leads=m.leads.set d (some x)):LsN m':=fun y hy=>by
 rw [hm] at hy
 rcases List.mem_or_eq_of_mem_set hy with h2|h2
 ·exact h y h2
 ·cases h2;exact hx
theorem LsN.same {m m':Nd} (h:LsN m) (hm:m'.leads=m.leads):LsN m':=fun y hy=>h y (hm▸hy)
theorem LsW.at {M:Wm} (h:LsW M) (s:Int):LsN (Zf M s):=by
 unfold Zf
 rw [List.getD_eq_getElem?_getD]
 cases hg:M.n[s.toNat]? with
 | none=>exact fun y hy=>by simp at hy
 | some m=>exact h m (List.mem_of_getElem? hg)
theorem LsW.set {M:Wm} (h:LsW M) (s:Int) {m:Nd} (hm:LsN m):LsW (Xb M s m):=fun x hx=>by
 rcases List.mem_or_eq_of_mem_set hx with h2|h2
 ·exact h x h2
 ·rw [h2];exact hm
theorem LsW.n {M M':Wm} (h:LsW M) (hn:M'.n=M.n):LsW M':=fun x hx=>h x (hn▸hx)
theorem LsW.hear {M:Wm} (h:LsW M) (s:Int) (f:Fr):LsW (Y3 M s f).1:=by
 unfold Y3
 refine (h.set s (m:=(Xv s (Zf M s) M.ev f).1) ?_).n rfl
 unfold Xv
 split
 ·exact h.at s
 ·split
  ·exact LsN.none rfl
  ·exact (h.at s).same rfl
def X1 (w:List UInt8):List UInt8 × Bool:=if w=Xm then ([43],true) else match Vl w cmdT 0 with
 | some k=>(Ys k,true)
 | none=>([],false)
end Go.HL
end

/-! ScK -/
section
namespace Go.HL
open Go Go.Proofs
set_option maxHeartbeats 2000000 attribute [local irreducible] HW HO HQ HD HC QOp Has Upd Zo Gets Ye Z6 Zq X0 Z5 Zj X7 Zw
set_option maxRecDepth 20000 in
theorem Zix (w:List UInt8) (L:Zb):HC Tryz.prog 113 [bs w] L (fun v L'=>v = .tuple ⟨[bs (X1 w).1,.bool (X1 w).2]⟩∧L'=L):=by
 refine Za (fun _ _=>Tryz.call113 _ _) Tryz.func113 rfl Tryz.ntmps113 (Nat.le_of_ble_eq_true rfl) ?_;simp only [Ze,Nat.reduceAdd]
 repeat' (first|refine uN ?_|(refine uP ?_ ?_<;>(intro h;((try simp only [zs,zq,reduceCtorEq] at h);try exact zx)))|fail)
 all_goals first
  | (subst_vars;exact Zbj rfl ⟨rfl,rfl⟩)
  | (rw [show X1 w=([],false) by simp [X1,Vl,cmdT,actTab,lookTab,Xm, *]];exact Zbj rfl ⟨rfl,rfl⟩)
theorem u32 {c:UInt8} (h:(c.toNat:Int)=32):c=32:=by
 have:c.toNat=(32:UInt8).toNat:=by rw [show (32:UInt8).toNat=32 from rfl];omega
 exact UInt8.toNat_inj.1 this
attribute [local irreducible] Zcw Zaa U5 Zam X1
end Go.HL
end

/-! WrA -/
section
namespace Go.HL
open Go Go.Proofs
theorem u8_bt (n:Int) (k:Nat):u8 (bt n k) = .int .u8 (n / 2 ^ (8*k) % 256):=by
 unfold u8
 rw [Znb]
theorem u8_bt0 (n:Int):u8 (bt n 0) = .int .u8 (n % 256):=by
 rw [u8_bt];simp
set_option maxHeartbeats 2000000 attribute [local irreducible] HW HO HQ HD HC QOp Has Upd Zo Gets Ye Z6 Zq X0 Z5 Zj X7 Zw
theorem Zl4 (n:Int) (L:Zb):HC Tryz.prog 158 [iv n] L (fun v L'=>v=bs [bt n 0]∧L'=L):=by
 have e:([Value.int .u8 (n % 256)]:List Value)=[bt n 0].map u8:=by simp [u8_bt0]
 refine Za (fun _ _=>Tryz.call158 _ _) Tryz.func158 rfl Tryz.ntmps158 (Nat.le_of_ble_eq_true rfl) ?_;simp only [Ze,Nat.reduceAdd]
 repeat' (first|refine uN ?_|(refine uB ?_;intro b)|fail)
 rw [e]
 refine Vb (qtx S (Zl7 _ _ _ _) rfl) ?_
 repeat' (first|refine uN ?_|(refine uB ?_;intro b)|fail)
 exact Xn uZ ⟨rfl,rfl⟩
end Go.HL
end

/-! ScL -/
section
namespace Go.HL
open Go Go.Proofs
theorem dec_step (u:Nat):Lib.decDigits u=if u<10 then [UInt8.ofNat (48+u)] else Lib.decDigits (u / 10)++[UInt8.ofNat (48+u % 10)]:=by
 rw [Lib.decDigits]
 split<;>rfl
theorem bt_dig (d:Nat) (h:d<10):bt (48 - -(d:Int)) 0=UInt8.ofNat (48+d):=by
 have e:(48 - -(d:Int))=((48+d:Nat):Int):=by omega
 rw [e]
 rcases (show d=0∨d=1∨d=2∨d=3∨d=4∨d=5∨d=6∨d=7∨d=8∨d=9 by omega) with rfl|rfl|rfl|rfl|rfl|rfl|rfl|rfl|rfl|rfl<;>rfl
set_option maxHeartbeats 2000000 attribute [local irreducible] HW HO HQ HD HC QOp Has Upd Zo Gets Ye Z6 Zq X0 Z5 Zj X7 Zw
theorem Zdq : ∀ (N u:Nat),u<N→u≤9223372036854775807 → ∀ L,HC Tryz.prog 168 [iv (-(u:Int))] L (fun v L'=>v=bs (Lib.decDigits u)∧L'=L)
 | 0,u,h,_,L=>by omega
 | N+1,u,h,hu,L=>by
  have kb:=fun z L=>Zl4 z L
  have hd:=dec_step u
  by_cases h10:u<10
  ·rw [if_pos h10] at hd
   rw [hd]
   have e:=bt_dig u h10
   refine Za (fun _ _=>Tryz.call168 _ _) Tryz.func168 rfl Tryz.ntmps168 (Nat.le_of_ble_eq_true rfl) ?_;simp only [Ze,Nat.reduceAdd]
   repeat' (first|refine uN ?_|refine uC (kb _ _) ?_|(refine uP ?_ ?_<;>(intro h;((try simp only [zs,zq,reduceCtorEq] at h);try exact zx)))|fail)
   all_goals first|(exfalso;omega)|(rw [e];exact Uu rfl ⟨rfl,rfl⟩)
  ·rw [if_neg h10] at hd
   rw [hd]
   have e:=bt_dig (u % 10) (by omega)
   have hl:=Lib.decDigits_length (u / 10)
   have hl2:=Lib.nDigits_le20 (u / 10) (by omega)
   have ih:=Zdq N (u / 10) (by omega) (by omega) L
   refine Za (fun _ _=>Tryz.call168 _ _) Tryz.func168 rfl Tryz.ntmps168 (Nat.le_of_ble_eq_true rfl) ?_;simp only [Ze,Nat.reduceAdd]
   repeat' (first|refine uN ?_|(refine uP ?_ ?_<;>(intro h;((try simp only [zs,zq,reduceCtorEq] at h);try exact zx)))|fail)
   refine Vb (qQn (m:=10) (by omega) hu) ?_
   repeat' (first|refine uN ?_|refine uC (ih) ?_|(refine uP ?_ ?_<;>(intro h;((try simp only [zs,zq,reduceCtorEq] at h);try exact zx)))|fail)
   refine Vb (qRn (m:=10) (by omega) hu) ?_
   repeat' (first|refine uN ?_|refine uC (kb _ _) ?_|(refine uP ?_ ?_<;>(intro h;((try simp only [zs,zq,reduceCtorEq] at h);try exact zx)))|fail)
   all_goals (rw [e];exact Uu rfl ⟨rfl,rfl⟩)
theorem Zbh (n:Int) (h0:0≤n) (h1:n≤9223372036854775807) (L:Zb):HC Tryz.prog 114 [iv n] L (fun v L'=>v=bs (Lib.itoa n)∧L'=L):=by
 obtain ⟨u,rfl⟩:=Int.eq_ofNat_of_zero_le h0
 have hb:=Zdq (u+1) u (by omega) (by omega) L
 have e:Lib.itoa (u:Int)=Lib.decDigits u:=by unfold Lib.itoa;rw [if_neg (by omega)];simp
 rw [e]
 refine Za (fun _ _=>Tryz.call114 _ _) Tryz.func114 rfl Tryz.ntmps114 (Nat.le_of_ble_eq_true rfl) ?_;simp only [Ze,Nat.reduceAdd]
 repeat' (first|refine uN ?_|refine uC (hb) ?_|(refine uP ?_ ?_<;>(intro h;((try simp only [zs,zq,reduceCtorEq] at h);try exact zx)))|fail)
 refine Vb (qNeg (u:=u) (by omega)) ?_
 repeat' (first|refine uN ?_|refine uC (hb) ?_|(refine uP ?_ ?_<;>(intro h;((try simp only [zs,zq,reduceCtorEq] at h);try exact zx)))|fail)
 exact Uu rfl ⟨rfl,rfl⟩
def Zcj (f:List UInt8) (i:Nat):Int:=if f≠[43]∧(f.getD i 0).toNat=100 then 9 else 99999
def Zdc (f:List UInt8) (ns:List Int) (k:Nat):Prop := ∀ j,j<k→0≤ns.getD j 0∧ns.getD j 0≤Zcj f j
def Zgm (ns:List Int):List UInt8:=ns.flatMap fun n=>32::Lib.itoa n
def badL (w:List UInt8) (ns:List Int):Prop:=(X1 w).2=false∨((X1 w).1=[43]∧ns.length=0)∨((X1 w).1≠[43]∧ns.length≠(X1 w).1.length)
open Classical in
noncomputable def lineM (w:List UInt8) (ns:List Int):Option (List UInt8):=if badL w ns ∨ ¬ Zdc (X1 w).1 ns ns.length then none else some (w++Zgm ns)
theorem Zig {ns:List Int} {i:Nat} (h:i<ns.length):Zgm (ns.take (i+1))=Zgm (ns.take i)++([32]++Lib.itoa ns[i]):=by
 unfold Zgm
 rw [V3 h,List.flatMap_append]
 simp
theorem Zgn {ns:List Int} : ∀ {k:Nat},(∀ j,j<k→0≤ns.getD j 0∧ns.getD j 0≤99999)→k≤ns.length→(Zgm (ns.take k)).length≤22*k
 | 0,_,_=>by simp [Zgm]
 | k+1,h,hk=>by
  have ih:=Zgn (k:=k) (fun j hj=>h j (by omega)) (by omega)
  rw [Zig (show k<ns.length by omega)]
  have h1:=h k (by omega)
  have e:ns.getD k 0=ns[k]:=by simp [List.getD,List.getElem?_eq_getElem (show k<ns.length by omega)]
  rw [e] at h1
  have:=Lib.itoa_length_le ns[k] (by omega) (by omega)
  simp only [List.length_append,List.length_cons,List.length_nil]
  omega
theorem Zlo (f:List UInt8) (i:Nat):Zcj f i≤99999:=by unfold Zcj;split<;>omega
attribute [local irreducible] X1
set_option maxRecDepth 20000 in
theorem Zi8 (w : List UInt8) (a:Option Addr) (cap:Nat) (ns:List Int) (L:Zb) (hR:Rd ic 1 L a ns) (hw:w.length≤60) (hn:ns.length≤12) :
    HC Tryz.prog 59 [.agg ⟨[bs w,.slice a ns.length cap]⟩] L (fun v L'=>v = .tuple ⟨[bs ((lineM w ns).getD []),.bool (lineM w ns).isSome]⟩∧L'=L):=by
  have kf:=fun L=>Zix w L
  by_cases hb:badL w ns
  · have e:lineM w ns=none:=if_pos (.inl hb)
    rw [e]
    unfold badL at hb
    generalize X1 w=F at *
    obtain ⟨f,is⟩:=F
    simp only at hb kf
    refine Za (fun _ _=>Tryz.call59 _ _) Tryz.func59 rfl Tryz.ntmps59 (Nat.le_of_ble_eq_true rfl) ?_;simp only [Ze,Nat.reduceAdd]
    repeat' (first|refine uN ?_|refine uC (kf _) ?_|(refine uB ?_;intro b)|(refine uP ?_ ?_<;>(intro h;((try simp only [zs,zq,reduceCtorEq] at h);try exact zx)))|fail)
    all_goals first
      | exact Wz (L':=L) (LS.c (LS.refl _)) ⟨rfl,rfl⟩
      | (exfalso;rcases hb with hb|⟨hb,hb2⟩|⟨hb,hb2⟩<;>first|contradiction|omega|(simp_all;done))
  · unfold badL at hb
    have hmo:=fun i=>Zlo (X1 w).1 i
    have hin:(X1 w).1=[43]∨ns.length=(X1 w).1.length:=by
      by_cases h:(X1 w).1=[43]
      · exact .inl h
      · exact .inr (Classical.byContradiction fun h2=>hb (.inr (.inr ⟨h,h2⟩)))
    have his:(X1 w).2=true:=by
      cases h:(X1 w).2 with
      | true=>rfl
      | false=>exact absurd (.inl h) hb
    have hz : ¬ ((X1 w).1=[43]∧ns.length=0):=fun h=>hb (.inr (.inl h))
    have hres1:Zdc (X1 w).1 ns ns.length→lineM w ns=some (w++Zgm ns):=fun h=>if_neg (fun e=>e.elim hb fun h2=>h2 h)
    have hres2 : ¬ Zdc (X1 w).1 ns ns.length→lineM w ns=none:=fun h=>if_pos (.inr h)
    have hlen:=fun (k:Nat) (hk:k≤ns.length) (ho:Zdc (X1 w).1 ns k)=>Zgn (ns:=ns) (k:=k) (fun j hj=>by have:=ho j hj;have:=hmo j;omega) hk
    have hsn:=fun i (h:i<ns.length)=>Zig h
    clear hb
    generalize hF:X1 w=F at *
    obtain ⟨f,is⟩:=F
    simp only at hin his hz hlen hmo kf hres1 hres2 ⊢
    subst his
    by_cases hf:f=[43]
    · subst hf
      have hl0 : ¬ (ns.length:Int)=0:=by intro e;exact hz ⟨rfl,by omega⟩
      refine Za (fun _ _=>Tryz.call59 _ _) Tryz.func59 rfl Tryz.ntmps59 (Nat.le_of_ble_eq_true rfl) ?_;simp only [Ze,Nat.reduceAdd]
      repeat' (first|refine uN ?_|refine uC (kf _) ?_|(refine uB ?_;intro b)|(refine uP ?_ ?_<;>(intro h;((try simp only [zs,zq,reduceCtorEq] at h);try exact zx)))|fail)
      refine Zz (σ:=Nat × List UInt8) (fun r=>[(1,pt b 0),(4,bs [43]),(6,bs r.2),(7,iv r.1)]) (fun _=>[(b,.cells ⟨[bs w,.slice a ns.length cap]⟩ 99)]::L) (fun r=>r.1≤ns.length∧Zdc [43] ns r.1∧r.2=w++Zgm (ns.take r.1)) (fun r=>ns.length-r.1) (0,w) uS (List.Sublist.refl _) ⟨by simp,fun j hj=>by simp at hj,by simp [Zgm]⟩ ?_
      rintro ⟨i,tx⟩ ⟨hi,ho,htx⟩
      simp only at hi ho htx ⊢
      have hti:=hlen i hi ho
      have htl:tx.length≤60+22*i:=by rw [htx,List.length_append];omega
      by_cases hit:i<ns.length
      · obtain ⟨b2,bi,q,F2,fr,rfl,hb2,hg⟩:=hR.at1 (j:=(i:Int)) (by omega) (by omega)
        have eg:ns[(i:Int).toNat]'(by omega)=ns[i]:=rfl
        rw [eg] at hg
        have e0:ns.getD i 0=ns[i]:=by simp [List.getD,List.getElem?_eq_getElem hit]
        have es:=hsn i hit
        have hm:=hmo i
        unfold Zcj at hm
        have hok:Zdc [43] ns (i+1)↔0≤ns[i]∧ns[i]≤Zcj [43] i:=by
          rw [← e0]
          exact ⟨fun h=>h i (by omega),fun h j hj=>by
            rcases Nat.lt_succ_iff_lt_or_eq.1 hj with h2|rfl
            · exact ho j h2
            · exact h⟩
        have hno : ¬ Zdc [43] ns (i+1) → ¬ Zdc [43] ns ns.length:=fun h h2=>h fun j hj=>h2 j (by omega)
        generalize ns[i]=x at *
        unfold Zcj at hok
        have hi2:((i:Nat):Int).toNat=i:=Int.toNat_natCast i
        have kd:=fun h0 h1=>Zbh x h0 h1 ([(b,.cells ⟨[bs w,.slice (some ⟨b2,bi,none⟩) ns.length cap]⟩ 99)]::L)
        rw [if_neg (by simp)] at hok
        have hil:=Lib.itoa_length_le x
        repeat' (first|refine uN ?_|(refine uB ?_;intro b)|(refine uP ?_ ?_<;>(intro h;((try simp only [zs,zq,reduceCtorEq] at h);try exact zx)))|fail)
        all_goals first
          | (rw [hres2 (hno fun h=>by have:=hok.1 h;omega)];exact Wz (L':=L) (LS.c (LS.refl _)) ⟨rfl,rfl⟩)
          | (refine gc (kd (by omega) (by omega)) ?_
             rintro v L' ⟨rfl,rfl⟩
             repeat' (first|refine uN ?_|(refine uB ?_;intro b)|(refine uP ?_ ?_<;>(intro h;((try simp only [zs,zq,reduceCtorEq] at h);try exact zx)))|fail)
             exact Zy (i+1,tx++[32]++Lib.itoa x) uS (LS.refl _) ⟨hit,hok.2 (by omega),by rw [es,htx];simp⟩ (by simp only;omega))
      · obtain rfl:i=ns.length:=by omega
        rw [hres1 ho]
        rw [List.take_length] at htx
        subst htx
        repeat' (first|refine uN ?_|(refine uB ?_;intro b)|(refine uP ?_ ?_<;>(intro h;((try simp only [zs,zq,reduceCtorEq] at h);try exact zx)))|fail)
        exact Wz (L':=L) (LS.c (LS.refl _)) ⟨rfl,rfl⟩
    · have hlf : (ns.length:Int)=f.length:=by rcases hin with h|h;exact absurd h hf;omega
      refine Za (fun _ _=>Tryz.call59 _ _) Tryz.func59 rfl Tryz.ntmps59 (Nat.le_of_ble_eq_true rfl) ?_;simp only [Ze,Nat.reduceAdd]
      repeat' (first|refine uN ?_|refine uC (kf _) ?_|(refine uB ?_;intro b)|(refine uP ?_ ?_<;>(intro h;((try simp only [zs,zq,reduceCtorEq] at h);try exact zx)))|fail)
      refine Zz (σ:=Nat × List UInt8) (fun r=>[(1,pt b 0),(4,bs f),(6,bs r.2),(7,iv r.1)]) (fun _=>[(b,.cells ⟨[bs w,.slice a ns.length cap]⟩ 99)]::L) (fun r=>r.1≤ns.length∧Zdc f ns r.1∧r.2=w++Zgm (ns.take r.1)) (fun r=>ns.length-r.1) (0,w) uS (List.Sublist.refl _) ⟨by simp,fun j hj=>by simp at hj,by simp [Zgm]⟩ ?_
      rintro ⟨i,tx⟩ ⟨hi,ho,htx⟩
      simp only at hi ho htx ⊢
      have hti:=hlen i hi ho
      have htl:tx.length≤60+22*i:=by rw [htx,List.length_append];omega
      by_cases hit:i<ns.length
      · obtain ⟨b2,bi,q,F2,fr,rfl,hb2,hg⟩:=hR.at1 (j:=(i:Int)) (by omega) (by omega)
        have eg:ns[(i:Int).toNat]'(by omega)=ns[i]:=rfl
        rw [eg] at hg
        have e0:ns.getD i 0=ns[i]:=by simp [List.getD,List.getElem?_eq_getElem hit]
        have es:=hsn i hit
        have hm:=hmo i
        unfold Zcj at hm
        have hok:Zdc f ns (i+1)↔0≤ns[i]∧ns[i]≤Zcj f i:=by
          rw [← e0]
          exact ⟨fun h=>h i (by omega),fun h j hj=>by
            rcases Nat.lt_succ_iff_lt_or_eq.1 hj with h2|rfl
            · exact ho j h2
            · exact h⟩
        have hno : ¬ Zdc f ns (i+1) → ¬ Zdc f ns ns.length:=fun h h2=>h fun j hj=>h2 j (by omega)
        generalize ns[i]=x at *
        unfold Zcj at hok
        have hi2:((i:Nat):Int).toNat=i:=Int.toNat_natCast i
        have kd:=fun h0 h1=>Zbh x h0 h1 ([(b,.cells ⟨[bs w,.slice (some ⟨b2,bi,none⟩) ns.length cap]⟩ 99)]::L)
        by_cases hd:(f.getD i 0).toNat=100
        · rw [if_pos ⟨hf,hd⟩] at hok
          have hd2:((f.getD ((i:Nat):Int).toNat 0).toNat:Int)=100:=by rw [hi2];omega
          have hil:=Lib.itoa_length_le x
          repeat' (first|refine uN ?_|(refine uB ?_;intro b)|(refine uP ?_ ?_<;>(intro h;((try simp only [zs,zq,reduceCtorEq] at h);try exact zx)))|fail)
          all_goals first
            | (rw [hres2 (hno fun h=>by have:=hok.1 h;omega)];exact Wz (L':=L) (LS.c (LS.refl _)) ⟨rfl,rfl⟩)
            | (refine gc (kd (by omega) (by omega)) ?_
               rintro v L' ⟨rfl,rfl⟩
               repeat' (first|refine uN ?_|(refine uB ?_;intro b)|(refine uP ?_ ?_<;>(intro h;((try simp only [zs,zq,reduceCtorEq] at h);try exact zx)))|fail)
               exact Zy (i+1,tx++[32]++Lib.itoa x) uS (LS.refl _) ⟨hit,hok.2 (by omega),by rw [es,htx];simp⟩ (by simp only;omega))
        · rw [if_neg (fun h=>hd h.2)] at hok
          have hd2 : ¬ ((f.getD ((i:Nat):Int).toNat 0).toNat:Int)=100:=by rw [hi2];omega
          have hil:=Lib.itoa_length_le x
          repeat' (first|refine uN ?_|(refine uB ?_;intro b)|(refine uP ?_ ?_<;>(intro h;((try simp only [zs,zq,reduceCtorEq] at h);try exact zx)))|fail)
          all_goals first
            | (rw [hres2 (hno fun h=>by have:=hok.1 h;omega)];exact Wz (L':=L) (LS.c (LS.refl _)) ⟨rfl,rfl⟩)
            | (refine gc (kd (by omega) (by omega)) ?_
               rintro v L' ⟨rfl,rfl⟩
               repeat' (first|refine uN ?_|(refine uB ?_;intro b)|(refine uP ?_ ?_<;>(intro h;((try simp only [zs,zq,reduceCtorEq] at h);try exact zx)))|fail)
               exact Zy (i+1,tx++[32]++Lib.itoa x) uS (LS.refl _) ⟨hit,hok.2 (by omega),by rw [es,htx];simp⟩ (by simp only;omega))
      · obtain rfl:i=ns.length:=by omega
        rw [hres1 ho]
        rw [List.take_length] at htx
        subst htx
        repeat' (first|refine uN ?_|(refine uB ?_;intro b)|(refine uP ?_ ?_<;>(intro h;((try simp only [zs,zq,reduceCtorEq] at h);try exact zx)))|fail)
        exact Wz (L':=L) (LS.c (LS.refl _)) ⟨rfl,rfl⟩
end Go.HL
end

/-! ScM -/
section
namespace Go.HL
open Go Go.Proofs
structure Ln where
 w:List UInt8
 a:Option Addr
 cap:Nat
 ns:List Int
def lnc (x:Ln):List Value:=[bs x.w,.slice x.a x.ns.length x.cap]
def LnIn (L:Zb) (l:List Ln):Prop := ∀ x∈l,Rd ic 1 L x.a x.ns
theorem LnIn.cons {L:Zb} {l:List Ln} (h:LnIn L l) (c:List Zm):LnIn (c::L) l:=fun x hx=>(h x hx).cons c
def Vj:List UInt8:=[115,105,116,101,115,32,49,32,49,32,49]
noncomputable def anewL (x:Ln):List (List UInt8):=if 12<x.ns.length∨60<x.w.length∨x.w=Xm then [] else (lineM x.w x.ns).toList
theorem Zqj (o:Option Wm):Zcw o Vj=([111,107],some (Q2 [1,1,1])):=by
 unfold Zcw U0 Zar
 rw [show (Ym Vj).headD []=Xm by decide,if_pos rfl,show Vf (List.replicate (max 1 (Ym Vj).tail.length) 110) (Ym Vj).tail=some [1,1,1] by kernel_rfl]
 rfl
theorem anew_law (l:List (List UInt8)):U5 none ((Vj::l)++(Vj::l))=U5 none (Vj::l)++U5 none (Vj::l):=by
 rw [Zgc]
 congr 1
 simp only [U5,Zqj]
set_option maxHeartbeats 2000000 attribute [local irreducible] HW HO HQ HD HC QOp Has Upd Zo Gets Ye Z6 Zq X0 Z5 Zj X7 Zw
theorem Zrl {w:List UInt8} {ns:List Int} {s:List UInt8} (h:lineM w ns=some s) (hw:w.length≤60) (hn:ns.length≤12):s.length≤1000:=by
 unfold lineM at h
 split at h
 ·cases h
 ·rename_i hb
  cases h
  have ho:Zdc (X1 w).1 ns ns.length:=Classical.byContradiction fun h2=>hb (.inr h2)
  have:=Zgn (ns:=ns) (k:=ns.length) (fun j hj=>by have h1:=ho j hj;have h2:=Zlo (X1 w).1 j;omega) (Nat.le_refl _)
  rw [List.take_length] at this
  rw [List.length_append]
  omega
theorem Zqh {x:Ln} : ∀ s∈anewL x,s.length≤1000:=fun s hs=>by
 unfold anewL at hs
 split at hs
 ·cases hs
 ·rename_i hb
  exact Zrl (Option.mem_toList.1 hs) (by omega) (by omega)
theorem Zqi (x:Ln):(anewL x).length≤1:=by
 unfold anewL
 split
 ·simp
 ·cases lineM x.w x.ns<;>simp
theorem Zqg (l:List Ln):(l.flatMap anewL).length≤l.length:=by
 induction l with
 | nil=>simp
 | cons x l ih =>
  have:=Zqi x
  simp only [List.flatMap_cons,List.length_append,List.length_cons]
  omega
attribute [local irreducible] U5 lineM
set_option maxRecDepth 20000 in
theorem Zm8 (T:Nat) (E:Nat→Addr) (a:Option Addr) (cap:Nat) (l:List Ln) (L:Zb) (hE:Es T E L) (hS:Sz L) (hX:Et E L) (hR:Rd lnc 2 L a l) (hN:LnIn L l) (hcap:l.length≤cap) :
  HC Tryz.prog 13 [.slice a l.length cap] L (fun v L'=>v = .bool true∧L'=L):=by
 have kh:=Zk2 T E L hE hS hX
 refine Za (fun _ _=>Tryz.call13 _ _) Tryz.func13 rfl Tryz.ntmps13 (Nat.le_of_ble_eq_true rfl) ?_;simp only [Ze,Nat.reduceAdd]
 repeat' (first|refine uN ?_|refine Yd S ?_|refine uC (kh) ?_|(refine uB ?_;intro b)|(refine uP ?_ ?_<;>(intro h;((try simp only [zs,zq,reduceCtorEq] at h);try exact zx)))|fail)
 ·exact Xn (LS.refl _) ⟨rfl,rfl⟩
 have hv0:Vec 9 1 V1 (sl b 0 1 1) ([Vj]++(l.take 0).flatMap anewL) [(b,.cells ⟨[bs Vj]⟩ 9)] := .inr ⟨b,1,[],rfl,rfl,rfl,Nat.le_refl _,rfl⟩
 refine Zz (σ:=Nat × Value × List Zm) (fun r=>[(0,.slice a l.length cap),(3,.bool true),(4,r.2.1),(5,iv r.1)]) (fun r=>r.2.2::L)
  (fun r=>r.1≤l.length∧Vec 9 1 V1 r.2.1 ([Vj]++(l.take r.1).flatMap anewL) r.2.2) (fun r=>l.length-r.1) (0,sl b 0 1 1,[(b,.cells ⟨[bs Vj]⟩ 9)]) uS (List.Sublist.refl _) ⟨by simp,hv0⟩ ?_
 rintro ⟨i,u,c⟩ ⟨hi,hu⟩
 simp only at hi hu ⊢
 obtain ⟨a5,cap5,rfl,hcap5,hR5⟩:=hu.rd Xo
 have hal:=Zqg (l.take i)
 rw [List.length_take] at hal
 by_cases hit:i<l.length
 ·obtain ⟨b1,bi,q,F,fr,rfl,hb,hg⟩:=hR.at (j:=(i:Int)) (by omega) (by omega)
  have eg:l[(i:Int).toNat]'(by omega)=l[i]:=rfl
  rw [eg] at hg
  have hRx:=hN l[i] (List.getElem_mem _)
  have et:(l.take (i+1)).flatMap anewL=(l.take i).flatMap anewL++anewL l[i]:=by rw [V3 hit,List.flatMap_append];simp
  generalize l[i]=x at *
  obtain ⟨w,xa,xc,ns⟩:=x
  unfold lnc at hg
  simp only at hg hRx
  by_cases hbig:12<ns.length∨60<w.length∨w=Xm
  ·have e0:anewL ⟨w,xa,xc,ns⟩=[]:=if_pos hbig
   rw [e0,List.append_nil] at et
   unfold Xm at hbig
   repeat' (first|refine uN ?_|refine Yd S ?_|(refine uB ?_;intro b)|(refine uP ?_ ?_<;>(intro h;((try simp only [zs,zq,reduceCtorEq] at h);try exact zx)))|fail)
   all_goals first
    | exact Zy (i+1,.slice a5 _ cap5,c) uS (LS.refl _) ⟨hit,by rw [et];exact hu⟩ (by simp only;omega)
    | (exfalso;rcases hbig with h|h|h<;>first|omega|contradiction)
  ·have e0:anewL ⟨w,xa,xc,ns⟩=(lineM w ns).toList:=if_neg hbig
   rw [e0] at et
   have kl:=Zi8 w xa xc ns (c::L) (hRx.cons c) (by omega) (by omega)
   have h1 : ¬ (12:Int)<ns.length:=by omega
   have h2 : ¬ (60:Int)<w.length:=by omega
   have h3 : ¬ w=[115,105,116,101,115]:=fun e=>hbig (.inr (.inr e))
   cases hlm:lineM w ns with
   | none =>
    rw [hlm] at kl et
    simp only [Option.toList_none,List.append_nil] at et
    simp only [Option.getD_none,Option.isSome_none] at kl
    repeat' (first|refine uN ?_|refine Yd S ?_|refine uC (kl) ?_|(refine uB ?_;intro b)|(refine uP ?_ ?_<;>(intro h;((try simp only [zs,zq,reduceCtorEq] at h);try exact zx)))|fail)
    exact Zy (i+1,.slice a5 _ cap5,c) uS (LS.refl _) ⟨hit,by rw [et];exact hu⟩ (by simp only;omega)
   | some s =>
    rw [hlm] at kl et
    simp only [Option.toList_some] at et
    simp only [Option.getD_some,Option.isSome_some] at kl
    repeat' (first|refine uN ?_|refine Yd S ?_|refine uC (kl) ?_|(refine uB ?_;intro b)|(refine uP ?_ ?_<;>(intro h;((try simp only [zs,zq,reduceCtorEq] at h);try exact zx)))|fail)
    refine fo 1 ?_
    refine wp1 S s hu Xo Za1 ?_ (hby:=by rw [List.length_append];simp only [List.length_singleton];omega) (hmax:=by rw [List.length_append];simp only [List.length_singleton];omega)
    intro v' c' hv'
    repeat' (first|refine uN ?_|refine Yd S ?_|(refine uB ?_;intro b)|(refine uP ?_ ?_<;>(intro h;((try simp only [zs,zq,reduceCtorEq] at h);try exact zx)))|fail)
    exact Zy (i+1,v',c') uS uL ⟨hit,by rw [et,← List.append_assoc];exact hv'⟩ (by simp only;omega)
 ·obtain rfl:i=l.length:=by omega
  rw [List.take_length] at *
  have hml : ∀ s∈[Vj]++l.flatMap anewL,s.length≤1000000:=fun s hs=>by
   rcases List.mem_append.1 hs with hs|hs
   ·rw [List.mem_singleton.1 hs];decide
   ·obtain ⟨x,-,hx⟩:=List.mem_flatMap.1 hs
    have:=Zqh s hx
    omega
  have hxl:([Vj]++l.flatMap anewL).length≤21:=by rw [List.length_append];simp only [List.length_singleton];omega
  have hlaw:=anew_law (l.flatMap anewL)
  rw [show Vj::l.flatMap anewL=[Vj]++l.flatMap anewL from rfl] at hlaw
  generalize [Vj]++l.flatMap anewL=X at *
  repeat' (first|refine uN ?_|refine Yd S ?_|(refine uB ?_;intro b)|(refine uP ?_ ?_<;>(intro h;((try simp only [zs,zq,reduceCtorEq] at h);try exact zx)))|fail)
  refine Zpe ?_
  refine wpA S Yg ((hR5 L).cons []) Xo Za1 ?_ (hby:=by simp only [List.length_nil];omega) (hmax:=by simp only [List.length_nil];omega)
  intro v1 c1 hv1
  rw [List.nil_append] at hv1
  repeat' (first|refine uN ?_|refine Yd S ?_|(refine uB ?_;intro b)|(refine uP ?_ ?_<;>(intro h;((try simp only [zs,zq,reduceCtorEq] at h);try exact zx)))|fail)
  refine wpA S hv1 ((hR5 L).cons c1) Xo Za1 ?_
  intro v2 c2 hv2
  obtain ⟨a2,cap2,rfl,hcap2,hR2⟩:=hv2.rd Xo
  have kr:=Zge T E a2 cap2 (X++X) (c2::c::L) ((hE.cons _).cons _) ((hS.cons _).cons _) ((hX.cons _).cons _) (hR2 _) hcap2 (by rw [List.length_append];omega) (fun x hx=>by rcases List.mem_append.1 hx with h|h<;>exact hml x h)
  simp only [if_neg (show ¬ 100<(X++X).length by rw [List.length_append];omega),hlaw] at kr
  repeat' (first|refine uN ?_|refine Yd S ?_|(refine uB ?_;intro b)|(refine uP ?_ ?_<;>(intro h;((try simp only [zs,zq,reduceCtorEq] at h);try exact zx)))|fail)
  refine gc kr ?_
  rintro v L' ⟨co,u,rfl,ho,rfl⟩
  obtain ⟨a6,cap6,rfl,hcap6,hR6⟩:=ho.rd Xo
  have hDl:=Zgd none X
  generalize U5 none X=D at *
  have eN:((X.length:Nat):Int).toNat=X.length:=Int.toNat_natCast _
  have eD:(D++D).length-X.length=D.length:=by rw [List.length_append];omega
  have e2:((D++D).length:Int)=2*X.length:=by rw [List.length_append];omega
  have hR7:=hR6 (c2::c::L)
  have ht:=hR7.take (n:=X.length)
  rw [← hDl,List.take_left] at ht
  have hd:=hR7.drop (cap:=cap6) (l:=X.length) hcap6
  rw [show (D++D).drop X.length=D by rw [← hDl,List.drop_left]] at hd
  have ks:=Qz a6 (cut a6 cap6 X.length 1) cap6 (cap6-X.length) D D _ ht hd (by omega)
  simp only [decide_true] at ks
  have ks2:HC Tryz.prog 61 [.slice a6 ((X.length:Nat):Int).toNat cap6,.slice (cut a6 cap6 ((X.length:Nat):Int).toNat 1) ((D++D).length-((X.length:Nat):Int).toNat) (cap6-((X.length:Nat):Int).toNat)] (co::c2::c::L) (fun v L'=>v = .bool true∧L'=co::c2::c::L):=by
   rw [eN,eD]
   rw [show Value.slice a6 X.length cap6=Value.slice a6 D.length cap6 by rw [hDl]]
   exact ks
  repeat' (first|refine uN ?_|refine Yd S ?_|refine uC (ks2) ?_|(refine uB ?_;intro b)|(refine uP ?_ ?_<;>(intro h;((try simp only [zs,zq,reduceCtorEq] at h);try exact zx)))|fail)
  all_goals exact Xn (L':=L) uL ⟨rfl,rfl⟩
end Go.HL
end

/-! CdLn -/
section
namespace Go.HL
set_option maxRecDepth 100000
open Go Go.Proofs Go.ChangeShapes Go.WideShapes Go.ChangeAt Go.RowKit
theorem open_rdc {H:Type} {enc:TypeId × Value→H} {P:Program} {W:World} {spare:Nat→Bool} {held:Bool} {t e:TypeId} {α:Type} {encV:α→List Value} {sz:Nat} {fuel:Nat} {cs:List Value} {x:DataW H × List MemPlace}
  (ht:P.underlying t=some (.slice e)) (hsz:P.cellsOf e=sz) (hpos:0<sz) (hf:DataW.trod enc P W 0 spare held fuel t cs=some x)
  (good:α→Prop) (one : ∀ n cs x,DataW.trod enc P W 0 spare held n e cs=some x → ∃ s,cs=encV s∧good s) :
  ∃ a cap,∃ xs:List α,cs=[.slice a xs.length cap]∧Rd encV sz [Vk W] a xs∧(∀ x∈xs,good x)∧xs.length≤cap:=by
 rcases Deep.open_slice ht hf with ⟨rfl,-⟩|⟨a',len,cap,m,n,D,Pl,rfl,-,hl,-,hm,-,hx⟩
 ·exact ⟨none,0,[],rfl,Rd.nil,by simp,by simp⟩
 ·have hlm:len≤m:=by rw [hm];split<;>omega
  have : ∀ i,i<len → ∃ s,W.cells? 0 (a'.add (i*sz)) sz=some (encV s)∧good s:=fun i hi=>by
   obtain ⟨cs,h1,h2⟩:=hx i (by omega)
   obtain ⟨s,rfl,hg⟩:=one _ _ _ h2
   rw [hsz] at h1
   exact ⟨s,h1,hg⟩
  by_cases h0:len=0
  ·subst h0
   exact ⟨some a',cap,[],rfl,Rd.nil,by simp,by simp⟩
  ·have : ∃ V:_root_.Fin len→α,∀ i,W.cells? 0 (a'.add (i.1*sz)) sz=some (encV (V i))∧good (V i):=⟨fun i=>(this i.1 i.2).choose,fun i=>(this i.1 i.2).choose_spec⟩
   obtain ⟨V,hV⟩:=this
   obtain ⟨-,-,hc⟩:=World.cells?_some (hV ⟨0,by omega⟩).1
   have hlen:=(World.cells?_some (hV ⟨0,by omega⟩).1).2.1
   have h00:=hc 0 hpos
   have hs : ∃ x,W.cell? a'=some x:=by
    simp [Addr.add] at h00
    exact ⟨_,h00.trans (List.getElem?_eq_getElem (by omega))⟩
   obtain ⟨x,hx0⟩:=hs
   obtain ⟨b,off,spot⟩:=a'
   have hblk : ∃ c E fr,W.heap[b]? = some (.cells c E fr)∧spot=none:=by
    unfold World.cell? at hx0
    simp only at hx0
    split at hx0
    ·rename_i c E fr he
     refine ⟨c,E,fr,he,?_⟩
     cases spot with
     | none=>rfl
     | some k=>simp at hx0
    ·cases hx0
   obtain ⟨c,E,fr,he,rfl⟩:=hblk
   refine ⟨some ⟨b,off,none⟩,cap,List.ofFn V,by simp,.inr ⟨b,off,c.toList,E,fr,rfl,V9 (by simpa using he),fun k x hk=>?_⟩,?_,by simpa using hl⟩
   ·have hkl:k<len:=by
     have:=(List.getElem?_eq_some_iff.1 hk).1
     simpa using this
    have hx:V ⟨k,hkl⟩=x:=by
     rw [List.getElem?_ofFn] at hk
     simpa [hkl] using hk
    obtain ⟨-,hl2,hc2⟩:=World.cells?_some (hV ⟨k,hkl⟩).1
    rw [hx] at hl2 hc2
    intro j v hj
    have hjl:=(List.getElem?_eq_some_iff.1 hj).1
    have:=hc2 j (by omega)
    rw [hj] at this
    rw [← this]
    have e:(Addr.add ⟨b,off,none⟩ (k*sz))=⟨b,off+k*sz,none⟩:=by
     unfold Addr.add;split
     ·rename_i h;simp [h]
     ·rfl
    show c.toList[off+k*sz+j]? = _
    simp only [e]
    rw [Zbf he]
    simp
   ·intro x hx
    obtain ⟨i,rfl⟩:=List.mem_ofFn.1 hx
    exact (hV i).2
theorem Zrn : ∃ f0 f1:Field,Tryz.prog.underlying 99=some (.struct #[f0,f1])∧f0.type=9∧f1.type=22∧f0.offset=0∧f1.offset=1:=⟨_,_,Tryz.underlying99,rfl,rfl,rfl,rfl⟩
theorem open_ln {H:Type} {enc:TypeId × Value→H} {W:World} {spare:Nat→Bool} {held:Bool} (n:Nat) (cs:List Value) (x:DataW H × List MemPlace) (h:DataW.trod enc Tryz.prog W 0 spare held n 99 cs=some x) : ∃ s:Ln,cs=lnc s∧(Rd ic 1 [Vk W] s.a s.ns∧s.ns.length≤s.cap ∧ ∀ z∈s.ns,okI z):=by
 obtain ⟨f0,f1,hu,t0,t1,o0,o1⟩:=Zrn
 obtain ⟨y0,y1,m,-,hl,h0,h1⟩:=trod_struct2 hu h
 rw [t0,o0,show Tryz.prog.cellsOf 9=1 by kernel_rfl] at h0
 rw [t1,o1,show Tryz.prog.cellsOf 22=1 by kernel_rfl] at h1
 rw [show Tryz.prog.cellsOf 99=2 by kernel_rfl] at hl
 obtain ⟨s,e0,-⟩:=open_sb _ _ _ h0
 obtain ⟨a,cap,ns,e1,hR,hz,hc⟩:=open_rdc Tryz.underlying22 (sz:=1) (by kernel_rfl) (by decide) h1 okI open_ic
 match cs,hl with
 | [c0,c1],_ =>
  simp only [List.drop_zero,List.take_succ_cons,List.take_zero,List.drop_succ_cons] at e0 e1
  unfold V1 at e0
  cases e0
  cases e1
  exact ⟨⟨s,a,cap,ns⟩,rfl,hR,hc,hz⟩
end Go.HL
end

