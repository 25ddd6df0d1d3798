/- Texts laid into one, without what the claim does not use. Conditions: none. -/
import Derived.Test.YtkookaogdkdegacGreatDoorSPB
import Derived.Laws.StructEq
import Derived.ChangeKeysEq
import Derived.Laws.MakeOwn
import Derived.Laws.BytesString
import Derived.MapKept
import Derived.WideKeyRuns
import Derived.Carry
import Derived.ProofKit
import Derived.OpenShut
import Derived.Deep.Slices
import Derived.Deep.Strs
import Derived.JoinedCond
import Derived.Conc.WgGenN
set_option linter.unusedVariables false
set_option linter.unusedSimpArgs false
set_option linter.unusedSectionVars false
set_option maxHeartbeats 4000000
set_option maxRecDepth 100000
namespace Go.HL
open Go Go.Proofs Go.Proofs.Tryz
variable[Tasks]
def Zcs:List Nat→List Value→List Value→Option Bool
 | [],[],[]=>some true
 | 1::t,.bool a::xs,.bool b::ys=>match Zcs t xs ys with
  | some r=>some ((a == b) && r)
  | none=>none
 | 2::t,.int k a::xs,.int k' b::ys=>bif Zsy k k' then (match Zcs t xs ys with
  | some r=>some (decide (a=b) && r)
  | none=>none) else none
 | 3::t,.string ⟨⟨a⟩⟩::xs,.string ⟨⟨b⟩⟩::ys=>match Zcs t xs ys with
  | some r=>some (decide (a=b) && r)
  | none=>none
 | _,_,_=>none
theorem Zj6:∀{t:List Nat} {xs ys:List Value} {r:Bool},Zcs t xs ys=some r→xs.length=t.length∧ys.length=t.length:=by
 intro t
 induction t with
 | nil=>
  intro xs ys r h
  unfold Zcs at h
  split at h<;>simp_all
 | cons a t ih=>
  intro xs ys r h
  unfold Zcs at h
  split at h
  ·rename_i e;cases e
  ·rename_i e
   cases e
   split at h
   ·rename_i hr;have:=ih hr;simp_all
   ·cases h
  ·rename_i e
   cases e
   obtain⟨_,h⟩:=Zx h
   split at h
   ·rename_i hr;have:=ih hr;simp_all
   ·cases h
  ·rename_i e
   cases e
   split at h
   ·rename_i hr;have:=ih hr;simp_all
   ·cases h
  ·cases h
theorem Zct:∀{t t2:List Nat} {xs ys:List Value} {r:Bool},Zcs (t++t2) xs ys=some r→∃r1 r2,Zcs t (xs.take t.length) (ys.take t.length)=some r1∧Zcs t2 (xs.drop t.length) (ys.drop t.length)=some r2∧r=(r1 && r2):=by
 intro t
 induction t with
 | nil=>intro t2 xs ys r h;exact⟨true,r,by simp[Zcs],by simpa using h,by simp⟩
 | cons a t ih=>
  intro t2 xs ys r h
  rw[Z19]at h
  unfold Zcs at h
  split at h
  ·rename_i e;cases e
  ·rename_i e
   cases e
   split at h
   ·rename_i hr
    cases h
    obtain⟨r1,r2,h1,h2,rfl⟩:=ih hr
    exact⟨_,r2,by simp[Zcs,h1];rfl,by simpa using h2,by simp[Bool.and_assoc]⟩
   ·cases h
  ·rename_i e
   cases e
   obtain⟨hk,h⟩:=Zx h
   split at h
   ·rename_i hr
    cases h
    obtain⟨r1,r2,h1,h2,rfl⟩:=ih hr
    exact⟨_,r2,by simp[Zcs,h1,hk];rfl,by simpa using h2,by simp[Bool.and_assoc]⟩
   ·cases h
  ·rename_i e
   cases e
   split at h
   ·rename_i hr
    cases h
    obtain⟨r1,r2,h1,h2,rfl⟩:=ih hr
    exact⟨_,r2,by simp[Zcs,h1];rfl,by simpa using h2,by simp[Bool.and_assoc]⟩
   ·cases h
  ·cases h
section eq
variable{P:Program}
def ofC(P:Program)(t:Nat)(xs:List Value)(v:Value):Prop:=(Zh2 P t=true∧v=.agg ⟨xs⟩)∨(Zh2 P t=false∧xs=[v])
theorem Zzy{d t:Nat}{l:List Nat}(h:Qk P d t=some l):∃i dsc,P.underlying t=some dsc∧P.info? t=some i∧(Zh2 P t=true→i.size=l.length)∧(Zh2 P t=false→l.length=1):=by
 cases d with
 | zero=>simp[Qk]at h
 | succ d=>
  unfold Qk at h
  unfold Zh2
  split at h
  ·rename_i i hu hi;split at h<;>cases h;exact⟨i,_,hu,hi,by simp[hu],fun _=>rfl⟩
  ·rename_i i hu hi;split at h<;>cases h;exact⟨i,_,hu,hi,by simp[hu],fun _=>rfl⟩
  ·rename_i i hu hi;split at h<;>cases h;exact⟨i,_,hu,hi,by simp[hu],fun _=>rfl⟩
  ·rename_i fs i hu hi
   split at h
   ·cases h
   ·split at h
    ·split at h
     ·rename_i hs;cases h;exact⟨i,_,hu,hi,fun _=>hs,by simp[hu]⟩
     ·cases h
    ·cases h
  ·rename_i n e i hu hi
   split at h
   ·split at h
    ·rename_i hs;cases h;exact⟨i,_,hu,hi,fun _=>by simp[hs.1],by simp[hu]⟩
    ·cases h
   ·cases h
  ·cases h
theorem Z0g{t:Nat}{dsc:TypeDesc}(h:P.underlying t=some dsc)(w:World):(isAgg t).run P w=.ok (Zh2 P t) w:=by
 unfold Zh2
 cases dsc<;>simp[isAgg,Z2k h,h]
theorem Zb8{d t off:Nat}{l:List Nat}{XS:List Value}(h:Qk P d t=some l)(hl:off+l.length≤XS.length)(w:World):∃v,(part t ⟨XS⟩ off).run P w=.ok v w∧ofC P t ((XS.drop off).take l.length) v:=by
 obtain⟨i,dsc,hu,hi,h1,h2⟩:=Zzy h
 have ha:=Z0g hu w
 cases hA:Zh2 P t with
 | true=>
  rw[hA]at ha
  refine⟨.agg ⟨(XS.drop off).take l.length⟩,?_,.inl ⟨hA,rfl⟩⟩
  have hs:(sizeOf t).run P w=.ok l.length w:=by simp[sizeOf,typeInfo,hi,h1 hA]
  simp[part,ha,hs,List.take_drop,List.extract_eq_take_drop]
 | false=>
  rw[hA]at ha
  have h3:=h2 hA
  have hlt:off<XS.length:=by omega
  refine⟨XS[off],?_,.inr ⟨hA,?_⟩⟩
  ·simp[part,ha,hlt]
  ·rw[h3,Z4u hlt]
   rfl
def EqRun(P:Program)(dd d:Nat):Prop:=∀(t:Nat) (l:List Nat) (xs ys:List Value) (x y:Value) (r:Bool) (w:World),Qk P d t=some l→ofC P t xs x→ofC P t ys y→Zcs l xs ys=some r→(Op.equalIn dd t x y).run P w=.ok r w
theorem Zgv{dd d:Nat}(IH:EqRun P dd d):∀(fs:List Field) (off:Nat) (l:List Nat) (XS YS:List Value) (r:Bool) (w:World),Zfy (Qk P d) fs off=some l→Zcs l (XS.drop off) (YS.drop off)=some r→(Op.eqFields dd ⟨XS⟩ ⟨YS⟩ fs).run P w=.ok r w
 | [],off,l,XS,YS,r,w,hf,h=>by
  simp[Zfy]at hf
  subst hf
  unfold Zcs at h
  split at h
  ·cases h;simp[Op.eqFields]
  all_goals simp_all
 | f :: fs,off,l,XS,YS,r,w,hf,h=>by
  simp only[Zfy]at hf
  split at hf
  ·rename_i l1 hl1
   split at hf
   ·rename_i hc
    obtain⟨hn,ho,hz⟩:=hc
    split at hf
    ·rename_i m hm
     cases hf
     obtain⟨r1,r2,e1,e2,rfl⟩:=Zct h
     have hlen:=Zj6 h
     simp only[Z2i,Z3l]at hlen
     obtain⟨x,p1,f1⟩:=Zb8 (XS:=XS) (off:=off) hl1 (by omega) w
     obtain⟨y,p2,f2⟩:=Zb8 (XS:=YS) (off:=off) hl1 (by omega) w
     have hr:=IH f.type l1 _ _ x y r1 w hl1 f1 f2 e1
     have ih:=Zgv IH fs (off+l1.length) m XS YS r2 w hm (by simpa[Z47] using e2)
     subst ho
     cases r1<;>simp[Op.eqFields,hn,p1,p2,hr,ih]
    ·cases hf
   ·cases hf
  ·cases hf
theorem Ziv{dd d e:Nat}(IH:EqRun P dd d){l:List Nat}(hl:Qk P d e=some l)(hz:0<l.length):∀(k i0:Nat) (XS YS:List Value) (r:Bool) (w:World),Zcs (List.replicate k l).flatten (XS.drop (i0*l.length)) (YS.drop (i0*l.length))=some r→(Op.eqItems dd e l.length ⟨XS⟩ ⟨YS⟩ ((List.range k).map (· + i0))).run P w=.ok r w
 | 0,i0,XS,YS,r,w,h=>by
  simp[Zcs]at h
  unfold Zcs at h
  split at h
  ·cases h;simp[Op.eqItems]
  all_goals simp_all
 | k+1,i0,XS,YS,r,w,h=>by
  rw[Z58,Z17]at h
  obtain⟨r1,r2,e1,e2,rfl⟩:=Zct h
  have hlen:=Zj6 h
  simp only[Z2i,Z3l]at hlen
  obtain⟨x,p1,f1⟩:=Zb8 (XS:=XS) (off:=i0*l.length) hl (by omega) w
  obtain⟨y,p2,f2⟩:=Zb8 (XS:=YS) (off:=i0*l.length) hl (by omega) w
  have hr:=IH e l _ _ x y r1 w hl f1 f2 e1
  have ih:=Ziv IH hl hz k (i0+1) XS YS r2 w (by simpa[Z47,Z32] using e2)
  rw[List.range_succ_eq_map,Z2s,List.map_map]
  have e9:((fun x=>x+i0)∘Nat.succ)=(· + (i0+1)):=by funext q;simp;omega
  rw[e9]
  cases r1<;>simp[Op.eqItems,p1,p2,hr,ih]
theorem eq_leaf1{t:Nat}{x y:Value}{r:Bool}{w:World}(dd:Nat)(hu:P.underlying t=some .bool)(he:Zcs [1] [x] [y]=some r):(Op.equalIn (dd+1) t x y).run P w=.ok r w:=by
 cases x<;>cases y<;>simp[Zcs]at he
 subst he
 exact run_equalIn_bool w dd t _ _ hu
theorem eq_leaf2{t:Nat}{k:IntKind}{x y:Value}{r:Bool}{w:World}(dd:Nat)(hu:P.underlying t=some (.int k))(he:Zcs [2] [x] [y]=some r):(Op.equalIn (dd+1) t x y).run P w=.ok r w:=by
 cases x<;>cases y<;>simp[Zcs]at he
 rename_i k1 a k2 b
 obtain⟨hk,he⟩:=Zx he
 cases he
 cases Zbq hk
 exact run_equalIn_int w dd t k1 k a b hu
theorem eq_leaf3{t:Nat}{x y:Value}{r:Bool}{w:World}(dd:Nat)(hu:P.underlying t=some .string)(he:Zcs [3] [x] [y]=some r):(Op.equalIn (dd+1) t x y).run P w=.ok r w:=by
 cases x<;>cases y<;>try (simp[Zcs]at he;done)
 rename_i a b
 obtain⟨⟨a⟩⟩:=a
 obtain⟨⟨b⟩⟩:=b
 simp[Zcs]at he
 subst he
 rw[run_equalIn_string w dd t _ _ hu,Zj4,Zj4]
 by_cases e:a=b<;>simp[e]
theorem Zsa:∀(d q:Nat),EqRun P (q+d) d
 | 0,q=>by intro t l xs ys x y r w h;simp[Qk]at h
 | d + 1,q=>by
  intro t l xs ys x y r w h hx hy he
  have h0:=h
  unfold Qk at h
  split at h
  ·rename_i i hu hi
   split at h
   ·cases h
    have hA:Zh2 P t=false:=by simp[Zh2,hu]
    rcases hx with⟨hx,_⟩|⟨_,rfl⟩
    ·rw[hA]at hx;cases hx
    ·rcases hy with⟨hy,_⟩|⟨_,rfl⟩
     ·rw[hA]at hy;cases hy
     ·rw[show q+(d+1)=q+d+1 by omega]
      exact eq_leaf1 (q+d) hu he
   ·cases h
  ·rename_i i hu hi
   split at h
   ·cases h
    have hA:Zh2 P t=false:=by simp[Zh2,hu]
    rcases hx with⟨hx,_⟩|⟨_,rfl⟩
    ·rw[hA]at hx;cases hx
    ·rcases hy with⟨hy,_⟩|⟨_,rfl⟩
     ·rw[hA]at hy;cases hy
     ·rw[show q+(d+1)=q+d+1 by omega]
      exact eq_leaf2 (q+d) hu he
   ·cases h
  ·rename_i i hu hi
   split at h
   ·cases h
    have hA:Zh2 P t=false:=by simp[Zh2,hu]
    rcases hx with⟨hx,_⟩|⟨_,rfl⟩
    ·rw[hA]at hx;cases hx
    ·rcases hy with⟨hy,_⟩|⟨_,rfl⟩
     ·rw[hA]at hy;cases hy
     ·rw[show q+(d+1)=q+d+1 by omega]
      exact eq_leaf3 (q+d) hu he
   ·cases h
  ·rename_i fs i hu hi
   split at h
   ·cases h
   ·rename_i hs
    split at h
    ·rename_i l' hl
     split at h
     ·cases h
      have hA:Zh2 P t=true:=by simp[Zh2,hu]
      rcases hx with⟨_,rfl⟩|⟨hx,_⟩
      ·rcases hy with⟨_,rfl⟩|⟨hy,_⟩
       ·have hf:P.fieldsOf t=fs:=by simp[Program.fieldsOf,hu]
        have:=run_equalIn_struct (P:=P) w (q+d) t ⟨xs⟩ ⟨ys⟩ (by rw[hf];exact hu) (by simpa using hs)
        rw[show q+(d+1)=q+d+1 by omega,this,hf]
        exact Zgv (Zsa d q) fs.toList 0 l xs ys r w hl (by simpa using he)
       ·rw[hA]at hy;cases hy
      ·rw[hA]at hx;cases hx
     ·cases h
    ·cases h
  ·rename_i n e i hu hi
   split at h
   ·rename_i l' hl
    split at h
    ·rename_i hc
     cases h
     have hA:Zh2 P t=true:=by simp[Zh2,hu]
     rcases hx with⟨_,rfl⟩|⟨hx,_⟩
     ·rcases hy with⟨_,rfl⟩|⟨hy,_⟩
      ·obtain⟨ie,hie,hse⟩:=Z28.1 hc.2.1
       have hce:P.cellsOf e=l'.length:=by simp[Program.cellsOf,hie,hse]
       have:=run_equalIn_array (P:=P) w (q+d) ⟨xs⟩ ⟨ys⟩ hu hie
       rw[show q+(d+1)=q+d+1 by omega,this,hce]
       have h9:=Ziv (Zsa d q) hl hc.2.2 n 0 xs ys r w (by simpa using he)
       simpa using h9
      ·rw[hA]at hy;cases hy
     ·rw[hA]at hx;cases hx
    ·cases h
   ·cases h
  ·cases h
theorem Zr7{g:Nat→Option (List Nat)}{XS YS:List Value}:∀{fs:List Field} {off:Nat} {l:List Nat} {r:Bool},Zfy g fs off=some l→Zcs l (XS.drop off) (YS.drop off)=some r→
  ∀f∈fs,∃l1 r1,g f.type=some l1∧Zcs l1 ((XS.drop f.offset).take l1.length) ((YS.drop f.offset).take l1.length)=some r1∧f.offset+l1.length≤XS.length∧f.offset+l1.length≤YS.length
 | [],_,_,_,_,_,f,hf=>by cases hf
 | q :: fs,off,l,r,hf,h,f,hm=>by
  simp only[Zfy]at hf
  split at hf
  ·rename_i l1 hl1
   split at hf
   ·rename_i hc
    obtain⟨hn,ho,hz⟩:=hc
    split at hf
    ·rename_i m hmm
     cases hf
     obtain⟨r1,r2,e1,e2,rfl⟩:=Zct h
     have hlen:=Zj6 h
     simp only[Z2i,Z3l]at hlen
     rcases Z2h.1 hm with rfl|hm
     ·subst ho
      exact⟨l1,r1,hl1,e1,by omega,by omega⟩
     ·exact Zr7 hmm (by simpa[Z47] using e2) f hm
    ·cases hf
   ·cases hf
  ·cases hf
theorem Zr9{l:List Nat}:∀(n:Nat) (XS YS:List Value) {r:Bool},Zcs (List.replicate n l).flatten XS YS=some r→
  ∀i,i<n→∃r1,Zcs l ((XS.drop (i*l.length)).take l.length) ((YS.drop (i*l.length)).take l.length)=some r1∧i*l.length+l.length≤XS.length∧i*l.length+l.length≤YS.length
 | 0,_,_,_,_,i,hi=>by omega
 | n+1,XS,YS,r,h,i,hi=>by
  rw[Z58,Z17]at h
  obtain⟨r1,r2,e1,e2,rfl⟩:=Zct h
  have hlen:=Zj6 h
  simp only[Z2i]at hlen
  cases i with
  | zero=>exact⟨r1,by simpa using e1,by omega,by omega⟩
  | succ i=>
   obtain⟨r3,g1,g2,g3⟩:=Zr9 n _ _ e2 i (by omega)
   simp only[Z3l,Z47]at g1 g2 g3
   have e:l.length+i*l.length=(i+1)*l.length:=by rw[Z32,Z59,Z6g]
   rw[e]at g1
   exact⟨r3,g1,by rw[Z32,Z59];omega,by rw[Z32,Z59];omega⟩
theorem Zic{β:Type}{B W:Nat→Prop}{N:Nat}(n:Nat)(b:β)(f:Nat→β→Sem (ForInStep β))(h:∀i,i<n→∀b,Plo P B W N (f i b)):Plo P B W N (forIn [:n] b f):=by
 rw[Z7b]
 refine Zib _ _ fun i hi b=>h i ?_ b
 simp[Std.Legacy.Range.size]at hi
 omega
def EqPl(P:Program)(dd d:Nat):Prop:=∀(t:Nat) (l:List Nat) (xs ys:List Value) (x y:Value) (r:Bool),Qk P d t=some l→ofC P t xs x→ofC P t ys y→Zcs l xs ys=some r→∀B W N,Plo P B W N (Op.equalIn dd t x y)
theorem eqPart{dd d t off:Nat}{l:List Nat}{r:Bool}{XS YS:List Value}{B W:Nat→Prop}{N:Nat}{α:Type}{f:Bool→Sem α}(IH:EqPl P dd d)(h:Qk P d t=some l)(he:Zcs l ((XS.drop off).take l.length) ((YS.drop off).take l.length)=some r)
  (h1:off+l.length≤XS.length)(h2:off+l.length≤YS.length)(hf:∀b,Plo P B W N (f b)):Plo P B W N (part t ⟨XS⟩ off >>= fun x=>part t ⟨YS⟩ off >>= fun y=>Op.equalIn dd t x y >>= f):=by
 obtain⟨x,p1,f1⟩:=Zb8 (XS:=XS) (off:=off) h h1 default
 obtain⟨y,p2,f2⟩:=Zb8 (XS:=YS) (off:=off) h h2 default
 exact(Zqq _ _ _).at p1 ((Zqq _ _ _).at p2 (Plo.bind (IH t l _ _ x y r h f1 f2 he B W N) hf))
theorem eqPl:∀(d q:Nat),EqPl P (q+d) d
 | 0,q=>by intro t l xs ys x y r h;simp[Qk]at h
 | d + 1, q=>by
  intro t l xs ys x y r h hx hy he B W N
  have h0:=h
  rw[show q+(d+1)=q+d+1 by omega]
  unfold Qk at h
  unfold Op.equalIn
  split at h
  ·rename_i i hu hi
   refine Zf hu ?_
   split<;>first|exact trivial|(rename_i e _ _;cases e;done)|(rename_i e _;cases e;done)|(rename_i e;cases e;done)
  ·rename_i k i hu hi
   split at h
   ·cases h
    have hA:Zh2 P t=false:=by simp[Zh2,hu]
    rcases hx with⟨hx,_⟩|⟨_,rfl⟩
    ·rw[hA]at hx;cases hx
    ·rcases hy with⟨hy,_⟩|⟨_,rfl⟩
     ·rw[hA]at hy;cases hy
     ·refine Zf hu ?_
      cases x<;>cases y<;>simp[Zcs]at he
      simp only[]
      split<;>exact trivial
   ·cases h
  ·rename_i i hu hi
   refine Zf hu ?_
   split<;>first|exact trivial|(rename_i e _ _;cases e;done)|(rename_i e _;cases e;done)|(rename_i e;cases e;done)
  ·rename_i fs i hu hi
   split at h
   ·cases h
   ·rename_i hs
    split at h
    ·rename_i l' hl
     split at h
     ·cases h
      have hA:Zh2 P t=true:=by simp[Zh2,hu]
      rcases hx with⟨_,rfl⟩|⟨hx,_⟩
      ·rcases hy with⟨_,rfl⟩|⟨hy,_⟩
       ·refine Zf hu ?_
        have hm:=Zr7 (XS:=xs) (YS:=ys) hl (by simpa using he)
        dsimp only
        refine Plo.bind Yq fun p=>Plo.ite (Plo.bind (Xe _) fun _=>?_) ?_
        all_goals
         refine Plo.bind (Zox _ _ fun f hf b=>?_) fun s=>?_
         ·obtain⟨l1,r1,g1,g2,g3,g4⟩:=hm f (Z25.2 hf)
          split
          ·exact eqPart (eqPl d q) g1 g2 g3 g4 fun b=>by cases b<;>exact trivial
          ·exact trivial
         ·split<;>exact trivial
       ·rw[hA]at hy;cases hy
      ·rw[hA]at hx;cases hx
     ·cases h
    ·cases h
  ·rename_i n e i hu hi
   split at h
   ·rename_i l' hl
    split at h
    ·rename_i hc
     cases h
     have hA:Zh2 P t=true:=by simp[Zh2,hu]
     rcases hx with⟨_,rfl⟩|⟨hx,_⟩
     ·rcases hy with⟨_,rfl⟩|⟨hy,_⟩
      ·refine Zf hu ?_
       dsimp only
       obtain⟨ie,hie,hse⟩:=Z28.1 hc.2.1
       refine Zha hie ?_
       rw[hse]
       refine Plo.bind (Zic _ _ _ fun i hi b=>?_) fun s=>?_
       ·obtain⟨r1,g2,g3,g4⟩:=Zr9 n xs ys (by simpa using he) i hi
        exact eqPart (eqPl d q) hl g2 g3 g4 fun b=>by cases b<;>exact trivial
       ·split<;>exact trivial
      ·rw[hA]at hy;cases hy
     ·rw[hA]at hx;cases hx
    ·cases h
   ·cases h
  ·cases h
theorem Zi8{op:BinOp}{t:Nat}{x y:Operand}{xs ys:Array Value}{B W:Nat→Prop}{N:Nat}(h:P.eqGuardType P.depth t=false):Plo P B W N (eqGuard op t x y (.agg xs) (.agg ys)):=by
 have key:Plo P B W N (program >>= fun p=>program >>= fun q=>if (!p.eqGuardType q.depth t)=true then (pure ():Sem Unit) else Op.eqGuardIn Op.maxDepth t (.agg xs) (.agg ys) >>= fun b=>if b=true then unsupported (.noEntry "binop/eql: two nil values of an interface type with methods, in a part of a struct or an array") else pure ()):=by
  refine .inl (.inl ?_)
  show Plo P B W N (if (!P.eqGuardType P.depth t)=true then (pure ():Sem Unit) else _)
  rw[h]
  exact trivial
 cases op<;>first|exact trivial|exact key
theorem q_eqA{S:Tab P}{ρ:Z9}{L:Za}{d:Option Tmp}{ty:TypeId}{pos:String}{af:Array Edge}{g:Option (Nat × Bool)}{t t':Nat}{l:List Nat}{x y:Operand}{xs ys:List Value}{r:Bool}
  (hx:ev ρ x=some (.agg ⟨xs⟩))(hy:ev ρ y=some (.agg ⟨ys⟩))(ht:Yj S.eq t=some l)(he:Zcs l xs ys=some r):QOp P ⟨d,.binOp .eql t x y t',ty,pos,af,g⟩ ρ L (.bool r):=by
 have h:=Z2u.1 S.eq_ok _ (Zcy ht)
 simp only[Z27,Z3r,Z6m]at h
 refine Zc3 hx hy (fun w=>run_eqGuard_agg w .eql t x y ⟨xs⟩ ⟨ys⟩ h.2) (fun w=>?_) (fun B W N=>Zi8 h.2) (fun B W N=>eqPl 8 9992 t l xs ys _ _ r h.1.1 (.inl ⟨h.1.2,rfl⟩) (.inl ⟨h.1.2,rfl⟩) he B W N) rfl
 exact Zsa 8 9992 t l xs ys _ _ r w h.1.1 (.inl ⟨h.1.2,rfl⟩) (.inl ⟨h.1.2,rfl⟩) he
theorem q_neA{S:Tab P}{ρ:Z9}{L:Za}{d:Option Tmp}{ty:TypeId}{pos:String}{af:Array Edge}{g:Option (Nat × Bool)}{t t':Nat}{l:List Nat}{x y:Operand}{xs ys:List Value}{r:Bool}
  (hx:ev ρ x=some (.agg ⟨xs⟩))(hy:ev ρ y=some (.agg ⟨ys⟩))(ht:Yj S.eq t=some l)(he:Zcs l xs ys=some r):QOp P ⟨d,.binOp .neq t x y t',ty,pos,af,g⟩ ρ L (.bool (!r)):=by
 have h:=Z2u.1 S.eq_ok _ (Zcy ht)
 simp only[Z27,Z3r,Z6m]at h
 refine Za7 hx hy (fun w=>run_eqGuard_agg w .neq t x y ⟨xs⟩ ⟨ys⟩ h.2) (fun w=>?_) (fun B W N=>Zi8 h.2) (fun B W N=>eqPl 8 9992 t l xs ys _ _ r h.1.1 (.inl ⟨h.1.2,rfl⟩) (.inl ⟨h.1.2,rfl⟩) he B W N) rfl
 exact Zsa 8 9992 t l xs ys _ _ r w h.1.1 (.inl ⟨h.1.2,rfl⟩) (.inl ⟨h.1.2,rfl⟩) he
end eq
def uc(b:UInt8):List Value:=[.int .u8 b.toNat]
theorem Zzc(l:List UInt8):(l.map uc).flatten=l.map fun b=>Value.int .u8 b.toNat:=by
 induction l with
 | nil=>rfl
 | cons b r ih=>simp only[Z2s,Z17,ih];rfl
theorem Zno(z:Value)(n:Nat):madeCells #[z] n=⟨List.replicate n z⟩:=by
 apply Z53
 simp only[madeCells,Z5y,Array.toList_range]
 apply Z3i
 intro i
 by_cases h:i<n
 ·simp[h,Z24,Z6u]
 ·simp[h,Z24]
section m
variable{P:Program}(S:Tab P){n:Nat}{ops:List Oper}{Q:Exit→Z9→Za→Prop}{rest:List Oper}{ρ:Z9}{L:Za}{ty:TypeId}{pos:String}{af:Array Edge}
theorem Zqm{d t E y0 s0 b0 k1 x1 y1 by1:Nat}{z zv:Value}{x y:Operand}{kl kc:IntKind}{l c:Int}(hx:ev ρ x=some (.int kl l))(hy:ev ρ y=some (.int kc c))(ht:Yj S.ty t=some ⟨5,E,y0,s0,b0⟩)(he:Yj S.ty E=some ⟨k1,x1,y1,1,by1⟩)
  (hz:Yj S.zr E=some z)(hzs:z.cells=#[zv])(hn:Nat.blt d n=true)(hc:0≤l∧l≤c∧(by1:Int)*c≤281474976710656∧c≤9223372036854775807)
  (h:∀b,HO P n ops Q rest ((d,sl b 0 l.toNat c.toNat)::ρ) ([(b,.cells ⟨List.replicate c.toNat zv⟩ E)]::L)):HO P n ops Q (⟨some d,.makeSlice t x y,ty,pos,af,none⟩::rest) ρ L:=by
 refine Ut rfl rfl hn fun ρe he' k w hs=>⟨sl w.heap.size 0 l.toNat c.toNat,w.alloc (.cells ⟨List.replicate c.toNat zv⟩ E),_,?_,hs.new _,h _⟩
 have hdesc:=Z7 (S.tyI ht) rfl
 obtain⟨de,i,hde,hi,-,hisz,hiby⟩:=X8 (S.tyI he)
 simp only at hisz hiby
 have hiz:i.zero=some z:=by
  have:=S.zeroI hz
  unfold zeroI at this
  simpa[hi] using this
 have hr:=run_make (P:=P) w t E i z hdesc hi hiz kl kc l c hc.1 hc.2.1 (by rw[hiby];exact hc.2.2.1) hc.2.2.2
 rw[hisz,hzs,Z5t,Zno]at hr
 simp[execOp,he' x (by simp[Op.operands]) _ hx,he' y (by simp[Op.operands]) _ hy,hr]
theorem Ztu:∀(l:List UInt8) (s:List UInt8),(l.map fun b=>((b.toNat:Nat):Int)).foldl (fun r (n:Int)=>r.push (UInt8.ofNat n.toNat)) (ByteArray.mk ⟨s⟩)=ByteArray.mk ⟨s++l⟩
 | [],s=>by simp
 | b::r,s=>by
  have e:(ByteArray.mk ⟨s⟩).push (UInt8.ofNat (((b.toNat:Nat):Int)).toNat)=ByteArray.mk ⟨s++[b]⟩:=by
   apply ByteArray.ext
   simp[ByteArray.push]
  rw[Z2s,Z3y,e,Ztu r (s++[b])]
  simp
theorem Zh9(v:Value){B W:Nat→Prop}{N:Nat}:Plo P B W N (Conv.bytesToString v):=by
 unfold Conv.bytesToString
 split
 ·exact trivial
 ·refine Plo.bind (Ye _ _) fun cs=>Plo.bind (Zox _ _ fun c hc b=>?_) fun _=>?_
  ·split<;>exact trivial
  ·exact trivial
 ·exact trivial
theorem Zmi{d:Option Tmp}{g:Option (Nat × Bool)}{t t2 E y0 s0 b0 x1 y1 s1 by1:Nat}{ti:TyI}{x:Operand}{a:Option Addr}{cap:Nat}{l:List UInt8}(hx:ev ρ x=some (.slice a l.length cap))(ht:Yj S.ty t=some ⟨5,E,y0,s0,b0⟩)(he:Yj S.ty E=some ⟨2,x1,y1,s1,by1⟩)(hu:Nat.beq x1 4=true)
  (ht2:Yj S.ty t2=some ti)(h3:Nat.beq ti.kind 3=true)(hR:Rd uc 1 L a l):QOp P ⟨d,.convert t t2 x,ty,pos,af,g⟩ ρ L (bs l):=
 Vi (fun ρe he' N=>by
  have hu':=Z2a hu
  have h1:=Z7 (S.tyI ht) rfl
  have h2:=Qz (S.tyI ht2) (Z2a h3)
  have h4:P.underlying E=some (.int .u8):=by
   have:=Zdc (S.tyI he) rfl
   simpa[hu',Zbr] using this
  simp only[execOp,he' x (by simp[Op.operands]) _ hx]
  refine Plo.bind ?_ fun _=>trivial
  unfold convert
  refine Zf h1 (Zf h2 ?_)
  dsimp only
  refine Zf h4 ?_
  dsimp only
  exact Zh9 _) fun ρe he' k w hs=>by
  have hu':=Z2a hu
  have h1:=Z7 (S.tyI ht) rfl
  have h2:=Qz (S.tyI ht2) (Z2a h3)
  have h4:P.underlying E=some (.int .u8):=by
   have:=Zdc (S.tyI he) rfl
   simpa[hu',Zbr] using this
  have hcv:(Conv.bytesToString (.slice a l.length cap)).run P w=.ok (bs l) w:=by
   rcases hR with rfl|⟨b,i,c,E',fr,rfl,hb,hg⟩
   ·cases a with
    | none=>simp[Conv.bytesToString,Z37];rfl
    | some a=>
     have:=run_bytesToString (P:=P) w a 0 cap [] (by simp[loadCells,loadCellsFrom])
     exact this
   ·have hg2:Gets c i ((l.map fun b=>((b.toNat:Nat):Int)).map (Value.int .u8)):=by
     have:=Zh0 (enc:=uc) (sz:=1) (fun _=>rfl) l i hg
     rw[Zzc]at this
     rw[List.map_map]
     exact this
    have hld:=Zf4 (P:=P) hs hb hg2
    simp only[Z26]at hld
    have:=run_bytesToString (P:=P) w ⟨b,i,none⟩ l.length cap (l.map fun b=>((b.toNat:Nat):Int)) (by simpa using hld)
    rw[this]
    have e:=Ztu l []
    simp only[Z2b]at e
    exact congrArg (fun z=>Result.ok (Value.string z) w) e
  simp[execOp,he' x (by simp[Op.operands]) _ hx,convert,Z2k h1,Z2k h2,Z2k h4,hcv]
theorem Zcm(l:List UInt8)(a b:Nat):(ByteArray.mk ⟨l⟩).extract a b=ByteArray.mk ⟨(l.take b).drop a⟩:=by
 apply ByteArray.ext
 simp[ByteArray.data_extract,List.extract_eq_take_drop,List.drop_take]
theorem q_strLo{d:Option Tmp}{g:Option (Nat × Bool)}{t:Nat}{ti:TyI}{x y:Operand}{k:IntKind}{lo:Int}{l:List UInt8}(hx:ev ρ x=some (bs l))(hy:ev ρ y=some (.int k lo))(ht:Yj S.ty t=some ti)(hk:Nat.beq ti.kind 3=true)(h:0≤lo∧lo≤l.length):
  QOp P ⟨d,.slice t x (some y) none none,ty,pos,af,g⟩ ρ L (bs (l.drop lo.toNat)):=
 Ws fun ρe he k' w hs=>by
  have h1:=Qz (S.tyI ht) (Z2a hk)
  have e:(ByteArray.mk ⟨l⟩).extract lo.toNat l.length=ByteArray.mk ⟨l.drop lo.toNat⟩:=by rw[Zcm,Z4c]
  simp[execOp,he x (by simp[Op.operands]) _ hx,he y (by simp[Op.operands]) _ hy,run_sliceAt_string _ _ _ _ _ _ h1,Instr.slice,Z2k h1,Instr.sliceBounds,run_sliceBound,Zcn,h.1,h.2,e]
theorem q_strHi{d:Option Tmp}{g:Option (Nat × Bool)}{t:Nat}{ti:TyI}{x y:Operand}{k:IntKind}{hi:Int}{l:List UInt8}(hx:ev ρ x=some (bs l))(hy:ev ρ y=some (.int k hi))(ht:Yj S.ty t=some ti)(hk:Nat.beq ti.kind 3=true)(h:0≤hi∧hi≤l.length):
  QOp P ⟨d,.slice t x none (some y) none,ty,pos,af,g⟩ ρ L (bs (l.take hi.toNat)):=
 Ws fun ρe he k' w hs=>by
  have h1:=Qz (S.tyI ht) (Z2a hk)
  have e:(ByteArray.mk ⟨l⟩).extract 0 hi.toNat=ByteArray.mk ⟨l.take hi.toNat⟩:=by rw[Zcm,List.drop_zero]
  simp[execOp,he x (by simp[Op.operands]) _ hx,he y (by simp[Op.operands]) _ hy,run_sliceAt_string _ _ _ _ _ _ h1,Instr.slice,Z2k h1,Instr.sliceBounds,run_sliceBound,Zcn,h.1,h.2,e]
theorem q_strLH{d:Option Tmp}{g:Option (Nat × Bool)}{t:Nat}{ti:TyI}{x y z:Operand}{k k2:IntKind}{lo hi:Int}{l:List UInt8}(hx:ev ρ x=some (bs l))(hy:ev ρ y=some (.int k lo))(hz:ev ρ z=some (.int k2 hi))(ht:Yj S.ty t=some ti)(hk:Nat.beq ti.kind 3=true)(h:0≤lo∧lo≤hi∧hi≤l.length):
  QOp P ⟨d,.slice t x (some y) (some z) none,ty,pos,af,g⟩ ρ L (bs ((l.take hi.toNat).drop lo.toNat)):=
 Ws fun ρe he k' w hs=>by
  have h1:=Qz (S.tyI ht) (Z2a hk)
  have e:=Zcm l lo.toNat hi.toNat
  have h0:0≤hi:=by omega
  have eh:(hi.toNat:Int)=hi:=Int.toNat_of_nonneg h0
  simp[execOp,he x (by simp[Op.operands]) _ hx,he y (by simp[Op.operands]) _ hy,he z (by simp[Op.operands]) _ hz,run_sliceAt_string _ _ _ _ _ _ h1,Instr.slice,Z2k h1,Instr.sliceBounds,run_sliceBound,Zcn,h.1,h.2.1,h.2.2,h0,eh,e]
/-! struct literals -/
def X6:Value→List Value
 | .agg ⟨vs⟩=>vs
 | v=>[v]
theorem Zn8(v:Value):v.cells=⟨X6 v⟩:=by cases v<;>rfl
def Ztv:List Value→Nat→List Value→List Value
 | cells,_,[]=>cells
 | cells,off,v::r=>Ztv (cells.set off v) (off+1) r
def Zod(fs:List (Nat × Nat × Nat)):List Value→List (Nat × Value)→Option (List Value)
 | cells,[]=>some cells
 | cells,(i,v)::r=>(fs[i]?).bind fun q=>bif Nat.beq (X6 v).length q.2.1 && Nat.ble (q.1+(X6 v).length) cells.length then Zod fs (Ztv cells q.1 (X6 v)) r else none
def nfL{α:Type}:List Value→(List Value→Option α)→Option α
 | [],k=>k []
 | x::r,k=>nfL r fun r'=>k (x::r')
theorem Zh6{α:Type}:∀(l:List Value) (k:List Value→Option α),nfL l k=k l
 | [],k=>rfl
 | x::r,k=>Zh6 r _
def U9(ρ:Z9):List (Nat × Operand)→Option (List (Nat × Value))
 | []=>some []
 | (i,x)::r=>match ev ρ x,U9 ρ r with
  | some v,some vs=>some ((i,v)::vs)
  | _,_=>none
theorem Zwp:∀(vs:List Value) (cells:List Value) (off j:Nat),(vs.zipIdx j).foldl (fun(cs:Array Value) (p:Value × Nat)=>cs.setIfInBounds (off+p.2) p.1) ⟨cells⟩=⟨Ztv cells (off+j) vs⟩
 | [],cells,off,j=>rfl
 | v::r,cells,off,j=>by
  simp only[List.zipIdx_cons,Z3y,Ztv]
  rw[show (Array.mk cells).setIfInBounds (off+j) v=⟨cells.set (off+j) v⟩ by simp,Zwp r _ off (j+1)]
  rfl
theorem Zbh{ρ:Z9}{ρe:Operand→Value}:∀{l:List (Nat × Operand)} {vs:List (Nat × Value)},(∀p∈l,∀u,ev ρ p.2=some u→ρe p.2=u)→U9 ρ l=some vs→(l.map fun p=>(p.1,ρe p.2))=vs
 | [],vs,_,h=>by simp[U9]at h;subst h;rfl
 | (i,x)::r,vs,he,h=>by
  simp only[U9]at h
  cases hx:ev ρ x with
  | none=>simp[hx]at h
  | some v=>
   cases hr:U9 ρ r with
   | none=>simp[hx,hr]at h
   | some us=>
    simp[hx,hr]at h
    subst h
    rw[Z2s,Zbh (fun p hp=>he p (by simp[hp])) hr,he (i,x) (by simp) v hx]
theorem Zx6{fs:List (Nat × Nat × Nat)}{place:Nat→Option (Nat × Nat)}(hp:∀i,place i=(fs[i]?).map fun q=>(q.1,q.2.1)):∀(l:List (Nat × Value)) (cells out:List Value),Zod fs cells l=some out→Instr.fill place ⟨cells⟩ l=some ⟨out⟩
 | [],cells,out,h=>by simp[Zod]at h;subst h;rfl
 | (i,v)::r,cells,out,h=>by
  simp only[Zod]at h
  obtain⟨q,hq,h1⟩:=bind_some h
  obtain⟨hc,h2⟩:=Zx h1
  simp only[Z27]at hc
  have e1:=Z2a hc.1
  have e2:=Z2m hc.2
  have ih:=Zx6 hp r _ out h2
  have e3:=Zwp (X6 v) cells q.1 0
  simp only[Z4t]at e3
  unfold Instr.fill
  rw[hp i,hq]
  simp only[Z42,Zn8]
  have hcond:(decide ((Array.mk (X6 v)).size≠q.2.1) || decide (q.1+(Array.mk (X6 v)).size>(Array.mk cells).size))=false:=by simp;omega
  rw[hcond]
  simp only[Z2r,Z3h]
  have e4:(Array.zipIdx ⟨X6 v⟩ 0:Array (Value × Nat))=⟨(X6 v).zipIdx 0⟩:=by simp
  rw[e4]
  simp only[List.foldl_toArray]
  rw[e3]
  exact ih
theorem Zfp{α β:Type}{f:α→Sem β}{w:World}:∀(l:List α) (r:List β),(∀(i:Nat) (x:α),l[i]?=some x→∃y,r[i]?=some y∧(f x).run P w=.ok y w)→l.length=r.length→(l.mapM f).run P w=.ok r w
 | [],r,_,hl=>by
  have:r=[]:=by cases r with|nil=>rfl|cons _ _=>simp at hl
  subst this
  simp[Z37]
 | x::l,r,h,hl=>by
  cases r with
  | nil=>simp at hl
  | cons y r=>
   obtain⟨y',hy,hf⟩:=h 0 x rfl
   simp at hy
   subst hy
   have ih:=Zfp l r (fun i z hz=>h (i+1) z hz) (by simpa using hl)
   simp[List.mapM_cons,Z3q,hf,ih,Result.andThen,Z37]
theorem Z1s{t:Nat}{fs:List (Nat × Nat × Nat)}(h:stI P t=some fs):∃fields,P.underlying t=some (.struct fields)∧∀w,(fields.mapM fun f=>do pure (f.offset,← sizeOf f.type):Sem (Array (Nat × Nat))).run P w=.ok (fs.map fun q=>(q.1,q.2.1)).toArray w:=by
 unfold stI at h
 split at h
 ·rename_i fields hu
  refine⟨fields,hu,fun w=>?_⟩
  rw[Z5f]
  have hl:∀(l:List Field) (fs:List (Nat × Nat × Nat)),(l.mapM fun f=>(P.info? f.type).map fun i=>(f.offset,i.size,f.type))=some fs→l.length=fs.length∧∀(i:Nat) (x:Field),l[i]?=some x→∃y,fs[i]?=some y∧∃j,P.info? x.type=some j∧y=(x.offset,j.size,x.type):=by
   intro l
   induction l with
   | nil=>intro fs h;simp at h;subst h;simp
   | cons f l ih=>
    intro fs h
    simp only[List.mapM_cons,bind,Option.bind_eq_some_iff,pure]at h
    obtain⟨y,hy,r,hr,e⟩:=h
    cases e
    obtain⟨h1,h2⟩:=ih r hr
    refine⟨by simp[h1],fun i x hx=>?_⟩
    cases i with
    | zero=>
     simp at hx
     subst hx
     simp only[Z28]at hy
     obtain⟨j,hj,e⟩:=hy
     exact⟨y,rfl,j,hj,e.symm⟩
    | succ i=>exact h2 i x hx
  obtain⟨h1,h2⟩:=hl _ _ h
  have hr:=Zfp (P:=P) (w:=w) (f:=fun f:Field=>(do pure (f.offset,← sizeOf f.type):Sem (Nat × Nat))) fields.toList (fs.map fun q=>(q.1,q.2.1)) (fun i x hx=>by
   obtain⟨y,hy,j,hj,e⟩:=h2 i x hx
   refine⟨(y.1,y.2.1),by simp[hy],?_⟩
   subst e
   simp[sizeOf,typeInfo,hj]) (by simpa using h1)
  simp only[map_eq_pure_bind,Z3q,hr,Result.andThen,Z37]
 ·cases h
theorem q_build{d:Option Tmp}{g:Option (Nat × Bool)}{t:Nat}{parts:Array (Nat × Operand)}{zs out:List Value}{vals:List (Nat × Value)}{fs:List (Nat × Nat × Nat)}(hz:Yj S.zr t=some (.agg ⟨zs⟩))(hs:Yj S.st t=some fs)(hp:U9 ρ parts.toList=some vals)
  (hf:((Zod fs zs vals).bind fun l=>nfL l some)=some out):QOp P ⟨d,.build t parts,ty,pos,af,g⟩ ρ L (.agg ⟨out⟩):=
 Ws fun ρe he k w hsat=>by
  obtain⟨l,hl,h1⟩:=bind_some hf
  rw[Zh6]at h1
  cases h1
  obtain⟨fields,hu,hm⟩:=Z1s (S.stI hs)
  have hzero:=Zbe (S.zeroI hz) w
  have hm2:=hm w
  have e1:(parts.map fun p=>(p.1,ρe p.2)).toList=vals:=by
   rw[Z5y]
   exact Zbh (fun p hp' u hu=>he p.2 (by simp[Op.operands];exact⟨p.1,by simpa using hp'⟩) u hu) hp
  have hfill:=Zx6 (place:=fun i=>((fs.map fun q=>(q.1,q.2.1)).toArray)[i]?) (fun i=>by simp) vals zs out hl
  show (Instr.build t (parts.map fun p=>(p.1,ρe p.2)) >>= fun v=>pure (Next.value v):Sem Next).run P w=_
  simp only[Z3q,Instr.build,hzero,Result.andThen,Z2k hu,hm2,e1,Value.cells,hfill]
  rfl
end m
section
/-! short names for a walk's own simplifications -/
theorem zA{a b:Bool}:((!a)=b)↔a = !b:=Bool.not_eq_eq_eq_not
theorem zB:(!true)=false:=rfl
theorem zC:(!false)=true:=rfl
theorem zD{p:Prop}[Decidable p]:(decide p=true)=p:=Z3r
theorem zE{p:Prop}{x:Decidable p}:decide p=false↔¬ p:=decide_eq_false_iff_not
theorem zF{p:Prop}[Decidable p]:¬ ¬ p↔p:=Z6n
theorem zG(a b:Bool):((a && b)=true)=(a=true∧b=true):=Z27 a b
theorem zH{α:Type}[BEq α][LawfulBEq α]{a b:α}:(a == b)=true↔a=b:=beq_iff_eq
theorem zI(h:Decidable True):@decide True h=true:=decide_true h
theorem zJ(b:Bool):(b && true)=b:=Bool.and_true b
theorem zK(b:Bool):(true && b)=b:=Bool.true_and b
theorem zL:(¬ True)=False:=Z36
theorem zM:(¬ False)=True:=Z6p
open Go
def Ul:Z9→Bool
 | []=>true
 | _::_=>true
/-! ### control -/
section c
variable{P:Program}{n:Nat}{ops:List Oper}{Q:Exit→Z9→Za→Prop}{rest:List Oper}{ρ:Z9}{L:Za}
theorem g_t{c:Operand}{x y:Code}{b:Bool}(h:HW P n x Q ρ L)(h00:Ul ρ=true:=by exact rfl)(hc:ev ρ c=some (.bool b):=by exact rfl)(hb:b=true:=by with_reducible exact rfl):HW P n (.cond c x y) Q ρ L:=Zyf hc hb h
theorem g_f{c:Operand}{x y:Code}{b:Bool}(h:HW P n y Q ρ L)(h00:Ul ρ=true:=by exact rfl)(hc:ev ρ c=some (.bool b):=by exact rfl)(hb:b=false:=by with_reducible exact rfl):HW P n (.cond c x y) Q ρ L:=Zsq hc hb h
theorem g_b{c:Operand}{x y:Code}{b:Bool}(ht:b=true→HW P n x Q ρ L)(hf:b=false→HW P n y Q ρ L)(h00:Ul ρ=true:=by exact rfl)(hc:ev ρ c=some (.bool b):=by exact rfl):HW P n (.cond c x y) Q ρ L:=hw_bool hc ht hf
theorem g_bx{id i:Nat}(h:Q (.exit i) ρ L)(h00:Ul ρ=true:=by exact rfl)(hn:Nat.beq i id=false:=by exact rfl):W6 id Q (.exit i) ρ L:=Zzp hn h
/-! ### operations -/
variable{op:Op}{ty:TypeId}{pos:String}{af:Array Edge}{g:Option (Nat × Bool)}{d:Nat}
theorem X7{v:Value}(h:QOp P ⟨some d,op,ty,pos,af,g⟩ ρ L v)(hr:HO P n ops Q rest ((d,v)::ρ) L)(h00:Ul ρ=true:=by exact rfl)(hg:Y3 ops ρ g=some true:=by exact rfl)(hn:Nat.blt d n=true:=by exact rfl):HO P n ops Q (⟨some d,op,ty,pos,af,g⟩::rest) ρ L:=ho_go hg hn h hr
theorem g_n(hr:HO P n ops Q rest ((d,undef)::ρ) L)(h00:Ul ρ=true:=by exact rfl)(hg:Y3 ops ρ g=some false:=by exact rfl)(hn:Nat.blt d n=true:=by exact rfl):HO P n ops Q (⟨some d,op,ty,pos,af,g⟩::rest) ρ L:=ho_no hg hn hr
theorem g_on{d:Option Tmp}{j:Nat}{wt:Bool}(h:HO P n ops Q (⟨d,op,ty,pos,af,none⟩::rest) ρ L)(h00:Ul ρ=true:=by exact rfl)(hg:Y3 ops ρ (some (j,wt))=some true:=by exact rfl):HO P n ops Q (⟨d,op,ty,pos,af,some (j,wt)⟩::rest) ρ L:=ho_on hg h
theorem g_s{d j t:Nat}{wt:Bool}{b:Bool}(h1:b=true→HO P n ops Q (⟨some d,op,ty,pos,af,some (j,wt)⟩::rest) ((t,.bool true)::ρ) L)(h0:b=false→HO P n ops Q (⟨some d,op,ty,pos,af,some (j,wt)⟩::rest) ((t,.bool false)::ρ) L)
  (h00:Ul ρ=true:=by exact rfl)(hj:Zb2 ops j=some t:=by exact rfl)(ht:lk ρ t=some (.bool b):=by exact rfl):HO P n ops Q (⟨some d,op,ty,pos,af,some (j,wt)⟩::rest) ρ L:=Zz8 hj ht h1 h0
variable{K:Z9→Prop}
theorem Qm{v:Value}(h:QOp P ⟨some d,op,ty,pos,af,g⟩ ρ L v)(hr:HQ P n ops K rest ((d,v)::ρ) L)(h00:Ul ρ=true:=by exact rfl)(hg:Y3 ops ρ g=some true:=by exact rfl)(hn:Nat.blt d n=true:=by exact rfl):HQ P n ops K (⟨some d,op,ty,pos,af,g⟩::rest) ρ L:=hq_go hg hn h hr
theorem k_n(hr:HQ P n ops K rest ((d,undef)::ρ) L)(h00:Ul ρ=true:=by exact rfl)(hg:Y3 ops ρ g=some false:=by exact rfl)(hn:Nat.blt d n=true:=by exact rfl):HQ P n ops K (⟨some d,op,ty,pos,af,g⟩::rest) ρ L:=hq_no hg hn hr
theorem k_s{d j t:Nat}{wt:Bool}{b:Bool}(h1:b=true→HQ P n ops K (⟨some d,op,ty,pos,af,some (j,wt)⟩::rest) ((t,.bool true)::ρ) L)(h0:b=false→HQ P n ops K (⟨some d,op,ty,pos,af,some (j,wt)⟩::rest) ((t,.bool false)::ρ) L)
  (h00:Ul ρ=true:=by exact rfl)(hj:Zb2 ops j=some t:=by exact rfl)(ht:lk ρ t=some (.bool b):=by exact rfl):HQ P n ops K (⟨some d,op,ty,pos,af,some (j,wt)⟩::rest) ρ L:=Z0b hj ht h1 h0
def calm:List Oper→Bool
 | []=>true
 | o::r=>bif isAct o then false else calm r
theorem g_k{id:Nat}(S:Tab P)(h:HQ P n ops (fun ρ'=>Q .normal ρ' L) ops ρ L)(h00:Ul ρ=true:=by exact rfl)(hc:calm ops=true:=by exact rfl)(hB:Region.lexB .any ops.toArray=true:=by decide +kernel):HW P n (.region id ops.toArray true) Q ρ L:=Zss S hB h
theorem g_d{id:Nat}(S:Tab P){rem:List (Nat × Oper)}(h:HD P n ops Q [] rem ρ L)(h00:Ul ρ=true:=by exact rfl)(h0:Ztg nums ops some=some rem:=by exact rfl):HW P n (.region id ops.toArray true) Q ρ L:=Zye S h0 h
theorem g_w{id:Nat}(S:Tab P){rem:List (Nat × Oper)}(h:HD P n ops Q [] rem ρ L)(h00:Ul ρ=true:=by exact rfl)(hc:calm ops=false:=by exact rfl)(h0:Ztg nums ops some=some rem:=by exact rfl):HW P n (.region id ops.toArray true) Q ρ L:=Zye S h0 h
end c
/-! ### what reads -/
section q
variable{P:Program}{ρ:Z9}{L:Za}{d:Option Tmp}{ty:TypeId}{pos:String}{af:Array Edge}{g:Option (Nat × Bool)}
theorem qe(S:Tab P){o:Op}{v:Value}{p:Prop}(h00:Ul ρ=true:=by exact rfl)(h:opE S.ty S.fl ρ o=some (v,p):=by exact rfl)(hp:p:=by first|exact trivial|omega|assumption|(simp only[Z2i,Z2y,Z23];omega)|(simp only[loE,Ze6,wdE,Int.reduceToNat,Int.reducePow]at *;omega)):QOp P ⟨d,o,ty,pos,af,g⟩ ρ L v:=opE_q S h hp
theorem qg(S:Tab P){t n:Nat}{ti:TyI}{v:Value}(h00:Ul ρ=true:=by exact rfl)(ht:Yj S.ty t=some ti:=by exact rfl)(h6:Nat.beq ti.kind 6=false:=by exact rfl)(h7:Nat.beq ti.kind 7=false:=by exact rfl)(hg:Gl L n v:=by (repeat (first|assumption|exact Errs.get (by assumption) rfl rfl|apply Gl.cons))):
  QOp P ⟨d,.load t (.global n),ty,pos,af,g⟩ ρ L v:=q_gload S ht h6 h7 hg
theorem ql(S:Tab P){t b i E:Nat}{ti:TyI}{x:Operand}{l:List Value}{fr:Nat × Nat}{v:Value}(h00:Ul ρ=true:=by exact rfl)(hx:ev ρ x=some (pt b i):=by exact rfl)(ht:Yj S.ty t=some ti:=by exact rfl)(h6:Nat.beq ti.kind 6=false:=by exact rfl)(h7:Nat.beq ti.kind 7=false:=by exact rfl)
  (hb:Has L b (.cells ⟨l⟩ E fr):=by (repeat (first|assumption|exact Zk|exact Yr (by assumption)|apply Qp|apply Zb)))(hv:l[i]?=some v:=by (first|exact rfl|assumption|exact Gets.at (by assumption) rfl|exact Gets.at0 (by assumption) rfl)):
  QOp P ⟨d,.load t x,ty,pos,af,g⟩ ρ L v:=Zmg S hx ht h6 h7 hb hv
theorem Zsk{l vs:List Value}{i n:Nat}(h:Gets l i vs)(hn:n=vs.length):Gets l i vs∧n=vs.length:=⟨h,hn⟩
theorem qs(S:Tab P){t b i E:Nat}{ti:TyI}{x:Operand}{l vs:List Value}{fr:Nat × Nat}(h00:Ul ρ=true:=by exact rfl)(hx:ev ρ x=some (pt b i):=by exact rfl)(ht:Yj S.ty t=some ti:=by exact rfl)(h7:(Nat.beq ti.kind 6 || Nat.beq ti.kind 7)=true:=by exact rfl)
  (hb:Has L b (.cells ⟨l⟩ E fr):=by (repeat (first|assumption|exact Zk|exact Yr (by assumption)|apply Qp|apply Zb)))
  (hv:Gets l i vs∧ti.size=vs.length:=by (first|(refine Zsk (by assumption) ?_;rfl)|exact⟨Zc rfl (Zc rfl (Zc rfl Z6)),rfl⟩|exact⟨Zc rfl (Zc rfl Z6),rfl⟩|exact⟨Zc rfl (Zc rfl (Zc rfl (Zc rfl Z6))),rfl⟩|exact⟨Zc rfl (Zc rfl (Zc rfl (Zc rfl (Zc rfl (Zc rfl (Zc rfl (Zc rfl (Zc rfl Z6)))))))),rfl⟩)):
  QOp P ⟨d,.load t x,ty,pos,af,g⟩ ρ L (.agg ⟨vs⟩):=Zy2 S hx ht h7 hb hv
theorem qn(S:Tab P){t:Nat}{x:Operand}{b:Bool}(h00:Ul ρ=true:=by exact rfl)(hx:ev ρ x=some (.bool b):=by exact rfl):QOp P ⟨d,.unOp .not t x,ty,pos,af,g⟩ ρ L (.bool (!b)):=q_not hx
theorem qb(S:Tab P){t:Nat}{parts:Array (Nat × Operand)}{zs out:List Value}{vals:List (Nat × Value)}{fs:List (Nat × Nat × Nat)}(h00:Ul ρ=true:=by exact rfl)(hz:Yj S.zr t=some (.agg ⟨zs⟩):=by exact rfl)(hs:Yj S.st t=some fs:=by exact rfl)(hp:U9 ρ parts.toList=some vals:=by exact rfl)
  (hf:((Zod fs zs vals).bind fun l=>nfL l some)=some out:=by exact rfl):QOp P ⟨d,.build t parts,ty,pos,af,g⟩ ρ L (.agg ⟨out⟩):=q_build S hz hs hp hf
theorem qSl(S:Tab P){t:Nat}{ti:TyI}{x y:Operand}{k:IntKind}{lo:Int}{l:List UInt8}(h00:Ul ρ=true:=by exact rfl)(hx:ev ρ x=some (bs l):=by exact rfl)(hy:ev ρ y=some (.int k lo):=by exact rfl)(ht:Yj S.ty t=some ti:=by exact rfl)(hk:Nat.beq ti.kind 3=true:=by exact rfl)(h:0≤lo∧lo≤l.length:=by omega):
  QOp P ⟨d,.slice t x (some y) none none,ty,pos,af,g⟩ ρ L (bs (l.drop lo.toNat)):=q_strLo S hx hy ht hk h
theorem qSh(S:Tab P){t:Nat}{ti:TyI}{x y:Operand}{k:IntKind}{hi:Int}{l:List UInt8}(h00:Ul ρ=true:=by exact rfl)(hx:ev ρ x=some (bs l):=by exact rfl)(hy:ev ρ y=some (.int k hi):=by exact rfl)(ht:Yj S.ty t=some ti:=by exact rfl)(hk:Nat.beq ti.kind 3=true:=by exact rfl)(h:0≤hi∧hi≤l.length:=by omega):
  QOp P ⟨d,.slice t x none (some y) none,ty,pos,af,g⟩ ρ L (bs (l.take hi.toNat)):=q_strHi S hx hy ht hk h
theorem qSb(S:Tab P){t:Nat}{ti:TyI}{x y z:Operand}{k k2:IntKind}{lo hi:Int}{l:List UInt8}(h00:Ul ρ=true:=by exact rfl)(hx:ev ρ x=some (bs l):=by exact rfl)(hy:ev ρ y=some (.int k lo):=by exact rfl)(hz:ev ρ z=some (.int k2 hi):=by exact rfl)(ht:Yj S.ty t=some ti:=by exact rfl)(hk:Nat.beq ti.kind 3=true:=by exact rfl)(h:0≤lo∧lo≤hi∧hi≤l.length:=by omega):
  QOp P ⟨d,.slice t x (some y) (some z) none,ty,pos,af,g⟩ ρ L (bs ((l.take hi.toNat).drop lo.toNat)):=q_strLH S hx hy hz ht hk h
theorem qt(S:Tab P){t t2 E y0 s0 b0 x1 y1 s1 by1:Nat}{ti:TyI}{x:Operand}{a:Option Addr}{cap:Nat}{l:List UInt8}(h00:Ul ρ=true:=by exact rfl)(hx:ev ρ x=some (.slice a l.length cap):=by exact rfl)(ht:Yj S.ty t=some ⟨5,E,y0,s0,b0⟩:=by exact rfl)(he:Yj S.ty E=some ⟨2,x1,y1,s1,by1⟩:=by exact rfl)(hu:Nat.beq x1 4=true:=by exact rfl)
  (ht2:Yj S.ty t2=some ti:=by exact rfl)(h3:Nat.beq ti.kind 3=true:=by exact rfl)(hR:Rd uc 1 L a l:=by (repeat (first|assumption|apply Rd.cons))):QOp P ⟨d,.convert t t2 x,ty,pos,af,g⟩ ρ L (bs l):=Zmi S hx ht he hu ht2 h3 hR
theorem qA(S:Tab P){t t':Nat}{l:List Nat}{x y:Operand}{xs ys:List Value}{r:Bool}(h00:Ul ρ=true:=by exact rfl)(hx:ev ρ x=some (.agg ⟨xs⟩):=by exact rfl)(hy:ev ρ y=some (.agg ⟨ys⟩):=by exact rfl)(ht:Yj S.eq t=some l:=by exact rfl)(he:Zcs l xs ys=some r:=by exact rfl):QOp P ⟨d,.binOp .eql t x y t',ty,pos,af,g⟩ ρ L (.bool r):=q_eqA (S:=S) hx hy ht he
theorem qB(S:Tab P){t t':Nat}{l:List Nat}{x y:Operand}{xs ys:List Value}{r:Bool}(h00:Ul ρ=true:=by exact rfl)(hx:ev ρ x=some (.agg ⟨xs⟩):=by exact rfl)(hy:ev ρ y=some (.agg ⟨ys⟩):=by exact rfl)(ht:Yj S.eq t=some l:=by exact rfl)(he:Zcs l xs ys=some r:=by exact rfl):QOp P ⟨d,.binOp .neq t x y t',ty,pos,af,g⟩ ρ L (.bool (!r)):=q_neA (S:=S) hx hy ht he
theorem qtx(S:Tab P){t t2 E y0 s0 b0 x1 y1 s1 by1 len:Nat}{ti:TyI}{x:Operand}{a:Option Addr}{cap:Nat}{l:List UInt8}(hR:Rd uc 1 L a l)(hlen:l.length=len)(h00:Ul ρ=true:=by exact rfl)(hx:ev ρ x=some (.slice a len cap):=by exact rfl)(ht:Yj S.ty t=some ⟨5,E,y0,s0,b0⟩:=by exact rfl)(he:Yj S.ty E=some ⟨2,x1,y1,s1,by1⟩:=by exact rfl)(hu:Nat.beq x1 4=true:=by exact rfl)
  (ht2:Yj S.ty t2=some ti:=by exact rfl)(h3:Nat.beq ti.kind 3=true:=by exact rfl):QOp P ⟨d,.convert t t2 x,ty,pos,af,g⟩ ρ L (bs l):=by subst hlen;exact Zmi S hx ht he hu ht2 h3 hR
theorem wrap_u8(n:Int):IntKind.u8.wrap n=n % 256:=by simp[IntKind.wrap,IntKind.bits,IntKind.signed]
theorem Zuz(n:Int):IntKind.u32.wrap n=n % 4294967296:=by simp[IntKind.wrap,IntKind.bits,IntKind.signed]
theorem q_cut(S:Tab P){src dst:Nat}{ti ts:TyI}{x:Operand}{k:IntKind}{n:Int}(hx:ev ρ x=some (.int k n))(ht:Yj S.ty dst=some ti)(hs:Yj S.ty src=some ts)(hk:Nat.beq ti.kind 2=true):QOp P ⟨d,.convert src dst x,ty,pos,af,g⟩ ρ L (.int (Zbr ti.x) ((Zbr ti.x).wrap n)):=
 Vi (fun ρe he N=>by
  simp only[execOp,he x (by simp[Op.operands]) _ hx]
  exact Plo.bind (Zl9 (Zdc (S.tyI ht) (Z2a hk))) fun _=>trivial) fun ρe he k' w hsat=>by
  have e1:=Zdc (S.tyI ht) (Z2a hk)
  obtain⟨ds,hds⟩:=Z4k.1 (Zil (S.tyI hs))
  simp[execOp,he x (by simp[Op.operands]) _ hx,convert,Z2k e1,Z2k hds,Conv.intToInt]
theorem qc8(S:Tab P){src dst:Nat}{ti ts:TyI}{x:Operand}{k:IntKind}{n:Int}(h00:Ul ρ=true:=by exact rfl)(hx:ev ρ x=some (.int k n):=by exact rfl)(ht:Yj S.ty dst=some ti:=by exact rfl)(hs:Yj S.ty src=some ts:=by exact rfl)(hk:Nat.beq ti.kind 2=true:=by exact rfl)(h8:Nat.beq ti.x 4=true:=by exact rfl):
  QOp P ⟨d,.convert src dst x,ty,pos,af,g⟩ ρ L (.int .u8 (n % 256)):=by
 have:=q_cut (d:=d) (ty:=ty) (pos:=pos) (af:=af) (g:=g) (L:=L) S hx ht hs hk
 rw[Z2a h8]at this
 rw[← wrap_u8]
 exact this
theorem qc32(S:Tab P){src dst:Nat}{ti ts:TyI}{x:Operand}{k:IntKind}{n:Int}(h00:Ul ρ=true:=by exact rfl)(hx:ev ρ x=some (.int k n):=by exact rfl)(ht:Yj S.ty dst=some ti:=by exact rfl)(hs:Yj S.ty src=some ts:=by exact rfl)(hk:Nat.beq ti.kind 2=true:=by exact rfl)(h8:Nat.beq ti.x 6=true:=by exact rfl):
  QOp P ⟨d,.convert src dst x,ty,pos,af,g⟩ ρ L (.int .u32 (n % 4294967296)):=by
 have:=q_cut (d:=d) (ty:=ty) (pos:=pos) (af:=af) (g:=g) (L:=L) S hx ht hs hk
 rw[Z2a h8]at this
 rw[← Zuz]
 exact this
theorem qx32(S:Tab P){t:Nat}{x:Operand}{n:Int}(h00:Ul ρ=true:=by exact rfl)(hx:ev ρ x=some (.int .u32 n):=by exact rfl)(h:0≤n∧n≤4294967295:=by omega):QOp P ⟨d,.unOp .xor t x,ty,pos,af,g⟩ ρ L (.int .u32 (4294967295-n)):=
 Ws fun ρe he k w hs=>by
  have e:IntKind.u32.wrap (BitVec.ofInt IntKind.u32.bits 4294967295 ^^^ BitVec.ofInt IntKind.u32.bits n).toNat=4294967295-n:=by
   have h2:IntKind.u32.bits=32:=rfl
   rw[h2]
   have h1:BitVec.ofInt 32 4294967295=BitVec.allOnes 32:=by decide
   have h3:(BitVec.allOnes 32 ^^^ BitVec.ofInt 32 n) = ~~~ BitVec.ofInt 32 n:=BitVec.allOnes_xor
   have h4:(BitVec.ofInt 32 n).toNat=n.toNat:=Ud (k:=.u32) h.1 h.2
   rw[h1,h3,Zuz,BitVec.toNat_not,h4]
   omega
  have e2:(if IntKind.u32.signed=true then (-1:Int) else IntKind.u32.max)=4294967295:=by decide
  have e3:(Op.intBits .xor .u32 4294967295 n).run P w=.ok (.int .u32 (4294967295-n)) w:=by
   simp only[Op.intBits]
   exact congrArg (fun z=>Result.ok (Value.int .u32 z) w) e
  simp only[execOp,he x (by simp[Op.operands]) _ hx,Op.unary,e2]
  simp[e3]
theorem qC{f:Operand}{as9:Array Operand}{ts:Array TypeId}{F:Nat}{cap args args':List Value}{v:Value}(hc:HC P F args' L (fun u L'=>u=v∧L'=L))(h00:Ul ρ=true:=by exact rfl)(hf:ev ρ f=some (.func (.func F) #[] ⟨cap⟩):=by exact rfl)(ha:evs ρ as9.toList=some args:=by exact rfl)(he:args++cap=args':=by exact rfl):
  QOp P ⟨d,.call { callee:=.value f,args:=as9,argTypes:=ts },ty,pos,af,g⟩ ρ L v:=q_call hf ha (he▸hc)
end q
/-! ### what writes -/
section o
variable{P:Program}(S:Tab P){n:Nat}{ops:List Oper}{Q:Exit→Z9→Za→Prop}{rest:List Oper}{ρ:Z9}{L:Za}{ty:TypeId}{pos:String}{af:Array Edge}
theorem wa{d E:Nat}{z:Value}{zs:List Value}(h:∀b,HO P n ops Q rest ((d,pt b 0)::ρ) ([(b,.cells ⟨zs⟩ E)]::L))(h00:Ul ρ=true:=by exact rfl)(hz:Yj S.zr E=some z:=by exact rfl)(hc:z.cells=⟨zs⟩:=by exact rfl)(hn:Nat.blt d n=true:=by exact rfl):HO P n ops Q (⟨some d,.alloc E,ty,pos,af,none⟩::rest) ρ L:=o_alloc S hz hc hn h
theorem wb{d E:Nat}{x:Operand}{v:Value}{vs:List Value}(h:∀b,HO P n ops Q rest ((d,pt b 0)::ρ) ([(b,.cells ⟨vs⟩ E)]::L))(h00:Ul ρ=true:=by exact rfl)(hx:ev ρ x=some v:=by exact rfl)(hc:v.cells=⟨vs⟩:=by exact rfl)(hn:Nat.blt d n=true:=by exact rfl):HO P n ops Q (⟨some d,.box E x,ty,pos,af,none⟩::rest) ρ L:=o_box hx hc hn h
theorem ws{t b i E:Nat}{ti:TyI}{x y:Operand}{v:Value}{vs l l':List Value}{L':Za}(h:HO P n ops Q rest ρ L')(h00:Ul ρ=true:=by exact rfl)(hx:ev ρ x=some (pt b i):=by exact rfl)(hy:ev ρ y=some v:=by exact rfl)(ht:Yj S.ty t=some ti:=by exact rfl)
  (hc:v.cells=⟨vs⟩:=by exact rfl)(hsz:ti.size=vs.length:=by exact rfl)(h1:(vs.all Value.oneCell')=true:=by exact rfl)(hu:Upd L b (.cells ⟨l⟩ E (0,0)) (.cells ⟨l'⟩ E (0,0)) L':=by (repeat (first|exact Xx|apply Zxk|apply Zeb)))
  (hp:Yi l i vs l':=by (first|assumption|exact Ztw rfl|exact Zeu|exact Zcc Zeu|exact Zcc (Zcc Zeu)|(repeat (first|exact Zeu|apply Zcc)))):HO P n ops Q (⟨none,.store t x y,ty,pos,af,none⟩::rest) ρ L:=o_store S hx hy ht hc hsz h1 hp hu h
theorem wS{d t E y0 s0 b0 k1 x1 y1 by1 len:Nat}{z:Value}{zv:Value}{vals:List Value}{parts:Array (Nat × Operand)}(h:∀b,HO P n ops Q rest ((d,sl b 0 len len)::ρ) ([(b,.cells ⟨vals⟩ E)]::L))(h00:Ul ρ=true:=by exact rfl)(ht:Yj S.ty t=some ⟨5,E,y0,s0,b0⟩:=by exact rfl)(he:Yj S.ty E=some ⟨k1,x1,y1,1,by1⟩:=by exact rfl)(hz:Yj S.zr E=some z:=by exact rfl)(hzs:z.cells=⟨[zv]⟩:=by exact rfl)
  (hp:Zvn ρ 0 parts.toList=some vals:=by exact rfl)(hlen:vals.length=len:=by exact rfl)(hsm:Nat.ble len 16777216=true:=by exact rfl)(h1:(vals.all Value.oneCell')=true:=by exact rfl)(hn:Nat.blt d n=true:=by exact rfl):HO P n ops Q (⟨some d,.buildSlice t len parts,ty,pos,af,none⟩::rest) ρ L:=
 Znp S ht he hz hzs hp hlen hsm h1 hn h
theorem wm{d t E y0 s0 b0 k1 x1 y1 by1:Nat}{z zv:Value}{x y:Operand}{kl kc:IntKind}{l c:Int}(h:∀b,HO P n ops Q rest ((d,sl b 0 l.toNat c.toNat)::ρ) ([(b,.cells ⟨List.replicate c.toNat zv⟩ E)]::L))(h00:Ul ρ=true:=by exact rfl)(hx:ev ρ x=some (.int kl l):=by exact rfl)(hy:ev ρ y=some (.int kc c):=by exact rfl)(ht:Yj S.ty t=some ⟨5,E,y0,s0,b0⟩:=by exact rfl)(he:Yj S.ty E=some ⟨k1,x1,y1,1,by1⟩:=by exact rfl)
  (hz:Yj S.zr E=some z:=by exact rfl)(hzs:z.cells=#[zv]:=by exact rfl)(hn:Nat.blt d n=true:=by exact rfl)(hc:0≤l∧l≤c∧(by1:Int)*c≤281474976710656∧c≤9223372036854775807:=by omega):HO P n ops Q (⟨some d,.makeSlice t x y,ty,pos,af,none⟩::rest) ρ L:=Zqm S hx hy ht he hz hzs hn hc h
theorem gc{d:Nat}{f:Operand}{as9:Array Operand}{ts:Array TypeId}{F:Nat}{cap args args':List Value}{R:Value→Za→Prop}(hc:HC P F args' L R)(h:∀v L',R v L'→HO P n ops Q rest ((d,v)::ρ) L')
  (h00:Ul ρ=true:=by exact rfl)(hf:ev ρ f=some (.func (.func F) #[] ⟨cap⟩):=by exact rfl)(ha:evs ρ as9.toList=some args:=by exact rfl)(he:args++cap=args':=by exact rfl)(hn:Nat.blt d n=true:=by exact rfl):HO P n ops Q (⟨some d,.call { callee:=.value f,args:=as9,argTypes:=ts },ty,pos,af,none⟩::rest) ρ L:=
 o_call hf ha (he▸hc) hn h
def Zdj:Nat→Za→Option (List Zp × Za)
 | _,[]=>none
 | 0,c::r=>some (c,r)
 | k+1,c::r=>match Zdj k r with
  | some (x,r')=>some (x,c::r')
  | none=>none
theorem Vo:∀{k:Nat} {L:Za} {c:List Zp} {L':Za},Zdj k L=some (c,L')→List.Perm L (c::L')
 | k,[],_,_,h=>by cases k<;>simp[Zdj]at h
 | 0,c::r,_,_,h=>by simp[Zdj]at h;obtain⟨rfl,rfl⟩:=h;exact .refl _
 | k+1,c::r,x,_,h=>by
  simp only[Zdj]at h
  split at h
  ·rename_i y r' hy
   simp at h
   obtain⟨rfl,rfl⟩:=h
   exact((Vo hy).cons c).trans (.swap _ _ _)
  ·cases h
theorem fo{c:List Zp}{L':Za}{l:List Oper}(k0:Nat)(h:HO P n ops Q l ρ (c::L'))(h00:Ul ρ=true:=by exact rfl)(hp:Zdj k0 L=some (c,L'):=by exact rfl):HO P n ops Q l ρ L:=ho_perm h (Vo hp)
theorem fw{c:List Zp}{L':Za}{x:Code}(k0:Nat)(h:HW P n x Q ρ (c::L'))(h00:Ul ρ=true:=by exact rfl)(hp:Zdj k0 L=some (c,L'):=by exact rfl):HW P n x Q ρ L:=hw_perm h (Vo hp)
theorem HC.drop{F:Nat}{args:List Value}{L L':Za}{R:Value→Za→Prop}(h:HC P F args L' R)(hp:List.Sublist L' L):HC P F args L R:=h.wk (.ls (.of_sub (Yw hp)))
end o
section f
variable{P:Program}{n:Nat}{ops:List Oper}{Q:Exit→Z9→Za→Prop}{Qv:Value→Za→Prop}{ρ:Z9}{L:Za}{fn:Func}
theorem Sat.fl{k:Zaz}{w:World}{L L':Za}(h:Sat k w L)(hf:L'.flatten=L.flatten):Sat k w L':=h.sp (.of_eq hf)
theorem Zsr{c:Code}{L':Za}(h:HW P n c Q ρ L')(hf:L'.flatten=L.flatten:=by exact rfl):HW P n c Q ρ L:=Zvw h (.of_eq hf)
theorem Wf{c:Code}{L':Za}(h:HW P n c Q ρ L')(hf:LS L'.flatten L.flatten):HW P n c Q ρ L:=Zvw h hf
theorem Uk{l:List Oper}{L':Za}(h:HO P n ops Q l ρ L')(hf:LS L'.flatten L.flatten):HO P n ops Q l ρ L:=Zx8 h hf
theorem HC.fl{F:Nat}{args:List Value}{L L':Za}{R:Value→Za→Prop}(h:HC P F args L' R)(hf:L'.flatten=L.flatten:=by exact rfl):HC P F args L R:=h.wk (.ls (.of_eq hf))
theorem HC.sp{F:Nat}{args:List Value}{L L':Za}{R:Value→Za→Prop}(h:HC P F args L' R)(hf:LS L'.flatten L.flatten):HC P F args L R:=h.wk (.ls hf)
theorem HC.post{F:Nat}{args:List Value}{L:Za}{R R':Value→Za→Prop}(h:HC P F args L R)(hr:∀v L',R v L'→∃L2,LS L2.flatten L'.flatten∧R' v L2):HC P F args L R':=
 h.wkQ fun v L' q=>let ⟨L2,h1,h2⟩:=hr v L' q;⟨L2,.ls h1,h2⟩
theorem er0{L':Za}(hL:L'.flatten=L.flatten)(h:Qv (.tuple #[]) L')(hr:fn.results=#[]:=by rfl):Zaf P fn Qv .ret ρ L:=fun k w a hs ha=>⟨_,L',by simp[results,hr],.ls (.of_eq hL),h⟩
theorem ee0{L':Za}(hL:L'.flatten=L.flatten)(h:Qv (.tuple #[]) L')(hr:fn.results=#[]:=by rfl):Zaf P fn Qv .normal ρ L:=fun k w a hs ha=>⟨_,L',by simp[results,hr],.ls (.of_eq hL),h⟩
theorem Us{r:ResultVar}{v:Value}{L':Za}(hL:L'.flatten=L.flatten)(h:Qv v L')(hr:fn.results=#[r]:=by rfl)(hv:ResV P ρ L r v:=by rfl):Zaf P fn Qv .ret ρ L:=
 fun k w a hs ha=>⟨v,L',by simp[Ux,hr,hv.run hs ha],.ls (.of_eq hL),h⟩
theorem Z14{r s:ResultVar}{x y:Value}{L':Za}(hL:L'.flatten=L.flatten)(h:Qv (.tuple ⟨[x,y]⟩) L')(hr:fn.results=#[r,s]:=by rfl)(hx:ResV P ρ L r x:=by rfl)(hy:ResV P ρ L s y:=by rfl):Zaf P fn Qv .ret ρ L:=
 fun k w a hs ha=>⟨.tuple ⟨[x,y]⟩,L',by simp[Ux,hr,hx.run hs ha,hy.run hs ha],.ls (.of_eq hL),h⟩
theorem Z3{r:ResultVar}{v:Value}{L':Za}(hL:LS L'.flatten L.flatten)(h:Qv v L')(hr:fn.results=#[r]:=by rfl)(hv:ResV P ρ L r v:=by rfl):Zaf P fn Qv .ret ρ L:=
 fun k w a hs ha=>⟨v,L',by simp[Ux,hr,hv.run hs ha],.ls hL,h⟩
theorem U3{r s:ResultVar}{x y:Value}{L':Za}(hL:LS L'.flatten L.flatten)(h:Qv (.tuple ⟨[x,y]⟩) L')(hr:fn.results=#[r,s]:=by rfl)(hx:ResV P ρ L r x:=by rfl)(hy:ResV P ρ L s y:=by rfl):Zaf P fn Qv .ret ρ L:=
 fun k w a hs ha=>⟨.tuple ⟨[x,y]⟩,L',by simp[Ux,hr,hx.run hs ha,hy.run hs ha],.ls hL,h⟩
theorem sp3{r s q:ResultVar}{x y z:Value}{L':Za}(hL:LS L'.flatten L.flatten)(h:Qv (.tuple ⟨[x,y,z]⟩) L')(hr:fn.results=#[r,s,q]:=by rfl)(hx:ResV P ρ L r x:=by rfl)(hy:ResV P ρ L s y:=by rfl)(hz:ResV P ρ L q z:=by rfl):Zaf P fn Qv .ret ρ L:=
 fun k w a hs ha=>⟨.tuple ⟨[x,y,z]⟩,L',by simp[Ux,hr,hx.run hs ha,hy.run hs ha,hz.run hs ha],.ls hL,h⟩
theorem Xj(S:Tab P){t T b i E:Nat}{ti:TyI}{l vs:List Value}{fr:Nat × Nat}(hp:lk ρ t=some (pt b i):=by rfl)(ht:Yj S.ty T=some ti:=by rfl)(h7:(Nat.beq ti.kind 6 || Nat.beq ti.kind 7)=true:=by rfl)
  (hb:Has L b (.cells ⟨l⟩ E fr):=by (repeat (first|assumption|exact Zk|exact Yr (by assumption)|apply Qp|apply Zb)))(hg:Gets l i vs)(hn:ti.size=vs.length:=by rfl):ResV P ρ L (.cell t T) (.agg ⟨vs⟩):=
 ⟨⟨b,i,none⟩,hp,fun k w hs=>by
  have h1:=ty_agg (S.tyI ht) h7 w
  have h2:=Zf4 (P:=P) hs hb hg
  have h3:=X9 (S.tyI ht) w
  simp[loadVar,h1,h2,h3,hn]⟩
end f
/-! ### drawn regions -/
section d
variable{P:Program}(S:Tab P){n:Nat}{ops:List Oper}{Q:Exit→Z9→Za→Prop}{Ss:List (Nat × Zp)}{rem rem':List (Nat × Oper)}{ρ:Z9}{L:Za}{op:Op}{ty:TypeId}{pos:String}{af:Array Edge}{g:Option (Nat × Bool)}{d i:Nat}
theorem Zfu{v:Value}(k:Nat)(hp:Zbk k rem=some ((i,⟨some d,op,ty,pos,af,g⟩),rem'))(h:∀L,QOp P ⟨some d,op,ty,pos,af,g⟩ ρ L v)(hr:HD P n ops Q Ss rem' ((d,v)::ρ) L)(h00:Ul ρ=true:=by exact rfl)(hg:Y3 ops ρ g=some true:=by exact rfl)(hn:Nat.blt d n=true:=by exact rfl)
  (hc:Znk ops rem' i ⟨some d,op,ty,pos,af,g⟩=true:=by decide +kernel):HD P n ops Q Ss rem ρ L:=hd_q (F:=[]) hp hc rfl hn (.inl ⟨hg,fun L _=>h L⟩) (by simp) hr
theorem d_n(k:Nat)(hr:HD P n ops Q Ss rem' ((d,undef)::ρ) L)(h00:Ul ρ=true:=by exact rfl)(hp:Zbk k rem=some ((i,⟨some d,op,ty,pos,af,g⟩),rem'):=by exact rfl)(hg:Y3 ops ρ g=some false:=by exact rfl)(hn:Nat.blt d n=true:=by exact rfl)
  (hc:Znk ops rem' i ⟨some d,op,ty,pos,af,g⟩=true:=by decide +kernel):HD P n ops Q Ss rem ρ L:=hd_q (F:=[]) hp hc rfl hn (.inr ⟨hg,rfl⟩) (by simp) hr
theorem d_l{v:Value}{b:Nat}{o:Obj}(k:Nat)(h:∀L,Has L b o→QOp P ⟨some d,op,ty,pos,af,g⟩ ρ L v)(hb:Has L b o)(hr:HD P n ops Q ((i,(b,o))::Ss) rem' ((d,v)::ρ) L)(h00:Ul ρ=true:=by exact rfl)(hp:Zbk k rem=some ((i,⟨some d,op,ty,pos,af,g⟩),rem'):=by exact rfl)(hg:Y3 ops ρ g=some true:=by exact rfl)(hn:Nat.blt d n=true:=by exact rfl)
  (hc:Znk ops rem' i ⟨some d,op,ty,pos,af,g⟩=true:=by decide +kernel):HD P n ops Q Ss rem ρ L:=hd_q (F:=[(b,o)]) hp hc rfl hn (.inl ⟨hg,fun L hL=>h L (hL (b,o) (by simp))⟩) (by simpa using hb) hr
theorem dl{t b a E:Nat}{ti:TyI}{x:Operand}{l:List Value}{fr:Nat × Nat}{v:Value}(k:Nat)(hr:HD P n ops Q ((i,(b,.cells ⟨l⟩ E fr))::Ss) rem' ((d,v)::ρ) L)(h00:Ul ρ=true:=by exact rfl)(hp:Zbk k rem=some ((i,⟨some d,.load t x,ty,pos,af,g⟩),rem'):=by exact rfl)
  (hx:ev ρ x=some (pt b a):=by exact rfl)(ht:Yj S.ty t=some ti:=by exact rfl)(h6:Nat.beq ti.kind 6=false:=by exact rfl)(h7:Nat.beq ti.kind 7=false:=by exact rfl)(hg:Y3 ops ρ g=some true:=by exact rfl)(hn:Nat.blt d n=true:=by exact rfl)
  (hb:Has L b (.cells ⟨l⟩ E fr):=by (repeat (first|assumption|exact Zk|exact Yr (by assumption)|apply Qp|apply Zb)))(hv:l[a]?=some v:=by (first|exact rfl|assumption|exact Gets.at (by assumption) rfl|exact Gets.at0 (by assumption) rfl))
  (hc:Znk ops rem' i ⟨some d,.load t x,ty,pos,af,g⟩=true:=by decide +kernel):HD P n ops Q Ss rem ρ L:=d_l k (fun L h=>Zmg S hx ht h6 h7 h hv) hb hr h00 hp hg hn hc
theorem ds{t b a E:Nat}{ti:TyI}{x:Operand}{l vs:List Value}{fr:Nat × Nat}(k:Nat)(hr:HD P n ops Q ((i,(b,.cells ⟨l⟩ E fr))::Ss) rem' ((d,.agg ⟨vs⟩)::ρ) L)(h00:Ul ρ=true:=by exact rfl)(hp:Zbk k rem=some ((i,⟨some d,.load t x,ty,pos,af,g⟩),rem'):=by exact rfl)
  (hx:ev ρ x=some (pt b a):=by exact rfl)(ht:Yj S.ty t=some ti:=by exact rfl)(h7:(Nat.beq ti.kind 6 || Nat.beq ti.kind 7)=true:=by exact rfl)(hg:Y3 ops ρ g=some true:=by exact rfl)(hn:Nat.blt d n=true:=by exact rfl)
  (hb:Has L b (.cells ⟨l⟩ E fr):=by (repeat (first|assumption|exact Zk|exact Yr (by assumption)|apply Qp|apply Zb)))
  (hv:Gets l a vs∧ti.size=vs.length:=by (first|(refine Zsk (by assumption) ?_;rfl)|exact⟨Zc rfl (Zc rfl (Zc rfl Z6)),rfl⟩|exact⟨Zc rfl (Zc rfl Z6),rfl⟩|exact⟨Zc rfl (Zc rfl (Zc rfl (Zc rfl Z6))),rfl⟩|exact⟨Zc rfl (Zc rfl (Zc rfl (Zc rfl (Zc rfl (Zc rfl (Zc rfl (Zc rfl (Zc rfl Z6)))))))),rfl⟩))
  (hc:Znk ops rem' i ⟨some d,.load t x,ty,pos,af,g⟩=true:=by decide +kernel):HD P n ops Q Ss rem ρ L:=d_l k (fun L h=>Zy2 S hx ht h7 h hv) hb hr h00 hp hg hn hc
theorem dg{t G:Nat}{ti:TyI}{v:Value}{L0:Za}(k:Nat)(hr:∀o,Has L0 G o→HD P n ops Q ((i,(G,o))::Ss) rem' ((d,v)::ρ) L)(h00:Ul ρ=true:=by exact rfl)(hp:Zbk k rem=some ((i,⟨some d,.load t (.global G),ty,pos,af,g⟩),rem'):=by exact rfl)
  (ht:Yj S.ty t=some ti:=by exact rfl)(h6:Nat.beq ti.kind 6=false:=by exact rfl)(h7:Nat.beq ti.kind 7=false:=by exact rfl)(hg:Y3 ops ρ g=some true:=by exact rfl)(hn:Nat.blt d n=true:=by exact rfl)
  (hG:Gl L0 G v:=by first|assumption|exact Errs.get (by assumption) rfl rfl)(hL:∀o,Has L0 G o→Has L G o:=by (intro o ho;repeat (first|assumption|apply Zb|apply Qp)))
  (hc:Znk ops rem' i ⟨some d,.load t (.global G),ty,pos,af,g⟩=true:=by decide +kernel):HD P n ops Q Ss rem ρ L:=by
 obtain⟨l,E,fr,h1,h2⟩:=hG
 exact d_l k (fun L h=>Zmg S (x:=.global G) rfl ht h6 h7 h h2) (hL _ h1) (hr _ h1) h00 hp hg hn hc
theorem da{o:Oper}(k:Nat)(h:HO P n ops (Wa P n ops Q i Ss rem') [o] ρ L)(h00:Ul ρ=true:=by exact rfl)(hp:Zbk k rem=some ((i,o),rem'):=by exact rfl)(hc:chkA ops rem' i o=true:=by decide +kernel):HD P n ops Q Ss rem ρ L:=hd_act hp hc h
def Yz(ops:List Oper)(i:Nat)(L:Za):List (Nat × Zp)→(List (Nat × Zp)→Prop)→Prop
 | [],K=>K []
 | (i0,p)::r,K=>bif Zfj ops i0 i then Has L p.1 p.2∧Yz ops i L r (fun l=>K ((i0,p)::l)) else Yz ops i L r K
theorem Zl2:∀{Ss:List (Nat × Zp)} {K:List (Nat × Zp)→Prop},Yz ops i L Ss K→Zij ops i L Ss∧K (ssF ops i Ss)
 | [],K,h=>⟨trivial,h⟩
 | (i0,p)::r,K,h=>by
  simp only[Yz]at h
  cases hk:Zfj ops i0 i with
  | true=>
   rw[hk]at h
   obtain⟨h1,h2⟩:=Zl2 h.2
   refine⟨⟨.inr h.1,h1⟩,?_⟩
   simpa[ssF,hk] using h2
  | false=>
   rw[hk]at h
   obtain⟨h1,h2⟩:=Zl2 h
   refine⟨⟨.inl hk,h1⟩,?_⟩
   simpa[ssF,hk] using h2
theorem dx(h:Yz ops i L Ss fun Ss'=>HD P n ops Q Ss' rem ρ L):Wa P n ops Q i Ss rem .normal ρ L:=Zl2 h
theorem dx0{K:List (Nat × Zp)→Prop}(h:K []):Yz ops i L [] K:=h
theorem dxk{i0:Nat}{p:Zp}{r:List (Nat × Zp)}{K:List (Nat × Zp)→Prop}(h:Yz ops i L r (fun l=>K ((i0,p)::l)))(hk:Zfj ops i0 i=true:=by exact rfl)(hb:Has L p.1 p.2:=by (repeat (first|assumption|exact Zk|exact Yr (by assumption)|apply Qp|apply Zb))):Yz ops i L ((i0,p)::r) K:=by
 simp only[Yz,hk];exact⟨hb,h⟩
theorem dxd{i0:Nat}{p:Zp}{r:List (Nat × Zp)}{K:List (Nat × Zp)→Prop}(h:Yz ops i L r K)(hk:Zfj ops i0 i=false:=by exact rfl):Yz ops i L ((i0,p)::r) K:=by
 simp only[Yz,hk];exact h
end d
end
def u8(b:UInt8):Value:=.int .u8 b.toNat
theorem Zzb(l:List UInt8):(l.map uc).flatten=l.map u8:=Zzc l
theorem u8_one(l:List UInt8):((l.map u8).all Value.oneCell')=true:=by simp[u8,Value.oneCell']
theorem Za4(zs:List Value):∀n:Nat,madeCells ⟨zs⟩ (n*zs.length)=⟨(List.replicate n zs).flatten⟩:=by
 intro n
 apply Z53
 simp only[madeCells,Z5y,Array.toList_range]
 induction n with
 | zero=>simp
 | succ n ih=>
  rw[Z32,Z59,Z6g,List.range_add,Z20,Z58,Z17,← ih,List.map_map]
  congr 1
  ·apply Z3i
   intro i
   by_cases h:i<zs.length
   ·simp[h,Z5h h]
   ·simp[h]
  ·apply List.map_congr_left
   intro i hi
   simp
section o
variable{P:Program}(S:Tab P){n:Nat}{ops:List Oper}{Q:Exit→Z9→Za→Prop}{rest:List Oper}{ρ:Z9}{L:Za}{ty:TypeId}{pos:String}{af:Array Edge}
theorem cp_w{a:Addr}{x y:Nat}{W:Nat→Prop}{N:Nat}(h:∀(a':Addr) (n c:Nat),Value.slice (some a) x y=.slice (some a') n c→W a'.block∨N≤a'.block):W a.block∨N≤a.block:=h a x y rfl
theorem Zyy{t t2 ty:TypeId}{v u:Value}{B W:Nat→Prop}{N:Nat}(hv:∀a n c,v=.slice (some a) n c→W a.block∨N≤a.block):Plo P B W N (Builtin.copy_ #[t,t2] ty #[v,u]):=by
 unfold Builtin.copy_
 simp only[Z4g,Z38,Z4n]
 repeat' first|(with_reducible first|exact Zmb _|exact Zbt _ _ _|exact W9 (cp_w hv) _ _)|(with_reducible first|assumption|exact Vf _|exact Wy _|exact Xe _|exact Vz _|exact Yq|exact Zg _|exact Yd _|exact Yf _|exact Z4 _|exact X5 _|exact Ve _ _|exact Y0 _ _|exact Ye _ _|exact Xl _|exact Xc _ _|exact Xd _ _|exact Xb rfl|exact Yx _|exact Y8 _|exact Zs _|exact Xi _|exact Z2 _ _ _ _|exact Yp _|exact Xv _|exact Xa _|exact Y2 _|exact Wi _|exact Xk _|exact Wn _ _ _|exact Xr _|refine Plo.bind ?_ (fun _=>?_)|refine Plo.ite ?_ ?_)|split|dsimp only
theorem wcs{d t t2 b i E e0 y0 s0 b0 k1 x1 y1 by1 len cap:Nat}{x y:Operand}{src:List UInt8}{l l':List Value}{L':Za}(h:HO P n ops Q rest ((d,iv (Nat.min src.length len))::ρ) L')(hp:Yi l i ((src.take (Nat.min src.length len)).map u8) l')(h00:Ul ρ=true:=by exact rfl)
  (hx:ev ρ x=some (sl b i len cap):=by exact rfl)(hy:ev ρ y=some (bs src):=by exact rfl)(ht:Yj S.ty t=some ⟨5,e0,y0,s0,b0⟩:=by exact rfl)(he:Yj S.ty e0=some ⟨k1,x1,y1,1,by1⟩:=by exact rfl)(hn:Nat.blt d n=true:=by exact rfl)
  (hu:Upd L b (.cells ⟨l⟩ E (0,0)) (.cells ⟨l'⟩ E (0,0)) L':=by (repeat (first|exact Xx|apply Zxk|apply Zeb))):
  HO P n ops Q (⟨some d,.call { callee:=.builtin .copy,args:=#[x,y],argTypes:=#[t,t2] },ty,pos,af,none⟩::rest) ρ L:=
 Ut rfl rfl hn (fun ρe he' k w hs=>by
  obtain⟨hp1,hp2⟩:=hp
  obtain⟨w',e1,e2,e3,et,e4,e5⟩:=Zc7 (P:=P) (k:=k) ((src.take (Nat.min src.length len)).map u8) i 0 l w (hs.heap hu.has) rfl (by simpa using hp2) (fun v hv=>Z2u.1 (u8_one _) v hv)
  refine⟨_,w',L',?_,hs.upd hu e2 e3 et (by rw[e4,hp1,Z4t]) e5,h⟩
  have hdesc:=Z7 (S.tyI ht) rfl
  have hsize:(sizeOf e0).run P w=.ok 1 w:=X9 (S.tyI he) w
  have a1:=he' x (by simp[Op.operands,Call.operands]) _ hx
  have a2:=he' y (by simp[Op.operands,Call.operands]) _ hy
  have hc:(Array.map (fun b=>Value.int .u8 b.toNat) ((ByteArray.mk ⟨src⟩).extract 0 (Nat.min src.length len)).data).toList=(src.take (Nat.min src.length len)).map u8:=by
   rw[Zcm]
   simp[u8]
   rfl
  have hr:(Builtin.copy_ #[t,t2] ty #[sl b i len cap,bs src]).run P w=.ok (iv (Nat.min src.length len)) w':=by
   simp only[Builtin.copy_]
   simp only[Z4g,Z38,Z4n,Z3q,Z2k hdesc,Z3b,hsize]
   simp only[Builtin.lenOf,Builtin.firstCells,Z37,Z3b,Zcn]
   rw[hsize]
   simp only[hc,e1,Z3b,Z37,goInt]
  simp[execOp,resolve,invoke,builtin,a1,a2,hr]) fun ρe he' N=>by
  have a1:=he' x (by simp[Op.operands,Call.operands]) _ hx
  have a2:=he' y (by simp[Op.operands,Call.operands]) _ hy
  simp only[execOp,resolve,Z5g,Z2s,Z3z,a1,a2]
  refine(Plo.bind (Zyy ?_) fun _=>trivial:Plo P _ _ _ (Builtin.copy_ #[t,t2] ty #[sl b i len cap,bs src] >>= fun v=>pure (Next.value v)))
  rintro a n c h
  cases h
  exact .inl (⟨_,hu.has,rfl⟩:InW L b)
theorem wM{d t E y0 s0 b0 k1 x1 y1 sz by1:Nat}{z:Value}{zs:List Value}{x y:Operand}{kl kc:IntKind}{l c:Int}(h:∀b,HO P n ops Q rest ((d,sl b 0 l.toNat c.toNat)::ρ) ([(b,.cells ⟨(List.replicate c.toNat zs).flatten⟩ E)]::L))(h00:Ul ρ=true:=by exact rfl)(hx:ev ρ x=some (.int kl l):=by exact rfl)(hy:ev ρ y=some (.int kc c):=by exact rfl)(ht:Yj S.ty t=some ⟨5,E,y0,s0,b0⟩:=by exact rfl)(he:Yj S.ty E=some ⟨k1,x1,y1,sz,by1⟩:=by exact rfl)
  (hz:Yj S.zr E=some z:=by exact rfl)(hzs:z.cells=⟨zs⟩:=by exact rfl)(hzl:Nat.beq zs.length sz=true:=by exact rfl)(hn:Nat.blt d n=true:=by exact rfl)(hc:0≤l∧l≤c∧(by1:Int)*c≤281474976710656∧c≤9223372036854775807:=by omega):HO P n ops Q (⟨some d,.makeSlice t x y,ty,pos,af,none⟩::rest) ρ L:=by
 refine Ut rfl rfl hn fun ρe he' k w hs=>⟨sl w.heap.size 0 l.toNat c.toNat,w.alloc (.cells ⟨(List.replicate c.toNat zs).flatten⟩ E),_,?_,hs.new _,h _⟩
 have hdesc:=Z7 (S.tyI ht) rfl
 obtain⟨de,i,hde,hi,-,hisz,hiby⟩:=X8 (S.tyI he)
 simp only at hisz hiby
 have hiz:i.zero=some z:=by
  have:=S.zeroI hz
  unfold zeroI at this
  simpa[hi] using this
 have hr:=run_make (P:=P) w t E i z hdesc hi hiz kl kc l c hc.1 hc.2.1 (by rw[hiby];exact hc.2.2.1) hc.2.2.2
 have hl:=Z2a hzl
 rw[hisz,hzs,← hl,Za4]at hr
 simp[execOp,he' x (by simp[Op.operands]) _ hx,he' y (by simp[Op.operands]) _ hy,hr]
end o
def Zfh(sz:Nat):List Value→List (Nat × Value)→Option (List Value)
 | cells,[]=>some cells
 | cells,(i,v)::r=>bif Nat.beq (X6 v).length sz && Nat.ble (i*sz+(X6 v).length) cells.length then Zfh sz (Ztv cells (i*sz) (X6 v)) r else none
theorem Zla{sz:Nat}:∀(l:List (Nat × Value)) (cells out:List Value),Zfh sz cells l=some out→Instr.fill (fun i=>some (i*sz,sz)) ⟨cells⟩ l=some ⟨out⟩
 | [],cells,out,h=>by simp[Zfh]at h;subst h;rfl
 | (i,v)::r,cells,out,h=>by
  simp only[Zfh]at h
  obtain⟨hc,h2⟩:=Zx h
  simp only[Z27]at hc
  have e1:=Z2a hc.1
  have e2:=Z2m hc.2
  have ih:=Zla r _ out h2
  have e3:=Zwp (X6 v) cells (i*sz) 0
  simp only[Z4t]at e3
  unfold Instr.fill
  simp only[Zn8]
  have hcond:(decide ((Array.mk (X6 v)).size≠sz) || decide (i*sz+(Array.mk (X6 v)).size>(Array.mk cells).size))=false:=by simp;omega
  rw[hcond]
  simp only[Z2r,Z3h]
  have e4:(Array.zipIdx ⟨X6 v⟩ 0:Array (Value × Nat))=⟨(X6 v).zipIdx 0⟩:=by simp
  rw[e4]
  simp only[List.foldl_toArray]
  rw[e3]
  exact ih
theorem Zy0:∀(vs pre zs:List Value),vs.length≤zs.length→Ztv (pre++zs) pre.length vs=pre++(vs++zs.drop vs.length)
 | [],pre,zs,_=>by simp[Ztv]
 | v::r,pre,[],h=>by simp at h
 | v::r,pre,z::zs,h=>by
  have e:(pre++z::zs).set pre.length v=(pre++[v])++zs:=by simp
  have ih:=Zy0 r (pre++[v]) zs (by simpa using h)
  simp only[Ztv,e]
  rw[show pre.length+1=(pre++[v]).length by simp,ih]
  simp
def Zdn(sz:Nat):Nat→List (Nat × Value)→Option (List Value)
 | _,[]=>some []
 | k,(i,v)::r=>bif Nat.beq i k && Nat.beq (X6 v).length sz then (Zdn sz (k+1) r).bind fun l=>some (X6 v++l) else none
theorem Zoc{sz:Nat}:∀(l:List (Nat × Value)) (k:Nat) (pre zs out:List Value),Zdn sz k l=some out→pre.length=k*sz→zs.length=out.length→Zfh sz (pre++zs) l=some (pre++out)
 | [],k,pre,zs,out,h,hp,hz=>by
  simp[Zdn]at h;subst h
  have:zs=[]:=Z3v hz
  subst this
  simp[Zfh]
 | (i,v)::r,k,pre,zs,out,h,hp,hz=>by
  simp only[Zdn]at h
  obtain⟨hc,h2⟩:=Zx h
  simp only[Z27]at hc
  have e1:=Z2a hc.1
  have e2:=Z2a hc.2
  subst e1
  obtain⟨l',hl,h3⟩:=bind_some h2
  cases h3
  simp only[Z2i]at hz
  have hle:(X6 v).length≤zs.length:=by omega
  simp only[Zfh]
  have hcond:(Nat.beq (X6 v).length sz && Nat.ble (i*sz+(X6 v).length) (pre++zs).length)=true:=by
   rw[Z27]
   refine⟨hc.2,Z5w ?_⟩
   simp;omega
  rw[hcond,cond_true,← hp,Zy0 _ _ _ hle,← Z18]
  have ih:=Zoc r (i+1) (pre++X6 v) (zs.drop (X6 v).length) l' hl (by simp[hp,e2,Z32]) (by simp;omega)
  rw[ih,Z18]
section v
variable{P:Program}(S:Tab P){n:Nat}{ops:List Oper}{Q:Exit→Z9→Za→Prop}{rest:List Oper}{ρ:Z9}{L:Za}{ty:TypeId}{pos:String}{af:Array Edge}
theorem wSn{d t E y0 s0 b0 k1 x1 y1 sz by1 len:Nat}{z:Value}{zs out:List Value}{vals:List (Nat × Value)}{parts:Array (Nat × Operand)}(h:∀b,HO P n ops Q rest ((d,sl b 0 len len)::ρ) ([(b,.cells ⟨out⟩ E)]::L))(h00:Ul ρ=true:=by exact rfl)(ht:Yj S.ty t=some ⟨5,E,y0,s0,b0⟩:=by exact rfl)(he:Yj S.ty E=some ⟨k1,x1,y1,sz,by1⟩:=by exact rfl)
  (hz:Yj S.zr E=some z:=by exact rfl)(hzs:z.cells=⟨zs⟩:=by exact rfl)(hzl:Nat.beq zs.length sz=true:=by exact rfl)(hp:U9 ρ parts.toList=some vals:=by exact rfl)(hf:((Zfh sz (List.replicate len zs).flatten vals).bind fun l=>nfL l some)=some out:=by exact rfl)
  (hsm:Nat.ble (len*sz) 16777216=true:=by exact rfl)(h1:Nat.ble 1 (len*sz)=true:=by exact rfl)(hn:Nat.blt d n=true:=by exact rfl):HO P n ops Q (⟨some d,.buildSlice t len parts,ty,pos,af,none⟩::rest) ρ L:=by
 refine Ut rfl rfl hn fun ρe he' k w hs=>⟨sl w.heap.size 0 len len,w.alloc (.cells ⟨out⟩ E),_,?_,hs.new _,h _⟩
 have hdesc:=Z7 (S.tyI ht) rfl
 have hsize:(sizeOf E).run P w=.ok sz w:=X9 (S.tyI he) w
 have hzero:=Zbe (S.zeroI hz) w
 have hle:len*sz≤16777216:=Z2m hsm
 have hge:1≤len*sz:=Z2m h1
 obtain⟨l,hl,h2⟩:=bind_some hf
 rw[Zh6]at h2
 cases h2
 have hzl':=Z2a hzl
 have hm:((Array.range (len*sz)).map fun j=>(Array.mk zs)[j % (Array.mk zs).size]!)=⟨(List.replicate len zs).flatten⟩:=by
  have:=Za4 zs len
  rw[hzl']at this
  exact this
 have e1:(parts.map fun p=>(p.1,ρe p.2)).toList=vals:=by
  rw[Z5y]
  exact Zbh (fun p hp' u hu=>he' p.2 (by simp[Op.operands];exact⟨p.1,by simpa using hp'⟩) u hu) hp
 have hfill:=Zla vals _ out hl
 have hbs:(Instr.buildSlice t len (parts.map fun p=>(p.1,ρe p.2))).run P w=.ok (sl w.heap.size 0 len len) (w.alloc (.cells ⟨out⟩ E)):=by
  have hl2:¬ (16777216<len*sz):=by omega
  have hl3:¬ (len*sz=0):=by omega
  have hm2:((Array.range (len*sz)).map fun j=>(z.cells)[j % z.cells.size]!)=⟨(List.replicate len zs).flatten⟩:=by rw[hzs];exact hm
  unfold Instr.buildSlice
  simp only[Z3q,Z2k hdesc,Z3b,hsize,Nat.reducePow,gt_iff_lt,Z16 hl2,Z16 hl3,Z37,hzero,hm2,e1,hfill]
  rfl
 simp only[execOp,Z3q,hbs,Z3b,Z37]
theorem wSa{d t E y0 s0 b0 k1 x1 y1 sz by1 len:Nat}{z:Value}{zs out:List Value}{vals:List (Nat × Value)}{parts:Array (Nat × Operand)}(h:∀b,HO P n ops Q rest ((d,sl b 0 len len)::ρ) ([(b,.cells ⟨out⟩ E)]::L))(h00:Ul ρ=true:=by exact rfl)(ht:Yj S.ty t=some ⟨5,E,y0,s0,b0⟩:=by exact rfl)(he:Yj S.ty E=some ⟨k1,x1,y1,sz,by1⟩:=by exact rfl)
  (hz:Yj S.zr E=some z:=by exact rfl)(hzs:z.cells=⟨zs⟩:=by exact rfl)(hzl:Nat.beq zs.length sz=true:=by exact rfl)(hp:U9 ρ parts.toList=some vals:=by exact rfl)(hf:((Zdn sz 0 vals).bind fun l=>nfL l some)=some out:=by exact rfl)(hol:Nat.beq out.length (len*sz)=true:=by exact rfl)
  (hsm:Nat.ble (len*sz) 16777216=true:=by exact rfl)(h1:Nat.ble 1 (len*sz)=true:=by exact rfl)(hn:Nat.blt d n=true:=by exact rfl):HO P n ops Q (⟨some d,.buildSlice t len parts,ty,pos,af,none⟩::rest) ρ L:=by
 obtain⟨l,hl,h2⟩:=bind_some hf
 rw[Zh6]at h2
 cases h2
 have hlen:(List.replicate len zs).flatten.length=out.length:=by
  have e1:=Z2a hol
  have e2:=Z2a hzl
  simp[e1,e2]
 have:=Zoc vals 0 [] (List.replicate len zs).flatten out hl (by simp) hlen
 exact wSn S h h00 ht he hz hzs hzl hp (by simp only[Z2b]at this;rw[this];simp[Zh6]) hsm h1 hn
theorem Zwr{d:Option Tmp}{g:Option (Nat × Bool)}{t len E s0 b0 k1 x1 y1 sz by1:Nat}{parts:Array (Nat × Operand)}{zs out:List Value}{vals:List (Nat × Value)}(hz:Yj S.zr t=some (.agg ⟨zs⟩))(ht:Yj S.ty t=some ⟨6,len,E,s0,b0⟩)(he:Yj S.ty E=some ⟨k1,x1,y1,sz,by1⟩)(hp:U9 ρ parts.toList=some vals)
  (hf:((Zfh sz zs vals).bind fun l=>nfL l some)=some out):QOp P ⟨d,.build t parts,ty,pos,af,g⟩ ρ L (.agg ⟨out⟩):=
 Ws fun ρe he' k w hsat=>by
  obtain⟨l,hl,h1⟩:=bind_some hf
  rw[Zh6]at h1
  cases h1
  have hu:=Zm2 (S.tyI ht) rfl
  have hsize:(sizeOf E).run P w=.ok sz w:=X9 (S.tyI he) w
  have hzero:=Zbe (S.zeroI hz) w
  have e1:(parts.map fun p=>(p.1,ρe p.2)).toList=vals:=by
   rw[Z5y]
   exact Zbh (fun p hp' u hu=>he' p.2 (by simp[Op.operands];exact⟨p.1,by simpa using hp'⟩) u hu) hp
  have hfill:=Zla vals zs out hl
  show (Instr.build t (parts.map fun p=>(p.1,ρe p.2)) >>= fun v=>pure (Next.value v):Sem Next).run P w=_
  simp only[Z3q,Instr.build,hzero,Z3b,Z2k hu,hsize,e1,Value.cells,hfill,Z37]
theorem qbA{d:Option Tmp}{g:Option (Nat × Bool)}{t len E s0 b0 k1 x1 y1 sz by1:Nat}{parts:Array (Nat × Operand)}{zs out:List Value}{vals:List (Nat × Value)}(h00:Ul ρ=true:=by exact rfl)(hz:Yj S.zr t=some (.agg ⟨zs⟩):=by exact rfl)(ht:Yj S.ty t=some ⟨6,len,E,s0,b0⟩:=by exact rfl)(he:Yj S.ty E=some ⟨k1,x1,y1,sz,by1⟩:=by exact rfl)(hp:U9 ρ parts.toList=some vals:=by exact rfl)
  (hf:((Zfh sz zs vals).bind fun l=>nfL l some)=some out:=by exact rfl):QOp P ⟨d,.build t parts,ty,pos,af,g⟩ ρ L (.agg ⟨out⟩):=Zwr S hz ht he hp hf
/-! ### a slice of one's own -/
def Vec{α:Type}(E sz:Nat)(enc:α→List Value)(v:Value)(xs:List α)(c:List Zp):Prop:=Own E sz v xs.length (xs.map enc).flatten c
theorem Zt{α:Type}{E sz:Nat}{enc:α→List Value}:Vec E sz enc Yt [] []:=Zyv
theorem Vec.rd{α:Type}{E sz:Nat}{enc:α→List Value}{v:Value}{xs:List α}{c:List Zp}(h:Vec E sz enc v xs c)(hsz:∀x,(enc x).length=sz):∃a cap,v=.slice a xs.length cap∧xs.length≤cap∧∀L,Rd enc sz (c::L) a xs:=by
 have h':=h
 rcases h with⟨rfl,h0,hcs,rfl⟩|⟨b,cap,sp,rfl,rfl,hcs,hle,hall⟩
 ·exact⟨none,0,by rw[h0],by omega,fun L=>.inl (Z3v h0)⟩
 ·refine⟨some ⟨b,0,none⟩,cap,rfl,hle,fun L=>.inr ⟨b,0,_,E,(0,0),rfl,Zk,fun k x hx=>?_⟩⟩
  have:=Uj hsz xs sp [] k x hx
  simpa using this
theorem Ym(l:List Value):Gets l 0 l:=fun j v h=>by simpa using h
theorem Zfc{α:Type}{enc:α→List Value}{d t E y0 s0 b0 k1 x1 y1 sz by1 b i cap F:Nat}{z v:Value}{zs l:List Value}{fr:Nat × Nat}{c:List Zp}{x y:Operand}{xs:List α}(e:α)(ho:Vec E sz enc v xs c)(hsz:∀x,(enc x).length=sz)(hone:∀x,(enc x).all Value.oneCell'=true)
  (h:∀v' c',Vec E sz enc v' (xs++[e]) c'→HO P n ops Q rest ((d,v')::ρ) (c'::L))(h00:Ul ρ=true:=by exact rfl)
  (hx:ev ρ x=some v:=by exact rfl)(hy:ev ρ y=some (sl b i 1 cap):=by exact rfl)(ht:Yj S.ty t=some ⟨5,E,y0,s0,b0⟩:=by exact rfl)(he:Yj S.ty E=some ⟨k1,x1,y1,sz,by1⟩:=by exact rfl)(hz:Yj S.zr E=some z:=by exact rfl)(hzs:z.cells=⟨zs⟩:=by exact rfl)(hzl:zs.length=sz:=by exact rfl)
  (hn:Nat.blt d n=true:=by exact rfl)(hb:Has L b (.cells ⟨l⟩ F fr):=by (repeat (first|assumption|exact Zk|exact Yr (by assumption)|apply Qp|apply Zb)))(hg:Gets l i (enc e):=by first|exact Ym _|assumption)(hby:(xs.length+1)*by1≤140737488355328:=by omega)(hmax:xs.length+1≤9223372036854775807:=by omega):
  HO P n ops Q (⟨some d,.call { callee:=.builtin .append,args:=#[x,y],argTypes:=#[t,t] },ty,pos,af,none⟩::rest) ρ (c::L):=
 Zl4 S hx hy ht he hz hzs hzl hn ho (src_one (Zb hb) hg (hsz e)) (hone e) hby hmax fun v' c' ho'=>h v' c' (by
  unfold Vec
  simp only[Z2i,Z2y,Z23,Z20,Z2s,Z3z,Z2l,Z17,Z22,Z2p]
  exact ho')
theorem Z1z{α:Type}{enc:α→List Value}{d t E y0 s0 b0 k1 x1 y1 sz by1 cap:Nat}{z v:Value}{zs:List Value}{a:Option Addr}{c:List Zp}{x y:Operand}{xs ys:List α}(ho:Vec E sz enc v xs c)(hR:Rd enc sz (c::L) a ys)(hsz:∀x,(enc x).length=sz)(hone:∀x,(enc x).all Value.oneCell'=true)
  (h:∀v' c',Vec E sz enc v' (xs++ys) c'→HO P n ops Q rest ((d,v')::ρ) (c'::L))(h00:Ul ρ=true:=by exact rfl)
  (hx:ev ρ x=some v:=by exact rfl)(hy:ev ρ y=some (.slice a ys.length cap):=by exact rfl)(ht:Yj S.ty t=some ⟨5,E,y0,s0,b0⟩:=by exact rfl)(he:Yj S.ty E=some ⟨k1,x1,y1,sz,by1⟩:=by exact rfl)(hz:Yj S.zr E=some z:=by exact rfl)(hzs:z.cells=⟨zs⟩:=by exact rfl)(hzl:zs.length=sz:=by exact rfl)
  (hn:Nat.blt d n=true:=by exact rfl)(hby:(xs.length+ys.length)*by1≤140737488355328:=by omega)(hmax:xs.length+ys.length≤9223372036854775807:=by omega):
  HO P n ops Q (⟨some d,.call { callee:=.builtin .append,args:=#[x,y],argTypes:=#[t,t] },ty,pos,af,none⟩::rest) ρ (c::L):=
 Zl4 S hx hy ht he hz hzs hzl hn ho (Zii hsz hR) (Zco hone ys) hby hmax fun v' c' ho'=>h v' c' (by
  unfold Vec
  simp only[Z2i,Z20,Z2l]
  exact ho')
end v
theorem Zcb{α:Type}{enc:α→List Value}{sz:Nat}(hsz:∀x,(enc x).length=sz):∀(xs:List α) (sp pre:List Value) (k i:Nat) (x:α),k<xs.length→i=pre.length+k*sz→Yi (pre++(xs.map enc).flatten++sp) i (enc x) (pre++((xs.set k x).map enc).flatten++sp)
 | [],sp,pre,k,i,x,h,_=>by simp at h
 | y::r,sp,pre,0,i,x,h,hi=>by
  have hp:Yi ((enc y)++((r.map enc).flatten++sp)) 0 (enc x) (enc x++((r.map enc).flatten++sp)):=Zwq (by rw[hsz,hsz])
  have key:∀(p l vs l':List Value) (j:Nat),Yi l j vs l'→Yi (p++l) (p.length+j) vs (p++l'):=by
   intro p
   induction p with
   | nil=>intro l vs l' j h;simpa using h
   | cons a p ih=>
    intro l vs l' j h
    have:=Zcc (x:=a) (ih l vs l' j h)
    simpa[Z6t,Z6g,Nat.add_left_comm] using this
  have:=key pre _ _ _ 0 hp
  subst hi
  simpa using this
 | y::r,sp,pre,k+1,i,x,h,hi=>by
  have:=Zcb hsz r sp (pre++enc y) k i x (by simpa using h) (by rw[hi];simp[hsz,Z32];omega)
  simpa using this
theorem Uu{P:Program}{F:Nat}{args:List Value}{c:List Zp}{L L1:Za}{V:Value}(h:∀L,HC P F args (c::L) (fun v L'=>v=V∧L'=c::L))(k0:Nat)(hp:Zdj k0 L=some (c,L1):=by exact rfl):HC P F args L (fun v L'=>v=V∧L'=L):=
 ((h L1).wk (.ls (.of_perm (Vo hp).symm.flatten))).wkQ fun v L' ⟨hv,hL⟩=>⟨L,.ls (hL▸.of_perm (Vo hp).flatten),hv,rfl⟩
theorem LS.pick{c:List Zp}{A L L1:Za}(k0:Nat)(h:LS A.flatten L1.flatten)(hp:Zdj k0 L=some (c,L1):=by exact rfl):LS (c::A).flatten L.flatten:=
 LS.trans (LS.k h) (LS.of_perm (Vo hp).symm.flatten)
theorem LS.e{A L:Za}(h:LS A.flatten L.flatten):LS (([]:List Zp)::A).flatten L.flatten:=h
theorem LS.p0{c:List Zp}{A L:Za}(h:LS A.flatten L.flatten):LS (c::A).flatten (c::L).flatten:=LS.k h
theorem LS.p1{x0 c:List Zp}{A L:Za}(h:LS A.flatten (x0::L).flatten):LS (c::A).flatten (x0::c::L).flatten:=LS.pick 1 h
theorem LS.p2{x0 x1 c:List Zp}{A L:Za}(h:LS A.flatten (x0::x1::L).flatten):LS (c::A).flatten (x0::x1::c::L).flatten:=LS.pick 2 h
theorem LS.p3{x0 x1 x2 c:List Zp}{A L:Za}(h:LS A.flatten (x0::x1::x2::L).flatten):LS (c::A).flatten (x0::x1::x2::c::L).flatten:=LS.pick 3 h
theorem LS.p4{x0 x1 x2 x3 c:List Zp}{A L:Za}(h:LS A.flatten (x0::x1::x2::x3::L).flatten):LS (c::A).flatten (x0::x1::x2::x3::c::L).flatten:=LS.pick 4 h
theorem LS.p5{x0 x1 x2 x3 x4 c:List Zp}{A L:Za}(h:LS A.flatten (x0::x1::x2::x3::x4::L).flatten):LS (c::A).flatten (x0::x1::x2::x3::x4::c::L).flatten:=LS.pick 5 h
theorem LS.p6{x0 x1 x2 x3 x4 x5 c:List Zp}{A L:Za}(h:LS A.flatten (x0::x1::x2::x3::x4::x5::L).flatten):LS (c::A).flatten (x0::x1::x2::x3::x4::x5::c::L).flatten:=LS.pick 6 h
theorem LS.p7{x0 x1 x2 x3 x4 x5 x6 c:List Zp}{A L:Za}(h:LS A.flatten (x0::x1::x2::x3::x4::x5::x6::L).flatten):LS (c::A).flatten (x0::x1::x2::x3::x4::x5::x6::c::L).flatten:=LS.pick 7 h
theorem LS.p8{x0 x1 x2 x3 x4 x5 x6 x7 c:List Zp}{A L:Za}(h:LS A.flatten (x0::x1::x2::x3::x4::x5::x6::x7::L).flatten):LS (c::A).flatten (x0::x1::x2::x3::x4::x5::x6::x7::c::L).flatten:=LS.pick 8 h
theorem LS.p9{x0 x1 x2 x3 x4 x5 x6 x7 x8 c:List Zp}{A L:Za}(h:LS A.flatten (x0::x1::x2::x3::x4::x5::x6::x7::x8::L).flatten):LS (c::A).flatten (x0::x1::x2::x3::x4::x5::x6::x7::x8::c::L).flatten:=LS.pick 9 h
theorem LS.p10{x0 x1 x2 x3 x4 x5 x6 x7 x8 x9 c:List Zp}{A L:Za}(h:LS A.flatten (x0::x1::x2::x3::x4::x5::x6::x7::x8::x9::L).flatten):LS (c::A).flatten (x0::x1::x2::x3::x4::x5::x6::x7::x8::x9::c::L).flatten:=LS.pick 10 h
theorem LS.p11{x0 x1 x2 x3 x4 x5 x6 x7 x8 x9 x10 c:List Zp}{A L:Za}(h:LS A.flatten (x0::x1::x2::x3::x4::x5::x6::x7::x8::x9::x10::L).flatten):LS (c::A).flatten (x0::x1::x2::x3::x4::x5::x6::x7::x8::x9::x10::c::L).flatten:=LS.pick 11 h
theorem LS.p12{x0 x1 x2 x3 x4 x5 x6 x7 x8 x9 x10 x11 c:List Zp}{A L:Za}(h:LS A.flatten (x0::x1::x2::x3::x4::x5::x6::x7::x8::x9::x10::x11::L).flatten):LS (c::A).flatten (x0::x1::x2::x3::x4::x5::x6::x7::x8::x9::x10::x11::c::L).flatten:=LS.pick 12 h
theorem Zf8{ι:Type}{P:Program}{n:Nat}{c:Code}{Q:Exit→Z9→Za→Prop}(I:ι→Prop)(ρ:ι→Z9)(L:ι→Za){R:Prop}(main:(∀i,I i→HW P n c Q (ρ i) (L i))→R)(key:∀i,I i→HW P n c Q (ρ i) (L i)):R:=main key
def Ze4{α:Type}(key:α→Value)(es:List MapEntry)(l:List (α × Bool)):Prop:=es.map (fun e=>(e.key,e.val))=l.map fun p=>(key p.1,Value.bool p.2)
def Qj{α:Type}[DecidableEq α](a:α):List (α × Bool)→Nat→Option (Nat × Value)
 | [],_=>none
 | (x,b)::r,i=>if a=x then some (i,.bool b) else Qj a r (i+1)
def Q9{α:Type}[DecidableEq α](a:α):List (α × Bool)→Bool
 | []=>false
 | (x,b)::r=>if a=x then b else Q9 a r
structure KeyOk{α:Type}[DecidableEq α](P:Program)(kt:TypeId)(key:α→Value):Prop where
 chk:∀(em:Bool) (w:World) (a:α),(Instr.checkKey em 10000 kt (key a)).run P w=.ok () w
 find:∀(w:World) (a:α) (es:List MapEntry) (l:List (α × Bool)),Ze4 key es l→(Instr.findKey kt (key a) es).run P w=.ok (Qj a l 0) w
 stay:∀(w:World) (a:α),(Instr.keyThatStays (key a) (key a)).run P w=.ok (key a) w
 pchk:∀(em:Bool) (a:α) (B W:Nat→Prop) (N:Nat),Plo P B W N (Instr.checkKey em 10000 kt (key a))
 peq:∀(a:α) (y:Value) (B W:Nat→Prop) (N:Nat),Plo P B W N (Op.equal kt (key a) y)
theorem pl_stays(a b:Value){P:Program}{B W:Nat→Prop}{N:Nat}:Plo P B W N (Instr.keyThatStays a b):=by unfold Instr.keyThatStays;split;exact trivial;exact Plo.bind (Yx _) fun _=>trivial
theorem KeyOk.pfind{α:Type}[DecidableEq α]{P:Program}{kt:TypeId}{key:α→Value}(h:KeyOk P kt key)(a:α)(es:List MapEntry)(B W:Nat→Prop)(N:Nat):Plo P B W N (Instr.findKey kt (key a) es):=by
 have hask:∀(es:List MapEntry) (i:Nat),Plo P B W N (Instr.findAsking kt (key a) es i):=by
  intro es
  induction es with
  | nil=>intro i;exact trivial
  | cons e es ih=>intro i;unfold Instr.findAsking;exact Plo.bind (h.peq _ _ _ _ _) fun b=>by split;exact trivial;exact ih _
 unfold Instr.findKey
 refine Plo.bind (Zg _) fun d=>?_
 split
 ·exact trivial
 ·exact hask _ _
theorem Ztl{P:Program}{kt:TypeId}(hd:P.underlying kt=some (.int .i64))(a:Int)(y:Value)(dd:Nat){B W:Nat→Prop}{N:Nat}:Plo P B W N (Op.equalIn (dd+1) kt (iv a) y):=by
 unfold Op.equalIn
 refine Zf hd ?_
 cases y<;>first|exact trivial|skip
 case int=>show Plo P B W N (if _=_ then pure _ else stuck _);split<;>exact trivial
 case pointer q=>
  rcases q with _|q
  ·by_cases h0:a=0<;>(try subst h0)<;>exact Xe _
  ·by_cases h0:a=0
   ·subst h0;exact trivial
   ·rcases a with(_|n)|n
    ·exact absurd rfl h0
    ·exact Xe _
    ·exact Xe _
def Xy{α:Type}[DecidableEq α](key:α→Value)(es:List MapEntry)(f:α→Bool):Prop:=∃l:List (α × Bool),Ze4 key es l∧∀a,f a=Q9 a l
theorem Zlw{α:Type}[DecidableEq α]{key:α→Value}:Xy key [] (fun _=>false):=⟨[],rfl,fun _=>rfl⟩
section k
variable{α:Type}[DecidableEq α]
theorem Zcv{a:α}:∀{l:List (α × Bool)} {i j:Nat} {v:Value},Qj a l i=some (j,v)→i≤j∧∃b,v=.bool b∧l[j-i]?=some (a,b)∧Q9 a l=b
 | [],i,j,v,h=>by simp[Qj]at h
 | (x,b)::r,i,j,v,h=>by
  simp only[Qj]at h
  split at h
  ·rename_i he
   subst he
   cases h
   exact⟨Z21 _,b,rfl,by simp,by simp[Q9]⟩
  ·rename_i he
   obtain⟨h1,b',h2,h3,h4⟩:=Zcv h
   refine⟨by omega,b',h2,?_,by simp[Q9,he,h4]⟩
   rw[show j-i=(j-(i+1))+1 by omega]
   simpa using h3
theorem Zfw{a:α}:∀{l:List (α × Bool)} {i:Nat},Qj a l i=none→Q9 a l=false∧∀p∈l,p.1≠a
 | [],i,h=>⟨rfl,by simp⟩
 | (x,b)::r,i,h=>by
  simp only[Qj]at h
  split at h
  ·cases h
  ·rename_i he
   obtain⟨h1,h2⟩:=Zfw h
   refine⟨by simp[Q9,he,h1],fun p hp=>?_⟩
   rcases Z2h.1 hp with rfl|hp
   ·exact fun e=>he e.symm
   ·exact h2 p hp
theorem Z0o{a:α}{b0 b:Bool}:∀{l:List (α × Bool)} {j:Nat},Qj a l 0=some (j,.bool b0)→∀x,Q9 x (l.set j (a,b))=if x=a then b else Q9 x l:=by
 have key:∀(l:List (α × Bool)) (i j:Nat),Qj a l i=some (j,.bool b0)→∀x,Q9 x (l.set (j-i) (a,b))=if x=a then b else Q9 x l:=by
  intro l
  induction l with
  | nil=>intro i j h;simp[Qj]at h
  | cons p r ih=>
   intro i j h x
   obtain⟨y,c⟩:=p
   simp only[Qj]at h
   split at h
   ·rename_i he
    subst he
    cases h
    simp only[Nat.sub_self,Z6f,Q9]
    split<;>simp_all
   ·rename_i he
    have h1:=(Zcv h).1
    have:=ih (i+1) j h x
    rw[show j-i=(j-(i+1))+1 by omega,Z6e]
    simp only[Q9]
    rw[this]
    by_cases hxy:x=y
    ·subst hxy
     simp[Ne.symm he]
    ·simp[hxy]
 intro l j h
 exact key l 0 j h
theorem Zls{a:α}{b:Bool}:∀{l:List (α × Bool)},(∀p∈l,p.1≠a)→∀x,Q9 x (l++[(a,b)])=if x=a then b else Q9 x l
 | [],_,x=>by simp[Q9]
 | (y,c)::r,h,x=>by
  have h1:y≠a:=h (y,c) (Z6c)
  have ih:=Zls (b:=b) (fun p hp=>h p (Z5d _ hp)) x
  simp only[Z19,Q9,ih]
  by_cases hxy:x=y
  ·subst hxy
   simp[h1]
  ·simp[hxy]
theorem ents_set{key:α→Value}{es:List MapEntry}{l:List (α × Bool)}(h:Ze4 key es l){a:α}{b:Bool}{i:Nat}(hi:i<es.length):Ze4 key (es.modify i fun e=>{ e with key:=key a,val:=.bool b }) (l.set i (a,b)):=by
 unfold Ze4 at*
 apply Z3i
 intro k
 have hk:=congrArg (fun z=>z[k]?) h
 simp only[Z30]at hk
 simp only[Z30,List.getElem?_modify,Z2z]
 by_cases e:i=k
 ·subst e
  have hl:i<l.length:=by
   have:=congrArg List.length h
   simp at this
   omega
  simp[hi,hl]
 ·simp only[Z16 e]
  cases hes:es[k]?<;>simp_all
theorem Zzw{key:α→Value}{es:List MapEntry}{l:List (α × Bool)}(h:Ze4 key es l){a:α}{b:Bool}{n:Nat}:Ze4 key (es++[{ key:=key a,val:=.bool b,born:=n }]) (l++[(a,b)]):=by
 unfold Ze4 at*
 simp[h]
end k
section r
variable{α:Type}[DecidableEq α]{P:Program}(S:Tab P){n:Nat}{ops:List Oper}{Q:Exit→Z9→Za→Prop}{rest:List Oper}{ρ:Z9}{L:Za}{ty:TypeId}{pos:String}{af:Array Edge}
theorem q_mapB{d:Option Tmp}{g:Option (Nat × Bool)}{t kt et s0 b0 r:Nat}{key:α→Value}{x y:Operand}{es:List MapEntry}{ck:Nat}{f:α→Bool}{a:α}(hK:KeyOk P kt key)(hx:ev ρ x=some (.map (some r)))(hy:ev ρ y=some (key a))
  (ht:Yj S.ty t=some ⟨8,kt,et,s0,b0⟩)(hz:Yj S.zr et=some (.bool false))(hb:Has L r (.map ⟨es⟩ ck))(hF:Xy key es f):QOp P ⟨d,.lookup t x y false,ty,pos,af,g⟩ ρ L (.bool (f a)):=
 Vi (fun ρe he N=>by
  obtain⟨l,hE,hf⟩:=hF
  have hm:=Zri (S.tyI ht) rfl
  simp only[execOp,he x (by simp[Op.operands]) _ hx,he y (by simp[Op.operands]) _ hy]
  refine Plo.bind ?_ fun _=>trivial
  unfold Instr.lookup
  refine Zf hm ?_
  repeat' first|(with_reducible first|exact hK.pchk _ _ _ _ _|exact hK.pfind _ _ _ _ _)|(with_reducible first|assumption|exact Vf _|exact Wy _|exact Xe _|exact Vz _|exact Yq|exact Zg _|exact Yd _|exact Yf _|exact Z4 _|exact X5 _|exact Ve _ _|exact Y0 _ _|exact Ye _ _|exact Xl _|exact Xc _ _|exact Xd _ _|exact Xb rfl|exact Yx _|exact Y8 _|exact Zs _|exact Xi _|exact Z2 _ _ _ _|exact Yp _|exact Xv _|exact Xa _|exact Y2 _|exact Wi _|exact Xk _|exact Wn _ _ _|exact Xr _|refine Plo.bind ?_ (fun _=>?_)|refine Plo.ite ?_ ?_)|split|dsimp only) fun ρe he k w hs=>by
  obtain⟨l,hE,hf⟩:=hF
  have hm:=Zri (S.tyI ht) rfl
  have hzero:=Zbe (S.zeroI hz) w
  have hh:=MapKept.run_getObj_map (P:=P) (hs.heap hb)
  have hfind:=hK.find w a es l hE
  have hl:(Instr.lookup t (.map (some r)) (key a) false).run P w=.ok (.bool (f a)) w:=by
   unfold Instr.lookup
   simp only[Z3q,Z2k hm,Z3b,hh,Z37,hK.chk,hfind]
   rw[hf a]
   cases hfb:Qj a l 0 with
   | none=>simp[hzero,(Zfw hfb).1]
   | some q=>
    obtain⟨j,v⟩:=q
    obtain⟨-,b,rfl,-,e⟩:=Zcv hfb
    simp[e]
  simp only[execOp,he x (by simp[Op.operands]) _ hx,he y (by simp[Op.operands]) _ hy,Z3q,hl,Z3b,Z37]
theorem wMk{d t:Nat}(h:∀b,HO P n ops Q rest ((d,.map (some b))::ρ) ([(b,.map #[] 0)]::L))(h00:Ul ρ=true:=by exact rfl)(hn:Nat.blt d n=true:=by exact rfl):HO P n ops Q (⟨some d,.makeMap t none,ty,pos,af,none⟩::rest) ρ L:=
 Ut rfl rfl hn fun ρe he k w hs=>⟨.map (some w.heap.size),w.alloc (.map #[] 0),_,by simp[execOp,RowKit.run_makeMap],hs.new _,h _⟩
theorem o_mapB{t kt et s0 b0 r ck:Nat}{key:α→Value}{x y z:Operand}{es:List MapEntry}{f:α→Bool}{a:α}{b:Bool}(hK:KeyOk P kt key)(hx:ev ρ x=some (.map (some r)))(hy:ev ρ y=some (key a))(hzz:ev ρ z=some (.bool b))
  (ht:Yj S.ty t=some ⟨8,kt,et,s0,b0⟩)(hF:Xy key es f)(h:∀es' ck',Xy key es' (fun x=>if x=a then b else f x)→HO P n ops Q rest ρ ([(r,.map ⟨es'⟩ ck')]::L)):
  HO P n ops Q (⟨none,.mapUpdate t x y z,ty,pos,af,none⟩::rest) ρ ([(r,.map ⟨es⟩ ck)]::L):=by
 refine ho_do rfl rfl (fun ρe he k w hs=>?_) fun ρe he N=>?_
 case refine_2=>
  have hm:=Zri (S.tyI ht) rfl
  simp only[execOp,he x (by simp[Op.operands]) _ hx,he y (by simp[Op.operands]) _ hy]
  refine Plo.bind ?_ fun _=>trivial
  unfold Instr.mapUpdate
  refine Zf hm ?_
  have hW:InW ([(r,.map ⟨es⟩ ck)]::L) r∨N≤r:=.inl ⟨_,Zk,rfl⟩
  repeat' first|(with_reducible first|exact hK.pchk _ _ _ _ _|exact hK.pfind _ _ _ _ _|exact pl_stays _ _|exact Z04 hW rfl)|(with_reducible first|assumption|exact Vf _|exact Wy _|exact Xe _|exact Vz _|exact Yq|exact Zg _|exact Yd _|exact Yf _|exact Z4 _|exact X5 _|exact Ve _ _|exact Y0 _ _|exact Ye _ _|exact Xl _|exact Xc _ _|exact Xd _ _|exact Xb rfl|exact Yx _|exact Y8 _|exact Zs _|exact Xi _|exact Z2 _ _ _ _|exact Yp _|exact Xv _|exact Xa _|exact Y2 _|exact Wi _|exact Xk _|exact Wn _ _ _|exact Xr _|refine Plo.bind ?_ (fun _=>?_)|refine Plo.ite ?_ ?_)|split|dsimp only
 obtain⟨l,hE,hf⟩:=hF
 have hm:=Zri (S.tyI ht) rfl
 have hb0:w.heap[r]?=some (.map ⟨es⟩ ck):=hs.heap Zk
 have hh:=MapKept.run_getObj_map (P:=P) hb0
 have hfind:=hK.find w a es l hE
 have fin:∀(es':List MapEntry) (ck':Nat),Nx k w ([(r,.map ⟨es⟩ ck)]::L) { w with heap:=w.heap.setIfInBounds r (.map ⟨es'⟩ ck') } ([(r,.map ⟨es'⟩ ck')]::L):=fun es' ck'=>by
  have hs2:=MapKept.heap_set (o':=.map ⟨es'⟩ ck') hb0
  exact hs.upd Xx rfl rfl rfl hs2.1 (fun j hj=>hs2.2 j hj)
 have e1:=he x (by simp[Op.operands]) _ hx
 have e2:=he y (by simp[Op.operands]) _ hy
 have e3:=he z (by simp[Op.operands]) _ hzz
 cases hfb:Qj a l 0 with
 | none=>
  obtain⟨h1,h2⟩:=Zfw hfb
  rw[hfb]at hfind
  refine⟨_,_,.inl ?_,fin (es++[{ key:=key a,val:=.bool b,born:=ck }]) (ck+1),h _ _ ⟨l++[(a,b)],Zzw hE,fun x=>?_⟩⟩
  ·have hr:(Instr.mapUpdate t (.map (some r)) (key a) (.bool b)).run P w=.ok () { w with heap:=w.heap.setIfInBounds r (.map ⟨es++[{ key:=key a,val:=.bool b,born:=ck }]⟩ (ck+1)) }:=by
    unfold Instr.mapUpdate
    simp only[Z3q,Z2k hm,Z3b,hh,hK.chk,hfind,MapKept.run_setObj_map _ hb0]
    simp
   simp[execOp,e1,e2,e3,hr]
  ·show (if x=a then b else f x)=_
   rw[Zls h2,hf]
 | some q=>
  obtain⟨j,v⟩:=q
  obtain⟨-,b',rfl,hj,hb'⟩:=Zcv hfb
  rw[hfb]at hfind
  have hlen:es.length=l.length:=by have:=congrArg List.length hE;simpa using this
  have hjl:j<es.length:=by rw[hlen];exact(Z2j.1 (by simpa using hj)).1
  have hkey:(es[j]).key=key a:=by
   have h9:=congrArg (fun z=>z[j]?) hE
   simp only[Z30,Nat.sub_zero]at h9 hj
   rw[hj,Z2c hjl]at h9
   simp at h9
   exact h9.1
  refine⟨_,_,.inl ?_,fin (es.modify j fun e=>{ e with key:=key a,val:=.bool b }) ck,h _ _ ⟨l.set j (a,b),ents_set hE hjl,fun x=>?_⟩⟩
  ·have hr:(Instr.mapUpdate t (.map (some r)) (key a) (.bool b)).run P w=.ok () { w with heap:=w.heap.setIfInBounds r (.map ⟨es.modify j fun e=>{ e with key:=key a,val:=.bool b }⟩ ck) }:=by
    unfold Instr.mapUpdate
    have e9:((((Array.mk es)[j]?).map (·.key)).getD (key a))=key a:=by simp[hjl,hkey]
    simp only[Z3q,Z2k hm,Z3b,hh,hK.chk,hfind,e9,hK.stay,MapKept.run_setObj_map _ hb0]
    simp
   simp[execOp,e1,e2,e3,hr]
  ·show (if x=a then b else f x)=_
   rw[Z0o hfb,hf]
theorem Zom{kt s0 b0:Nat}(hk:Yj S.ty kt=some ⟨2,3,0,s0,b0⟩):KeyOk (α:=Int) P kt iv:=by
 have hd:P.underlying kt=some (.int .i64):=Zdc (S.tyI hk) rfl
 have hI:∀a:Int,MapKept.IsKey (.int .i64) (iv a):=fun a=>by simp[MapKept.IsKey]
 refine⟨fun em w a=>MapKept.run_checkKey hd (hI a) em 9999,fun w a es l hE=>?_,fun w a=>MapKept.run_keyThatStays (hI a),fun em a B W N=>?_,fun a y B W N=>Yk fun dd=>Ztl hd a y dd⟩
 case refine_2=>
  have:Plo P B W N (Instr.checkKey em (9999+1) kt (iv a)):=by unfold Instr.checkKey;exact Zf hd trivial
  exact this
 refine MapKept.run_findKey hd ?_
 have key:∀(es:List MapEntry) (l:List (Int × Bool)) (i:Nat),Ze4 iv es l→Instr.findNow (.int .i64) (iv a) es i=some (Qj a l i):=by
  intro es
  induction es with
  | nil=>
   intro l i h
   cases l with
   | nil=>rfl
   | cons p r=>simp[Ze4]at h
  | cons e es ih=>
   intro l i h
   cases l with
   | nil=>simp[Ze4]at h
   | cons p r=>
    obtain⟨x,b⟩:=p
    simp only[Ze4,Z2s,Z56,Z3m]at h
    obtain⟨⟨h1,h2⟩,h3⟩:=h
    simp only[Instr.findNow,h1,Instr.sameNow,Z4d,Qj]
    by_cases hax:a=x
    ·subst hax;simp[h2]
    ·have:(a == x)=false:=by simp[hax]
     simp[this,hax,ih r (i+1) h3]
 exact key es l 0 hE
theorem qmI{d:Option Tmp}{g:Option (Nat × Bool)}{t kt et s0 b0 s1 b1 r:Nat}{x y:Operand}{es:List MapEntry}{ck:Nat}{f:Int→Bool}{a:Int}(h00:Ul ρ=true:=by exact rfl)(hx:ev ρ x=some (.map (some r)):=by exact rfl)(hy:ev ρ y=some (iv a):=by exact rfl)
  (ht:Yj S.ty t=some ⟨8,kt,et,s0,b0⟩:=by exact rfl)(hk:Yj S.ty kt=some ⟨2,3,0,s1,b1⟩:=by exact rfl)(hz:Yj S.zr et=some (.bool false):=by exact rfl)(hb:Has L r (.map ⟨es⟩ ck):=by (repeat (first|assumption|exact Zk|exact Yr (by assumption)|apply Qp|apply Zb)))(hF:Xy iv es f:=by assumption):
  QOp P ⟨d,.lookup t x y false,ty,pos,af,g⟩ ρ L (.bool (f a)):=q_mapB S (Zom S hk) hx hy ht hz hb hF
theorem wmI{t kt et s0 b0 s1 b1 r ck:Nat}{x y z:Operand}{es:List MapEntry}{f:Int→Bool}{a:Int}{b:Bool}(hF:Xy iv es f)(h:∀es' ck',Xy iv es' (fun x=>if x=a then b else f x)→HO P n ops Q rest ρ ([(r,.map ⟨es'⟩ ck')]::L))(h00:Ul ρ=true:=by exact rfl)(hx:ev ρ x=some (.map (some r)):=by exact rfl)(hy:ev ρ y=some (iv a):=by exact rfl)(hzz:ev ρ z=some (.bool b):=by exact rfl)
  (ht:Yj S.ty t=some ⟨8,kt,et,s0,b0⟩:=by exact rfl)(hk:Yj S.ty kt=some ⟨2,3,0,s1,b1⟩:=by exact rfl):
  HO P n ops Q (⟨none,.mapUpdate t x y z,ty,pos,af,none⟩::rest) ρ ([(r,.map ⟨es⟩ ck)]::L):=o_mapB S (Zom S hk) hx hy hzz ht hF h
end r
/-! ### a loop of so many rounds; a call within a region that draws its order -/
def Zcl(P:Program)(n:Nat)(c:Code)(Q:Exit→Z9→Za→Prop):Nat→Exit→Z9→Za→Prop
 | 0,.normal,ρ,L=>False
 | k+1,.normal,ρ,L=>HW P n c (Zcl P n c Q k) ρ L
 | _,e,ρ,L=>Q e ρ L
theorem unQ_succ{P:Program}{n k:Nat}{c:Code}{Q:Exit→Z9→Za→Prop}{ρ:Z9}{L:Za}(h:HW P n c (Zcl P n c Q k) ρ L):Zcl P n c Q (k+1) .normal ρ L:=h
theorem unQ_ret{P:Program}{n k:Nat}{c:Code}{Q:Exit→Z9→Za→Prop}{ρ:Z9}{L:Za}(h:Q .ret ρ L):Zcl P n c Q k .ret ρ L:=by cases k<;>exact h
theorem unQ_exit{P:Program}{n k i:Nat}{c:Code}{Q:Exit→Z9→Za→Prop}{ρ:Z9}{L:Za}(h:Q (.exit i) ρ L):Zcl P n c Q k (.exit i) ρ L:=by cases k<;>exact h
theorem Z0d{P:Program}{n:Nat}{c:Code}{Q:Exit→Z9→Za→Prop}{ρ:Z9}{L:Za}(m:Nat)(h:HW P n c (Zcl P n c Q m) ρ L):HW P n (.loop c) Q ρ L:=by
 intro main Φ b kk cs a hb hc ha
 have key:∀m ρ L,HW P n c (Zcl P n c Q m) ρ L→∀a':Act,a'.defers=a.defers→Agr n a' ρ→Lo P main Φ (Conc.G (b.at a' (.code c::.inLoop c::kk)) cs) L:=by
  intro m
  induction m with
  | zero=>
   intro ρ L h a2 hd ha
   have hc:=hd▸hc
   refine h main Φ b (.inLoop c::kk) cs a2 hb (fun e ρ' L' q=>?_) ha
   cases e with
   | normal=>exact q.elim
   | exit id=>exact(hc _ _ _ q).push rfl (by simp)
   | ret=>exact(hc _ _ _ q).push (x:=.inLoop c) rfl (by simp)
   | goto l=>exact hc _ _ _ q
   | panic ch=>exact hc _ _ _ q
   | outgrown=>exact hc _ _ _ q
  | succ m ih=>
   intro ρ L h a2 hd ha
   have hc:=hd▸hc
   refine h main Φ b (.inLoop c::kk) cs a2 hb (fun e ρ' L' q=>?_) ha
   cases e with
   | normal=>exact fun a' hd' ha'=>.ctl rfl rfl (fun w=>Conc.stepG_inLoop) (ih ρ' L' q a' (hd'.trans hd) ha')
   | exit id=>exact(hc _ _ _ q).push rfl (by simp)
   | ret=>exact(hc _ _ _ q).push (x:=.inLoop c) rfl (by simp)
   | goto l=>exact hc _ _ _ q
   | panic ch=>exact hc _ _ _ q
   | outgrown=>exact hc _ _ _ q
 exact .ctl rfl rfl (fun w=>Conc.stepG_loop) (key m ρ L h a rfl ha)
section df
variable{P:Program}{n:Nat}{ops:List Oper}{Q:Exit→Z9→Za→Prop}{Ss:List (Nat × Zp)}{rem rem':List (Nat × Oper)}{ρ:Z9}{L:Za}{ty:TypeId}{pos:String}{af:Array Edge}{g:Option (Nat × Bool)}{d i:Nat}
theorem dcF{f:Operand}{as9:Array Operand}{ts:Array TypeId}{Fn:Nat}{cap args args':List Value}{v:Value}(k:Nat)(F:List Zp)(h:∀L,(∀p∈F,Has L p.1 p.2)→HC P Fn args' L (fun u L'=>u=v∧L'=L))(hF:∀p∈F,Has L p.1 p.2)
  (hr:HD P n ops Q (F.map (fun p=>(i,p))++Ss) rem' ((d,v)::ρ) L)(h00:Ul ρ=true:=by exact rfl)(hp:Zbk k rem=some ((i,⟨some d,.call { callee:=.value f,args:=as9,argTypes:=ts },ty,pos,af,g⟩),rem'):=by exact rfl)(hg:Y3 ops ρ g=some true:=by exact rfl)(hn:Nat.blt d n=true:=by exact rfl)
  (hf:ev ρ f=some (.func (.func Fn) #[] ⟨cap⟩):=by exact rfl)(ha:evs ρ as9.toList=some args:=by exact rfl)(he:args++cap=args':=by exact rfl)(hc:Znk ops rem' i ⟨some d,.call { callee:=.value f,args:=as9,argTypes:=ts },ty,pos,af,g⟩=true:=by decide +kernel):HD P n ops Q Ss rem ρ L:=
 hd_q (F:=F) hp hc rfl hn (.inl ⟨hg,fun L hL=>q_call hf ha (he▸h L hL)⟩) hF hr
end df
theorem hcHas{P:Program}{F:Nat}{args:List Value}{b:Nat}{o:Obj}{V:Value}(h:∀L,HC P F args ([(b,o)]::L) (fun v L'=>v=V∧L'=[(b,o)]::L)){L:Za}(hb:Has L b o):HC P F args L (fun v L'=>v=V∧L'=L):=by
 obtain⟨l1,l2,e⟩:=Z49 hb
 have hp:List.Perm L.flatten ([(b,o)]::[l1++l2]).flatten:=by
  rw[e]
  simp only[Z17,Z22,Z2p,Z19,Z2b]
  exact Z6y
 exact((h [l1++l2]).wk (.ls (.of_perm hp.symm))).wkQ fun v L' ⟨hv,hL⟩=>⟨L,.ls (hL▸.of_perm hp),hv,rfl⟩
theorem Zjv{P:Program}{F:Nat}{args:List Value}{c1 c2:List Zp}{L L1 L2:Za}{V:Value}(h:∀L,HC P F args (c1::c2::L) (fun v L'=>v=V∧L'=c1::c2::L))(k1 k2:Nat)(hp1:Zdj k1 L=some (c1,L1):=by exact rfl)(hp2:Zdj k2 L1=some (c2,L2):=by exact rfl):HC P F args L (fun v L'=>v=V∧L'=L):=
 have hp:List.Perm L (c1::c2::L2):=(Vo hp1).trans ((Vo hp2).cons c1)
 ((h L2).wk (.ls (.of_perm hp.symm.flatten))).wkQ fun v L' ⟨hv,hL⟩=>⟨L,.ls (hL▸.of_perm hp.flatten),hv,rfl⟩
theorem Rd.all{α:Type}{enc:α→List Value}{sz:Nat}{L:Za}{a:Option Addr}{xs:List α}(h:Rd enc sz L a xs)(h0:0<xs.length):∃b i c E fr,a=some ⟨b,i,none⟩∧Has L b (.cells ⟨c⟩ E fr)∧∀k (hk:k<xs.length),Gets c (i+((k:Int)).toNat*sz) (enc xs[k]):=by
 rcases h with h|⟨b,i,c,E,fr,rfl,hb,hg⟩
 ·rw[h]at h0;simp at h0
 ·exact⟨b,i,c,E,fr,rfl,hb,fun k hk=>by simpa using hg k _ (Z2c hk)⟩
structure Fresh(b:Bool):Prop where
 any:True
theorem fresh_t:Fresh true:=⟨trivial⟩
theorem fresh_f:Fresh false:=⟨trivial⟩
theorem Zz0(b:Bool):Fresh b:=⟨trivial⟩
section d
variable{P:Program}{n:Nat}{ops:List Oper}{Q:Exit→Z9→Za→Prop}{Ss:List (Nat × Zp)}{rem rem':List (Nat × Oper)}{ρ:Z9}{L:Za}{i:Nat}
theorem d_sp{t j:Nat}{q:Oper}{b wt:Bool}(k:Nat)(h1:b=true→HD P n ops Q Ss rem ((t,.bool true)::ρ) L)(h0:b=false→HD P n ops Q Ss rem ((t,.bool false)::ρ) L)(h00:Ul ρ=true:=by exact rfl)(hp:Zbk k rem=some ((i,q),rem'):=by exact rfl)(hq:q.guard=some (j,wt):=by exact rfl)(hj:Zb2 ops j=some t:=by exact rfl)(ht:lk ρ t=some (.bool b):=by exact rfl)
  (hb:Fresh b:=by (fail_if_success (with_reducible exact fresh_t));(fail_if_success (with_reducible exact fresh_f));exact Zz0 _):HD P n ops Q Ss rem ρ L:=hd_split ht h1 h0
end d
def calmK:List Oper→Bool
 | []=>true
 | o::r=>bif Zvz o then false else calmK r
section c
variable{P:Program}{n:Nat}{ops:List Oper}{Q:Exit→Z9→Za→Prop}{ρ:Z9}{L:Za}
theorem g_kk{id:Nat}(S:Tab P)(h:HQ P n ops (fun ρ'=>Q .normal ρ' L) ops ρ L)(h00:Ul ρ=true:=by exact rfl)(hc:calmK ops=true:=by decide +kernel)(hB:Region.lexB .any ops.toArray=true:=by decide +kernel):HW P n (.region id ops.toArray true) Q ρ L:=Zss S hB h
def Zrb{α:Type}:List α→List (α × List α)
 | []=>[]
 | x::r=>(x,r)::(Zrb r).map fun p=>(p.1,x::p.2)
theorem Zlz{α:Type}:∀{a b:List α} {x:α},(x,a++b)∈Zrb (a++x::b)
 | [],b,x=>.head _
 | y::a,b,x=>.tail _ (Z2v.2 ⟨(x,a++b),Zlz,rfl⟩)
def Ztd(ops:List Oper)(rem:List (Nat × Oper)):List ((Nat × Oper) × List (Nat × Oper)):=(Zrb rem).filter fun p=>Zc4 ops.length rem p.1.2
theorem Zvt{Ss:List (Nat × Zp)}{rem:List (Nat × Oper)}(h0:Ztd ops rem≠[])(h:∀x∈Ztd ops rem,HO P n ops (Wa P n ops Q x.1.1 Ss x.2) [x.1.2] ρ L):HD P n ops Q Ss rem ρ L:=fun hS l hu=>by
 obtain⟨x0,hx0⟩:=List.exists_mem_of_ne_nil _ h0
 have hx1:=Z3s.1 hx0
 have mem_of:∀{rem:List (Nat × Oper)} {x:(Nat × Oper) × List (Nat × Oper)},x∈Zrb rem→x.1∈rem:=by
  intro rem
  induction rem with
  | nil=>intro x hx;cases hx
  | cons y r ih=>
   intro x hx
   rcases Z2h.1 hx with rfl|hx
   ·exact .head _
   ·obtain⟨z,hz,rfl⟩:=Z2v.1 hx
    have h8:=ih hz
    exact .tail _ h8
 have hne:rem.length≠0:=fun e=>by
  rw[Z3v e]at hx1
  cases hx1.1
 obtain⟨m,hm⟩:=Nat.exists_eq_succ_of_ne_zero hne
 rw[hm]
 have hrd:=hu.ready (show (x0.1.1,x0.1.2)∈rem from mem_of hx1.1) hx1.2
 refine⟨fun h0=>(by rw[h0]at hrd;cases hrd),fun j hj=>?_⟩
 obtain⟨o,hmj,hrj⟩:=hu.readyR_of hj
 obtain⟨a,b,rfl⟩:=Z49 hmj
 have h9:=h ((j,o),a++b) (Z3s.2 ⟨Zlz,hrj⟩)
 simp only at h9
 have hlen:m=(a++b).length:=by simp at hm ⊢;omega
 subst hlen
 obtain⟨h1,h2⟩:=(hu.iff j o).1 hmj
 intro ac ha
 have h3:=Zav h9 ac ha
 have fin:∀(a1:Act) (L1:Za),(∃ρ',Agr n a1 ρ'∧HO P n ops (Wa P n ops Q j Ss (a++b)) [] ρ' L1)→∃ρ',Agr n a1 ρ'∧Zij ops j L1 Ss∧HAny P n ops Q (a++b).length (ssF ops j Ss) (l.setIfInBounds j true) ρ' L1:=fun a1 L1 hx=>by
  obtain⟨ρ',e1,L2,hw,e3,e4⟩:=hx
  have e5:Zij ops j L1 Ss:=Zkr hw e3
  refine⟨ρ',e1,e5,HAny.ls (e4 (fun s hs=>?_) _ hu.drop) hw⟩
  have:=Z3s.1 hs
  exact ssOk_all.1 e3 s this.1 this.2
 unfold KOp
 rw[show ops.toArray[j]?=some o by simpa using h1]
 simp only
 split
 ·rename_i hw
  rw[Z2d hw]at h3
  exact h3.mono fun v L1 hx=>fin _ _ hx
 ·rename_i hw
  rw[Z16 hw]at h3
  exact fin _ _ h3
theorem Zdw{Ss:List (Nat × Zp)}{rem r1 r2:List (Nat × Oper)}{i j:Nat}{o p:Oper}(h1:HO P n ops (Wa P n ops Q i Ss r1) [o] ρ L)(h2:HO P n ops (Wa P n ops Q j Ss r2) [p] ρ L)(hn:Ztd ops rem=[((i,o),r1),((j,p),r2)]:=by exact rfl):HD P n ops Q Ss rem ρ L:=
 Zvt (by rw[hn];simp) fun x hx=>by
  rw[hn]at hx
  simp only[Z2h,Z4m,Z6j]at hx
  rcases hx with rfl|rfl
  ·exact h1
  ·exact h2
theorem Zlg{Ss:List (Nat × Zp)}{rem r1 r2 r3:List (Nat × Oper)}{i j k:Nat}{o p q:Oper}(h1:HO P n ops (Wa P n ops Q i Ss r1) [o] ρ L)(h2:HO P n ops (Wa P n ops Q j Ss r2) [p] ρ L)(h3:HO P n ops (Wa P n ops Q k Ss r3) [q] ρ L)(hn:Ztd ops rem=[((i,o),r1),((j,p),r2),((k,q),r3)]:=by exact rfl):HD P n ops Q Ss rem ρ L:=
 Zvt (by rw[hn];simp) fun x hx=>by
  rw[hn]at hx
  simp only[Z2h,Z4m,Z6j]at hx
  rcases hx with rfl|rfl|rfl
  ·exact h1
  ·exact h2
  ·exact h3
theorem Zx7{Ss:List (Nat × Zp)}{rem r1 r2 r3 r4:List (Nat × Oper)}{i j k m:Nat}{o p q r:Oper}(h1:HO P n ops (Wa P n ops Q i Ss r1) [o] ρ L)(h2:HO P n ops (Wa P n ops Q j Ss r2) [p] ρ L)(h3:HO P n ops (Wa P n ops Q k Ss r3) [q] ρ L)(h4:HO P n ops (Wa P n ops Q m Ss r4) [r] ρ L)
  (hn:Ztd ops rem=[((i,o),r1),((j,p),r2),((k,q),r3),((m,r),r4)]:=by exact rfl):HD P n ops Q Ss rem ρ L:=
 Zvt (by rw[hn];simp) fun x hx=>by
  rw[hn]at hx
  simp only[Z2h,Z4m,Z6j]at hx
  rcases hx with rfl|rfl|rfl|rfl
  ·exact h1
  ·exact h2
  ·exact h3
  ·exact h4
end c
section w
variable{P:Program}{n:Nat}{ops:List Oper}{Q:Exit→Z9→Za→Prop}{rest:List Oper}{ρ:Z9}{L:Za}{ty:TypeId}{pos:String}{af:Array Edge}
theorem Zrl(S:Tab P){d:Nat}{T E:TypeId}{ti:TyI}{dir:ChanDir}{x:Operand}(hu:∀w,(underlying T).run P w=.ok (.chan dir E) w)(he:Yj S.ty E=some ti)(h:∀b,HO P n ops Q rest ((d,.chan (some b))::ρ) ([(b,.chan 0 #[] false 0 0 false)]::L))(hx:ev ρ x=some (.int .i64 0):=by exact rfl)(hn:Nat.blt d n=true:=by exact rfl):
  HO P n ops Q (⟨some d,.makeChan T x,ty,pos,af,none⟩::rest) ρ L:=
 Ut rfl rfl hn fun ρe hh k w hs=>⟨.chan (some w.heap.size),w.alloc (.chan 0 #[] false 0 0 false),_,by
  obtain⟨dd,j,hd,hj,_⟩:=X8 (S.tyI he)
  simp[execOp,Instr.makeChan,hh x (by simp[Op.operands]) _ hx,asInt,asIntOf,hu w,typeInfo,hj,newObj,Result.andThen]
  rfl,hs.new _,h _⟩
end w
end Go.HL
namespace Go.HL
open Go Go.Proofs Go.ChangeAt Go.ChangeShapes Go.RowKit Go.WideShapes Go.Proofs.Tryz
variable[Tasks]
def Zx1(w:World)(i:Nat):Option Zp:=match w.heap[i]? with
 | some (.cells c E fr)=>some (i,Zr (.cells c E fr))
 | _=>none
def We(w:World):List Zp:=(List.range w.heap.size).filterMap (Zx1 w)
def ctx(w:World):Zaz:=(w.os,w.output,w.tape)
theorem mem_blks{w:World}{b:Nat}{c:Array Value}{E:Nat}{fr:Nat × Nat}(h:w.heap[b]?=some (.cells c E fr)):(b,Zr (.cells c E fr))∈We w:=
 Z6d.2 ⟨b,Z4w.2 (Z2g.1 h).1,by simp only[Zx1,h]⟩
theorem Zc2{w:World}{p:Zp}(h:p∈We w):∃c E fr,w.heap[p.1]?=some (.cells c E fr)∧p.2=Zr (.cells c E fr):=by
 obtain⟨i,_,h2⟩:=Z6d.1 h
 unfold Zx1 at h2
 split at h2
 ·rename_i c E fr he
  cases h2
  exact⟨c,E,fr,he,rfl⟩
 ·cases h2
theorem sat_init(w:World):Sat (ctx w) w [We w]:=by
 have hf:([We w]:Za).flatten=We w:=by simp
 refine⟨rfl,rfl,rfl,fun p hp hg=>?_,?_,fun p hp=>?_,fun p hp=>?_⟩<;>rw[hf] at*
 ·obtain⟨c,E,fr,h1,h2⟩:=Zc2 hp
  rw[h2,Zgl]
  exact h1
 ·have key:∀(f:Nat→Option Zp) (l:List Nat),(∀i p,f i=some p→p.1=i)→l.Nodup→((l.filterMap f).map (·.1)).Nodup:=by
   intro f l hf
   induction l with
   | nil=>intro _;exact .nil
   | cons x l ih=>
    intro hn
    rw[Z3w]at hn
    cases hx:f x with
    | none=>rw[List.filterMap_cons_none hx];exact ih hn.2
    | some p=>
     rw[List.filterMap_cons_some hx,Z2s,Z3w]
     refine⟨fun hm=>?_,ih hn.2⟩
     obtain⟨q,hq,e⟩:=Z2v.1 hm
     obtain⟨y,hy,hfy⟩:=Z6d.1 hq
     have e1:=hf x p hx
     have e2:=hf y q hfy
     have:x=y:=by rw[← e1,← e2,e]
     exact hn.1 (this▸hy)
  refine key _ _ (fun i p h=>?_) List.nodup_range
  unfold Zx1 at h
  split at h
  ·cases h;rfl
  ·cases h
 ·obtain⟨c,E,fr,h1,h2⟩:=Zc2 hp
  rw[h2];rfl
 ·obtain⟨c,E,fr,h1,h2⟩:=Zc2 hp
  exact(Z2g.1 h1).1
theorem Zfs{H:Type}{enc:TypeId × Value→H}{P:Program}(hl:laidOutB P=true){W W':World}(hb:Below W.heap.size W W'):
  ∀(ts:List TypeId) (vs:List Value) (ds:List (DataW H)) (ps:List MemPlace),(∀t∈ts,P.readableRec t=true∧t<P.types.size)→DataW.TrodAll enc P W 0 (fun _=>true) true ts vs ds ps→
   (∀x∈ps,x.block<W.heap.size)→DataW.TrodAll enc P W' 0 (fun b=>decide (b<W.heap.size)) true ts vs ds ps
 | [],[],[],ps,_,h,_=>h
 | t::ts,v::vs,d::ds,ps,hr,h,hlt=>by
  obtain⟨p,q,h1,h2,rfl⟩:=h
  exact⟨p,q,Below.trod hl (hr t (by simp)).1 (hr t (by simp)).2 h1 hb (fun x hx=>hlt x (by simp[hx])),
   Zfs hl hb ts vs ds q (fun t ht=>hr t (by simp[ht])) h2 (fun x hx=>hlt x (by simp[hx])),rfl⟩
 | [],_::_,_,_,_,h,_=>by simp[DataW.TrodAll]at h
 | [],[],_::_,_,_,h,_=>by simp[DataW.TrodAll]at h
 | _::_,[],_,_,_,h,_=>by simp[DataW.TrodAll]at h
 | _::_,_::_,[],_,_,h,_=>by simp[DataW.TrodAll]at h
theorem post_law{H:Type}{enc:TypeId × Value→H}{P:Program}{f:Func}{s:ChangeSpec}{apart fresh handsOn:Bool}{W W':World}{args:Array Value}{ds gs:List (DataW H)}{before:List MemPlace}{tb:TypeId}
  (hl:laidOutB P=true)(hr:∀t∈f.params.toList,P.readableRec t=true∧t<P.types.size)(hW:DataW.Whole enc P f.params.toList s.vars apart W args.toList ds gs before)(hb:Below W.heap.size W W')
  (hv:s.vars=[])(hfn:s.fn H (ds++gs)={ results:=[.lit (.bool true)],args:=ds })(hrt:f.resultTypes=#[tb])(hbool:P.underlying tb=some .bool):
  s.post enc P f apart fresh handsOn false W args (.bool true) W':=by
 have hlt:=hW.lt
 have hW':=hW
 obtain⟨p,q,hA,hV,rfl,hfz,hnd⟩:=hW
 rw[hv]at hV
 obtain⟨rfl,rfl⟩:=trodVars_none hV
 refine⟨ds,[],p++[],[],p,[],hW',?_,?_,?_,hb.frame _,fun h=>by cases h⟩
 ·rw[hfn,hrt]
  exact trodAll_mk1 (shut_bool hbool _)
 ·rw[hfn]
  exact Zfs hl hb _ _ _ _ hr hA (fun x hx=>hlt x (by simp[hx]))
 ·rw[hv,hfn]
  rfl
theorem Znj{W:World}{b off i:Nat}{c:Array Value}{E:Nat}{fr:Nat × Nat}(hb:W.heap[b]?=some (.cells c E fr)):W.cell? (Addr.add ⟨b,off,none⟩ i)=c[off+i]?:=by
 unfold Addr.add
 by_cases h0:i=0
 ·subst h0;simp[World.cell?,hb]
 ·simp[World.cell?,hb,h0]
def rfr:Nat × Nat:=(0+(Tasks.m+1),0)
theorem Zle{W:World}{b:Nat}{c:Array Value}{E:Nat}{fr:Nat × Nat}(h:W.heap[b]?=some (.cells c E fr)):Has [We W] b (.cells c E (fr.1+(Tasks.m+1),fr.2)):=by
 simp only[Has,Z17,Z22,Z2p]
 exact mem_blks h
end Go.HL
namespace Go.HL
open Go Go.Proofs Go.Proofs.Tryz
variable[Tasks]
abbrev Er(T:Nat)(E:Nat→Addr)(cs:List Nat)(L:Za):Prop:=Errs errTab T E cs L
def ic(x:Int):List Value:=[iv x]
structure St where
 ph:Int
 pr:Int
 att:Int
 deriving DecidableEq
def sc(s:St):List Value:=[iv s.ph,iv s.pr,iv s.att]
structure Fr where
 fr:Int
 to:Int
 dl:Int
 kd:Int
 att:Int
 yes:Bool
 s:St
 deriving DecidableEq
def fc(f:Fr):List Value:=[iv f.fr,iv f.to,iv f.dl,iv f.kd,iv f.att,.bool f.yes,iv f.s.ph,iv f.s.pr,iv f.s.att]
def Uc:St:=⟨0,0,0⟩
def Yb:Fr:=⟨0,0,0,0,0,false,Uc⟩
/-! a walk's steps, each found by itself -/
theorem zs:(∀{a b:Bool},((!a)=b)↔a = !b)∧((!true)=false)∧((!false)=true)∧(∀{p:Prop} [Decidable p],(decide p=true)=p)∧(∀{p:Prop} {x:Decidable p},decide p=false↔¬ p)∧(∀{p:Prop} [Decidable p],¬ ¬ p↔p)∧(∀(a b:Bool),((a && b)=true)=(a=true∧b=true))∧(∀{α:Type} [BEq α] [LawfulBEq α] {a b:α},(a == b)=true↔a=b)∧
  (∀(h:Decidable True),@decide True h=true)∧(∀b:Bool,(b && true)=b)∧(∀b:Bool,(true && b)=b)∧((¬ True)=False)∧((¬ False)=True):=⟨zA,zB,zC,zD,zE,zF,zG,zH,zI,zJ,zK,zL,zM⟩
theorem zq:(∀{α:Sort _} (a b:α),(a≠b)=¬ (a=b))∧(∀p:Prop,(p∧True)=p)∧(∀p:Prop,(True∧p)=p)∧(∀{α:Sort _} (a:α),(a=a)=True):=⟨fun _ _=>rfl,and_true,true_and,fun _=>eq_self _⟩
theorem zx{P:Prop}(f:False:=by first|omega|with_reducible contradiction):P:=f.elim
structure Wr(p:Prop):Prop where
 w:p
theorem uN{A B:Prop}(h:B)(f:Wr B→A:=by intro h;(first|(show HW _ _ _ _ _ _;first|refine Za3 ?_|refine Vs ?_|refine hw_block ?_|refine hw_exit ?_|refine g_t ?_|refine g_f ?_|refine hw_skip ?_|refine hw_ret ?_)|(show HO _ _ _ _ _ _ _;first|refine Zcw ?_|refine X7 (qe S) ?_|refine X7 (qg S) ?_|refine X7 (ql S) ?_|refine X7 (qs S) ?_|refine X7 (qt S) ?_|refine X7 (qc8 S) ?_|refine X7 (qc32 S) ?_|refine X7 (qn S) ?_|refine X7 (qb S) ?_|refine X7 (qbA S) ?_|refine X7 (qSl S) ?_|refine X7 (qSh S) ?_|refine X7 (qSb S) ?_|refine X7 (qmI S) ?_|refine X7 (qA S) ?_|refine X7 (qB S) ?_|refine X7 (qx32 S) ?_|refine g_n ?_|refine g_on ?_|refine ws S ?_)|(show HQ _ _ _ _ _ _ _;first|refine hq_nil ?_|refine Qm (qe S) ?_|refine Qm (qg S) ?_|refine Qm (ql S) ?_|refine Qm (qs S) ?_|refine Qm (qt S) ?_|refine Qm (qc8 S) ?_|refine Qm (qc32 S) ?_|refine Qm (qn S) ?_|refine Qm (qb S) ?_|refine Qm (qbA S) ?_|refine Qm (qSl S) ?_|refine Qm (qSh S) ?_|refine Qm (qSb S) ?_|refine Qm (qmI S) ?_|refine Qm (qA S) ?_|refine Qm (qB S) ?_|refine Qm (qx32 S) ?_|refine k_n ?_)|(show HD _ _ _ _ _ _ _ _;first|refine Zlf ?_|refine Zfu 100 (by exact rfl) (fun _=>qe S) ?_|refine Zfu 100 (by exact rfl) (fun _=>qc8 S) ?_|refine Zfu 100 (by exact rfl) (fun _=>qc32 S) ?_|refine Zfu 100 (by exact rfl) (fun _=>qn S) ?_|refine Zfu 100 (by exact rfl) (fun _=>qb S) ?_|refine Zfu 100 (by exact rfl) (fun _=>qbA S) ?_|refine Zfu 100 (by exact rfl) (fun _=>qSl S) ?_|refine Zfu 100 (by exact rfl) (fun _=>qSh S) ?_|refine Zfu 100 (by exact rfl) (fun _=>qSb S) ?_|refine Zfu 100 (by exact rfl) (fun _=>qmI S) ?_|refine Zfu 100 (by exact rfl) (fun _=>qA S) ?_|refine Zfu 100 (by exact rfl) (fun _=>qB S) ?_|refine Zfu 100 (by exact rfl) (fun _=>qx32 S) ?_|refine dl S 100 ?_|refine ds S 100 ?_|refine d_n 100 ?_)|refine Vl ?_|refine seqQ_ret ?_|refine Z1n ?_|refine Zzq ?_|refine g_bx ?_|refine blkQ_ret ?_|refine Zr1 ?_|refine Z0p ?_|refine Zwb ?_|refine unQ_ret ?_|refine unQ_exit ?_|refine unQ_succ ?_|refine dx ?_|refine dx0 ?_|refine dxd ?_|refine dxk ?_|fail);exact h.w):A:=f ⟨h⟩
theorem uB{A B:Prop}(h:B)(f:Wr B→A:=by intro h;(first|refine wa S ?_|refine wb ?_|refine wS S ?_|refine wSa S ?_|refine wSn S ?_|refine wMk ?_|refine wm S ?_|refine wM S ?_|fail);exact h.w):A:=f ⟨h⟩
theorem uP{A B C p q:Prop}{b:Bool}(h:p→B)(h':q→C)(f:(b=true→B)→(b=false→C)→A:=by intro h h';(first|refine g_b ?_ ?_|refine g_s ?_ ?_|refine k_s ?_ ?_|refine d_sp 100 ?_ ?_|fail);exact h;exact h')(e:(b=true)=p:=by (try simp only[zs,zq,reduceCtorEq]);try exact rfl)(e':(b=false)=q:=by (try simp only[zs,zq,reduceCtorEq]);try exact rfl):A:=f (fun x=>h (e▸x)) fun x=>h' (e'▸x)
theorem uM{A B:Prop}(h:B)(f:Wr B→A:=by intro h;(first|refine g_k S ?_|refine g_w S ?_|refine da 101 ?_|fail);exact h.w):A:=f ⟨h⟩
theorem uK{A B:Prop}(h:B)(f:Wr B→A:=by intro h;refine g_kk S ?_;exact h.w):A:=f ⟨h⟩
theorem uG{A B:Prop}(h:B)(f:Wr B→A:=by intro h;(first|refine g_d S ?_|refine da 101 ?_|fail);exact h.w):A:=f ⟨h⟩
theorem uE{P:Program}{F n:Nat}{fn:Func}{c:Code}{args:List Value}{ρ:Z9}{L:Za}{Q:Value→Za→Prop}(hf:P.funcs[F]?=some fn)(hn:fn.ntmps=n)(h:HW P n c (Zaf P fn Q) ρ L)(h0:(fn.name == "runtime.NumGoroutine")=false:=by kernel_rfl)(hb:fn.body=some c:=by exact rfl)(hl:args.length≤n:=by exact Z2m rfl)(e:Q6 0 args=ρ:=by (try simp only[Q6,Nat.reduceAdd]);try exact rfl):HC P F args L Q:=hc_enter h0 hf hb hn hl (e▸h)
theorem uC{X A B:Prop}(c:X)(h:B)(f:X→Wr B→A:=by intro c h;(first|refine X7 (qC c) ?_|refine Qm (qC c) ?_|fail);exact h.w):A:=f c ⟨h⟩
theorem uS{a b:Z9}(h:Sub a b:=by repeat (first|exact trivial|refine⟨rfl,?_⟩)):Sub a b:=h
theorem uL{a b:List Zp}(h:LS a b:=by repeat (first|(with_reducible first|refine LS.p0 ?_|refine LS.p1 ?_|refine LS.p2 ?_|refine LS.p3 ?_|refine LS.p4 ?_|refine LS.p5 ?_|refine LS.p6 ?_|refine LS.p7 ?_|refine LS.p8 ?_|refine LS.p9 ?_|refine LS.p10 ?_|refine LS.p11 ?_|refine LS.p12 ?_|refine LS.e ?_|exact LS.refl _)|refine LS.p0 ?_|refine LS.p1 ?_|refine LS.p2 ?_|refine LS.p3 ?_|refine LS.p4 ?_|refine LS.p5 ?_|refine LS.p6 ?_|refine LS.p7 ?_|refine LS.p8 ?_|refine LS.p9 ?_|refine LS.p10 ?_|refine LS.p11 ?_|refine LS.p12 ?_|(with_reducible refine LS.c ?_))):LS a b:=h
theorem uZ{a b:List Zp}(h:LS a b:=by repeat (first|exact LS.refl _|apply LS.k|apply LS.c)):LS a b:=h
section
variable{P:Program}{n:Nat}{ops:List Oper}{Q:Exit→Z9→Za→Prop}{Ss:List (Nat × Zp)}{rem rem':List (Nat × Oper)}{ρ:Z9}{L:Za}{f:Operand}{xa:Array Operand}{ts:Array TypeId}{F d i:Nat}{cap args args':List Value}{v:Value}{ty:TypeId}{pos:String}{af:Array Edge}{g:Option (Nat × Bool)}
theorem uD0(k:Nat)(c:∀L,HC P F args' L (fun u L'=>u=v∧L'=L))(hr:HD P n ops Q Ss rem' ((d,v)::ρ) L)(h00:Ul ρ=true:=by exact rfl)(hp:Zbk k rem=some ((i,⟨some d,.call { callee:=.value f,args:=xa,argTypes:=ts },ty,pos,af,g⟩),rem'):=by exact rfl)(hf:ev ρ f=some (.func (.func F) #[] ⟨cap⟩):=by exact rfl)(ha:evs ρ xa.toList=some args:=by exact rfl)(he:args++cap=args':=by exact rfl)
  (hg:Y3 ops ρ g=some true:=by exact rfl)(hn:Nat.blt d n=true:=by exact rfl)(hc:Znk ops rem' i ⟨some d,.call { callee:=.value f,args:=xa,argTypes:=ts },ty,pos,af,g⟩=true:=by decide +kernel):HD P n ops Q Ss rem ρ L:=Zfu k hp (fun L=>qC (c L) h00 hf ha he) hr h00 hg hn hc
theorem uD{X:Za→Prop}{A B:Prop}(c:∀L,X L)(h:B)(f:(∀L,X L)→Wr B→A:=by intro c h;(first|refine uD0 0 c ?_|refine uD0 1 c ?_|refine uD0 2 c ?_|refine uD0 3 c ?_|fail);exact h.w):A:=f c ⟨h⟩
end
theorem Zpi{L L':Za}{b E:Nat}{c:Array Value}{fr:Nat × Nat}(h:Upd L b (.cells c E fr) (Zr (.cells c E fr)) L')(hr:Zq1 (.cells c E fr)=false):Wk L L':=by
 obtain⟨l,r,e,e'⟩:=h
 have hm:∀p∈L'.flatten,p∈L.flatten∨p=(b,Zr (.cells c E fr)):=fun p hp=>by
  rw[e']at hp;rw[e]
  simp only[Z2f,Z2h]at hp ⊢
  rcases hp with hp|hp|hp
  ·exact .inl (.inl hp)
  ·exact .inr hp
  ·exact .inl (.inr (.inr hp))
 have hb:(b,Obj.cells c E fr)∈L.flatten:=by rw[e];simp
 have hg:gho (Zr (.cells c E fr))=false:=rfl
 have hac:act (.cells c E fr)=.cells c E fr:=Zgm (by simp[Zet,gho,hr])
 refine⟨fun k w hs=>⟨hs.os,hs.out,hs.tape,fun p hp hpg=>?_,?_,fun p hp=>?_,fun p hp=>?_⟩,fun x ⟨o,h1,h2⟩=>?_,fun x ⟨o,h1,h2⟩=>?_,fun p hp hpg=>?_⟩
 ·rcases hm p hp with hp|rfl
  ·exact hs.has p hp hpg
  ·have:=hs.has _ hb rfl
   rw[hac]at this
   rw[Zgl];exact this
 ·have:=hs.nodup
  rw[e]at this;rw[e']
  simpa using this
 ·rcases hm p hp with hp|rfl
  ·exact hs.nv p hp
  ·rfl
 ·rcases hm p hp with hp|rfl
  ·exact hs.lt p hp
  ·exact hs.lt (b,.cells c E fr) hb
 ·rcases hm _ h1 with h1|h1
  ·exact⟨o,h1,h2⟩
  ·cases h1
   have:=Wj c E fr
   rw[Zqp h2]at this;cases this
 ·rcases hm _ h1 with h1|h1
  ·exact⟨o,h1,h2⟩
  ·cases h1
   exact⟨_,hb,rfl⟩
 ·rcases hm p hp with hp|rfl
  ·exact hp
  ·cases hpg
end Go.HL
namespace Go.HL
open Go Go.Proofs Go.Conc Go.Proofs.Tryz
variable[Tasks]
section
variable[Go.ConcR.Payload]{P:Program}{K:Lib.WgLink}
structure Fc(Wg C:Nat)(o:Obj)(w:World):Prop where
 live:ConcN.WgLive Tasks.T Wg w
 blk:w.heap[C]?=some o
theorem Fc.rw{Wg C:Nat}{o:Obj}{w w1:World}(h:Fc Wg C o w)(h1:Fc Wg C o w1):ConcN.RW Tasks.T Wg C 0 0 0 w w1:=
 ⟨fun b hb=>absurd hb (Nat.not_lt_zero _),fun _=>h1.live,fun⟨cs,a,b⟩=>⟨cs,by rw[h1.blk,← h.blk];exact a,b⟩,by simp only[World.cell?,h.blk,h1.blk]⟩
theorem Zed{γ:Gm}{w:World}(h:Shr γ w):ConcR.WgAt Tasks.T γ.wg w ((γ.cnt:Int)*ConcR.KK+γ.wt) γ.sem:=by
 unfold ConcR.WgAt
 rw[h.wg]
 simp[Un,ConcR.wgBlock,ConcR.KK]
theorem Zim{γ γ':Gm}{w:World}{i:Nat}{v:Value}(h:Shr γ w)(e1:γ'.todo=γ.todo)(e2:γ'.back=γ.back)(e3:γ'.wg=γ.wg)(e4:γ'.closed=γ.closed)
  (hw:ConcR.WgAt Tasks.T γ.wg (w.setCell ⟨γ.wg,i,none⟩ v) ((γ'.cnt:Int)*ConcR.KK+γ'.wt) γ'.sem):Shr γ' (w.setCell ⟨γ.wg,i,none⟩ v)∧Only γ w (w.setCell ⟨γ.wg,i,none⟩ v):=by
 have hk:∀b,b≠γ.wg→(w.setCell ⟨γ.wg,i,none⟩ v).heap[b]?=w.heap[b]?:=fun b hb=>heap_setCell_other _ _ b _ hb
 obtain⟨a1,a2,a3,a4,a5,a6⟩:=h
 refine⟨⟨?_,?_,?_,?_⟩,?_,rfl,rfl,rfl,fun b _ hb=>hk b hb⟩
 ·rw[e1,hk _ a5,e4];exact a1
 ·rw[e2,hk _ a6];exact a2
 ·rw[e3]
  unfold ConcR.WgAt at hw
  rw[hw]
  simp[Un,ConcR.wgBlock,ConcR.KK]
 ·rw[e1,e2,e3];exact⟨a4,a5,a6⟩
 ·simp
theorem Zgy{Wg C:Nat}{o:Obj}{t:Tk}{S:Goroutine→World→Prop}(hO:Tasks.O C)(h0:Tasks.W0.heap[C]?=some o)(hwg:t.wg=Wg)(h25:t.st≠25)(hrun:∀g w,S g w→g.status=.running)
  (hstop:∀g,g.status=.running→(∀w,Fc Wg C o w→S g w)→Tl P g t):∀(m:Nat) (g:Goroutine) (w:World),Fc Wg C o w→Goes P false (ConcN.RW Tasks.T Wg C 0 0 0) ConcR.DC0 S m g w→Tl P g t:=by
 have fc:∀{w γ},Shr γ w→Ziq t γ→Zpl w→Fc Wg C o w:=fun hs hc ho=>⟨by obtain⟨_,_,e,_⟩:=hc;rw[← hwg,e];exact⟨_,_,Zed hs⟩,(ho C hO).trans h0⟩
 intro m
 induction m with
 | zero=>exact fun g w hf h=>hstop g (hrun _ _ (h w (hf.rw hf))) fun w1 h1=>h w1 (hf.rw h1)
 | succ m ih=>
  intro g w hf h
  rcases h with h|⟨hr,h⟩
  ·exact hstop g (hrun _ _ (h w (hf.rw hf))) fun w1 h1=>h w1 (hf.rw h1)
  ·refine .shared (fun g' t'=>t'=t∧∃w',Fc Wg C o w'∧Goes P false (ConcN.RW Tasks.T Wg C 0 0 0) ConcR.DC0 S m g' w') hr h25 (fun w1 γ hs hc ho=>?_) (fun g' t' ⟨e,w',a,b⟩=>by subst e;exact ih g' w' a b)
   have hf1:=fc hs hc ho
   have h1:=h w1 (hf.rw hf1)
   cases hst:stepG P false g w1 with
   | go g' w' es=>
    rw[hst]at h1
    obtain⟨⟨rfl,rfl⟩,h2⟩:=h1
    exact⟨g',_,_,t,γ,rfl,Goes.running hrun _ (hf1.rw hf1) h2,.idle,.refl,hs,⟨rfl,rfl,rfl,rfl,fun _ _ _=>rfl⟩,rfl,_,hf1,h2⟩
   | _=>rw[hst]at h1;exact h1.elim
section
variable{Wg C:Nat}{o:Obj}{t:Tk}(hO:Tasks.O C)(h0:Tasks.W0.heap[C]?=some o)(hne:∀a b c,o≠Un Tasks.T a b c)
include hO h0
theorem Zsd{t':Tk}(hwg:t'.wg=Wg){γ:Gm}{w:World}(hs:Shr γ w)(hc:Ziq t' γ)(ho:Zpl w):Fc Wg C o w:=⟨by obtain⟨_,_,e,_⟩:=hc;rw[← hwg,e];exact⟨_,_,Zed hs⟩,(ho C hO).trans h0⟩
include hne
theorem fc_set{γ γ':Gm}{w:World}{i:Nat}{v:Value}(hs:Shr γ w)(ho:Zpl w)(h1:Shr γ' (w.setCell ⟨γ.wg,i,none⟩ v))(e:γ'.wg=γ.wg):Fc γ.wg C o (w.setCell ⟨γ.wg,i,none⟩ v):=
 ⟨by have h2:=h1;have:=Zed (γ:=γ') (w:=w.setCell ⟨γ.wg,i,none⟩ v) h2;rw[e]at this;exact⟨_,_,this⟩,by
  rw[heap_setCell_other _ _ C _ fun e=>?_]
  ·exact(ho C hO).trans h0
  ·have:=(ho C hO).trans h0
   rw[e]at this
   have h2:=hs.wg
   rw[show (⟨γ.wg,i,none⟩:Addr).block=γ.wg from rfl]at this
   rw[this]at h2
   exact hne _ _ _ (Z39 h2)⟩
theorem Zo0{q d:Nat}{g:Goroutine}(hd:d≠0)(h:QuitsD P q d g):g.status=.running:=by
  cases q with
  | zero=>exact absurd h.2 hd
  | succ q => rcases h with h|h
              · exact absurd h.2 hd
              · exact h.1
theorem tl_d4(hwg:t.wg=Wg){g:Goroutine}(hr:g.status=.running)(h28:t.st=28)(h:∀w,Fc Wg C o w→ConcN.AtD4 P Tasks.T Wg g w):Tl P g t:=by
 refine .shared (fun g' t'=>t'={ t with st:=25 }∧∃q,QuitsD P q 1 g') hr (by omega) (fun w γ hs hc ho=>?_) (fun g' t' ⟨e,q,hq⟩=>by subst e;exact .quit q rfl hq)
 obtain⟨_,hm,hx⟩:=h w (Zsd hO h0 hwg hs hc ho)
 obtain⟨e1,e2,e3,e4,e5⟩:=hc
 obtain rfl:Wg=γ.wg:=hwg.symm.trans e3
 simp only[Cm,h28]at e5
 have ha:=Zed hs
 rw[e5.1,e5.2.1,e5.2.2.1]at ha
 obtain⟨g',hst,q,hq⟩:=hx (by simpa using ha)
 obtain⟨s1,s2⟩:=Zim (γ':={ γ with sem:=1 }) (i:=1) hs rfl rfl rfl rfl (by simp only[e5.1,e5.2.1];simpa[ConcR.smA] using (show ConcR.WgAt Tasks.T γ.wg w 0 0 by simpa using ha).setSm 1)
 exact⟨g',_,_,_,_,hst,Zo0 hO h0 hne (by omega) hq,.wake h28,⟨fun _ _=>hm,fun a b=>by rw[a]at b;cases b⟩,s1,s2,rfl,q,hq⟩
theorem tl_d3(hwg:t.wg=Wg){g:Goroutine}(hr:g.status=.running)(h27:t.st=27)(h:∀w,Fc Wg C o w→ConcN.AtD3 P Tasks.T Wg C 0 0 1 g w):Tl P g t:=by
 refine .shared (fun g' t'=>t'={ t with st:=28 }∧∃w m,Fc Wg C o w∧Goes P false (ConcN.RW Tasks.T Wg C 0 0 0) ConcR.DC0 (ConcN.AtD4 P Tasks.T Wg) m g' w) hr (by omega) (fun w γ hs hc ho=>?_)
  (fun g' t' ⟨e,w,m,hf,hg⟩=>by subst e;exact Zgy (t:={ t with st:=28 }) hO h0 hwg (by show 28≠25;omega) (fun _ _ x=>x.1) (fun g hr hx=>tl_d4 (t:={ t with st:=28 }) hO h0 hne hwg hr rfl hx) m g' w hf hg)
 obtain⟨_,hx⟩:=h w (Zsd hO h0 hwg hs hc ho)
 obtain⟨e1,e2,e3,e4,e5⟩:=hc
 obtain rfl:Wg=γ.wg:=hwg.symm.trans e3
 simp only[Cm,h27]at e5
 have ha:=Zed hs
 rw[e5.1,e5.2.1,e5.2.2.1]at ha
 obtain⟨g',hst,m,hg⟩:=hx (by simpa using ha)
 have hb:=(show ConcR.WgAt Tasks.T γ.wg w 1 0 by simpa using ha).setSt 0
 obtain⟨s1,s2⟩:=Zim (γ':={ γ with wt:=0 }) (i:=0) hs rfl rfl rfl rfl (by simp only[e5.1,e5.2.2.1];simpa[ConcR.stA] using hb)
 have hfc':=fc_set hO h0 hne hs ho s1 rfl
 exact⟨g',_,_,_,_,hst,Goes.running (fun _ _ x=>x.1) _ (hfc'.rw hfc') hg,.reset h27,.refl,s1,s2,rfl,_,m,hfc',hg⟩
theorem tl_d2(hwg:t.wg=Wg){g:Goroutine}(hr:g.status=.running)(h27:t.st=27)(h:∀w,Fc Wg C o w→ConcN.AtD2 P Tasks.T Wg C 0 0 1 g w):Tl P g t:=by
 refine .shared (fun g' t'=>t'=t∧∃w m,Fc Wg C o w∧Goes P false (ConcN.RW Tasks.T Wg C 0 0 0) ConcR.DC0 (ConcN.AtD3 P Tasks.T Wg C 0 0 1) m g' w) hr (by omega) (fun w γ hs hc ho=>?_)
  (fun g' t' ⟨e,w,m,hf,hg⟩=>by subst e;exact Zgy hO h0 hwg (by omega) (fun _ _ x=>x.1) (fun g hr hx=>tl_d3 hO h0 hne hwg hr h27 hx) m g' w hf hg)
 have hfc:=Zsd hO h0 hwg hs hc ho
 obtain⟨_,hx⟩:=h w hfc
 obtain⟨e1,e2,e3,e4,e5⟩:=hc
 obtain rfl:Wg=γ.wg:=hwg.symm.trans e3
 simp only[Cm,h27]at e5
 have ha:=Zed hs
 rw[e5.1,e5.2.1,e5.2.2.1]at ha
 obtain⟨g',hst,m,hg⟩:=hx (by simpa using ha)
 exact⟨g',_,_,_,_,hst,Goes.running (fun _ _ x=>x.1) _ (hfc.rw hfc) hg,.look27 h27,.refl,hs,⟨rfl,rfl,rfl,rfl,fun _ _ _=>rfl⟩,rfl,_,m,hfc,hg⟩
theorem tl_d1(hwg:t.wg=Wg){g:Goroutine}(hr:g.status=.running)(h24:t.st=24)(h:∀w,Fc Wg C o w→ConcN.AtD1 P Tasks.T Wg C 0 0 1 g w):Tl P g t:=by
 refine .shared (fun g' t'=>(t'={ t with st:=25 }∧∃q,QuitsD P q 1 g')∨(t'={ t with st:=27 }∧∃w m,Fc Wg C o w∧Goes P false (ConcN.RW Tasks.T Wg C 0 0 0) ConcR.DC0 (ConcN.AtD2 P Tasks.T Wg C 0 0 1) m g' w)) hr (by omega) (fun w γ hs hc ho=>?_) (fun g' t' hk=>?_)
 ·have hfc:=Zsd hO h0 hwg hs hc ho
  obtain⟨_,hx⟩:=h w hfc
  obtain⟨e1,e2,e3,e4,e5⟩:=hc
  obtain rfl:Wg=γ.wg:=hwg.symm.trans e3
  simp only[Cm,h24]at e5
  obtain⟨f1,f2,f3,f4⟩:=e5
  have ha:=Zed hs
  rw[f3]at ha
  have ec:(γ.cnt:Int)=((γ.cnt-1:Nat):Int)+1:=by omega
  rw[ec]at ha
  obtain⟨g',hst,k1,k2⟩:=hx (γ.cnt-1) γ.wt f2 (by omega) (by simpa using ha)
  have hb:=(show ConcR.WgAt Tasks.T γ.wg w _ 0 by simpa using ha).setSt (((γ.cnt-1:Nat):Int)*ConcR.KK+(γ.wt:Nat))
  obtain⟨s1,s2⟩:=Zim (γ':={ γ with cnt:=γ.cnt-1 }) (i:=0) hs rfl rfl rfl rfl (by simp only[f3];simpa[ConcR.stA] using hb)
  by_cases hl:γ.cnt-1=0∧γ.wt=1
  ·obtain⟨m,hg⟩:=k1 hl
   have hfc':=fc_set hO h0 hne hs ho s1 rfl
   have ez:({ γ with cnt:=γ.cnt-1 }:Gm)={ γ with cnt:=0 }:=by rw[hl.1]
   refine⟨g',_,_,{ t with st:=27 },{ γ with cnt:=γ.cnt-1 },hst,Goes.running (fun _ _ x=>x.1) _ (hfc'.rw hfc') hg,?_,.refl,s1,s2,.inr ⟨rfl,_,m,hfc',hg⟩⟩
   rw[ez]
   exact .last h24 (by omega) hl.2
  ·obtain⟨q,hq⟩:=k2 hl
   exact⟨g',_,_,{ t with st:=25 },{ γ with cnt:=γ.cnt-1 },hst,Zo0 hO h0 hne (by omega) hq,.down h24 (by omega),.refl,s1,s2,.inl ⟨rfl,q,hq⟩⟩
 ·rcases hk with⟨e,q,hq⟩|⟨e,w,m,hf,hg⟩
  ·subst e;exact .quit q rfl hq
  ·subst e;exact Zgy (t:={ t with st:=27 }) hO h0 hwg (by show 27≠25;omega) (fun _ _ x=>x.1) (fun g hr hx=>tl_d2 (t:={ t with st:=27 }) hO h0 hne hwg hr rfl hx) m g' w hf hg
theorem tl_k1(hwg:t.wg=Wg){g:Goroutine}(hr:g.status=.running)(h23:t.st=23)(h:∀w,Fc Wg C o w→ConcN.AtK1 P Tasks.T Wg C 0 0 1 g w):Tl P g t:=by
 refine .shared (fun g' t'=>t'={ t with st:=24 }∧∃w m,Fc Wg C o w∧Goes P false (ConcN.RW Tasks.T Wg C 0 0 0) ConcR.DC0 (ConcN.AtD1 P Tasks.T Wg C 0 0 1) m g' w) hr (by omega) (fun w γ hs hc ho=>?_)
  (fun g' t' ⟨e,w,m,hf,hg⟩=>by subst e;exact Zgy (t:={ t with st:=24 }) hO h0 hwg (by show 24≠25;omega) (fun _ _ x=>x.1) (fun g hr hx=>tl_d1 (t:={ t with st:=24 }) hO h0 hne hwg hr rfl hx) m g' w hf hg)
 have hfc:=Zsd hO h0 hwg hs hc ho
 obtain⟨_,g',hst,m,hg⟩:=h w hfc
 exact⟨g',_,_,_,_,hst,Goes.running (fun _ _ x=>x.1) _ (hfc.rw hfc) hg,.dis23 h23,.refl,hs,⟨rfl,rfl,rfl,rfl,fun _ _ _=>rfl⟩,rfl,_,m,hfc,hg⟩
end
end
section
variable[Go.ConcR.Payload]{P:Program}{Wg C:Nat}{o:Obj}{v:Value}{t:Tk}{g g1:Goroutine}{L:Za}{Φ:Goroutine→Za→Prop}
abbrev PreS(P:Program)(Wg C:Nat)(v:Value)(m:Nat)(g:Goroutine)(w:World):Prop:=Goes P false (ConcN.RW Tasks.T Wg C 0 0 0) (ConcN.DWs Wg (fun _ _=>False) (fun _ _=>False) C 0 1) (ConcN.AtR0 P Tasks.T Wg C 0 0 1 v) m g w
def Zzk(P:Program)(Wg C:Nat)(o:Obj)(v:Value)(g:Goroutine):Prop:=∀w,Fc Wg C o w→∃m,PreS P Wg C v m g w
def NoG(P:Program)(Wg C:Nat)(o:Obj)(v:Value)(g:Goroutine):Prop:=∀w,Fc Wg C o w→∀m,¬ PreS P Wg C v m g w
theorem pre_at{w:World}(hf:Fc Wg C o w)(hst:stepG P false g w=.go g1 w #[]){m:Nat}(h:PreS P Wg C v m g w):∃m,PreS P Wg C v m g1 w:=by
 have no:¬ ConcN.AtR0 P Tasks.T Wg C 0 0 1 v g w:=fun⟨_,_,g',e,_⟩=>by rw[hst]at e;simp at e
 cases m with
 | zero=>exact absurd (h w (hf.rw hf)) no
 | succ m=>
  rcases h with h|⟨_,h⟩
  ·exact absurd (h w (hf.rw hf)) no
  ·have:=h w (hf.rw hf)
   rw[hst]at this
   exact⟨m,this.2⟩
theorem Zqk(hst:∀w,Fc Wg C o w→stepG P false g w=.go g1 w #[])(h:NoG P Wg C o v g1):NoG P Wg C o v g:=fun w hf m hm=>let ⟨m',h2⟩:=pre_at hf (hst w hf) hm;h w hf m' h2
theorem no_dis(hst:∀w,stepG P false g w=.go g1 w #[Wt .disable]):NoG P Wg C o v g:=fun w hf m hm=>by
 have no:¬ ConcN.AtR0 P Tasks.T Wg C 0 0 1 v g w:=fun⟨_,_,g',e,_⟩=>by rw[hst]at e;simp[Wt,ConcR.mk]at e
 cases m with
 | zero=>exact no (hm w (hf.rw hf))
 | succ m=>
  rcases hm with h|⟨_,h⟩
  ·exact no (h w (hf.rw hf))
  ·have:=h w (hf.rw hf)
   rw[hst]at this
   exact(this.1.2 (Wt .disable) (by simp)).2.1 rfl
structure At22(Wg C:Nat)(o:Obj)(t:Tk)(L:Za):Prop where
 st:t.st=22
 wg:t.wg=Wg
 at_:t.at_∈L.flatten
 blk:∃o',(C,o')∈L.flatten∧gho o'=false∧act o'=o
 old:Tasks.O C
 at0:Tasks.W0.heap[C]?=some o
 ne:∀a b c,o≠Un Tasks.T a b c
theorem At22.fc{k:Zaz}{w:World}{γ:Gm}(h:At22 Wg C o t L)(hs:Sat k w L)(hh:Shr γ w)(hc:Ziq t γ):Fc Wg C o w:=by
 obtain⟨o',h1,h2,h3⟩:=h.blk
 refine⟨?_,by rw[← h3];exact hs.has _ h1 h2⟩
 obtain⟨_,_,e,_⟩:=hc
 rw[← h.wg,e]
 exact⟨_,_,Zed hh⟩
theorem Zah(h:At22 Wg C o t L)(hr:g.status=.running)(hr1:g1.status=.running)(hst:∀w,Fc Wg C o w→stepG P false g w=.go g1 w #[])(n:Zzk P Wg C o v g1→Lo P false Φ g1 L):Zzk P Wg C o v g→Lo P false Φ g L:=fun hp=>
 .lib t (fun g' L'=>g'=g1∧L'=L) hr h.at_ (by rw[h.st];omega) (fun k w γ hs hh hc=>⟨g1,w,#[],L,hst w (h.fc hs hh hc),hr1,.refl _ _,Zkf,hs,rfl,rfl⟩)
  (fun g' L' ⟨e,e'⟩=>by subst e;subst e';exact n fun w hf=>let ⟨m,h2⟩:=hp w hf;pre_at hf (hst w hf) h2)
theorem lo_rel(h:At22 Wg C o t L)(hr:g.status=.running)(hr1:g1.status=.running)(hst:∀w,stepG P false g w=.go g1 w #[Wt (.releaseMerge (stA Wg))])(hno:NoG P Wg C o v g1):Zzk P Wg C o v g→Lo P false Φ g L:=fun hp=>by
 have key:∀w,Fc Wg C o w→∃m,Goes P false (ConcN.RW Tasks.T Wg C 0 0 0) ConcR.DC0 (ConcN.AtK1 P Tasks.T Wg C 0 0 1) m g1 w:=fun w hf=>by
  obtain⟨m,hm⟩:=hp w hf
  have yes:ConcN.AtR0 P Tasks.T Wg C 0 0 1 v g w→∃m,Goes P false (ConcN.RW Tasks.T Wg C 0 0 0) ConcR.DC0 (ConcN.AtK1 P Tasks.T Wg C 0 0 1) m g1 w:=fun⟨_,_,g',e,h2⟩=>by
   rw[hst]at e
   simp only[GStep.go.injEq]at e
   rw[e.1];exact h2
  cases m with
  | zero=>exact yes (hm w (hf.rw hf))
  | succ m=>
   rcases hm with hm|⟨_,hm⟩
   ·exact yes (hm w (hf.rw hf))
   ·have:=hm w (hf.rw hf)
    rw[hst]at this
    exact absurd this.2 (hno w hf m)
 refine .rel t (fun g'=>g'=g1∧∃w m,Fc Wg C o w∧Goes P false (ConcN.RW Tasks.T Wg C 0 0 0) ConcR.DC0 (ConcN.AtK1 P Tasks.T Wg C 0 0 1) m g1 w) hr h.st h.at_ (fun k w γ hs hh hc ho=>?_) (fun g' ⟨e,w,m,hf,hg⟩=>?_)
 ·have hf:=h.fc hs hh hc
  obtain⟨m,hg⟩:=key w hf
  exact⟨g1,by rw[hst,h.wg],hr1,rfl,w,m,hf,hg⟩
 ·subst e
  exact Zgy (t:={ t with st:=23 }) h.old h.at0 h.wg (by show 23≠25;omega) (fun _ _ x=>x.1) (fun g hr hx=>tl_k1 (t:={ t with st:=23 }) h.old h.at0 h.ne h.wg hr rfl hx) m g' w hf hg
section steps
variable{b:Frame}{a:Act}{k:List Item}{cs:List Frame}
theorem Zd6{ops:Array Oper}{i:Nat}{rest:List Nat}{o':Oper}{w:World}(u:Value)(ho:ops[i]?=some o')(hw:Region.wanted o' (yielded ops a.tmps)=true)(hk:b.kind≠.early)
  (hr:(execOp a.eval o').run P w=.ok (.value u) w)(he:(execOp a.eval o').events P w #[]=#[]):
  stepG P false (G (b.at a (.inRegion ops (i::rest)::k)) cs) w=.go (G (b.at (a.put o'.dst u) (.inRegion ops rest::k)) cs) w #[]:=by
 rw[stepG_value ho hw hk hr];unfold listed;rw[he,seen_none]
theorem lo_val(h:At22 Wg C o t L){ops:Array Oper}{i:Nat}{rest:List Nat}{o':Oper}(u:Value)(ho:ops[i]?=some o')(hw:Region.wanted o' (yielded ops a.tmps)=true)(hk:b.kind≠.early)
  (hr:∀w,Fc Wg C o w→(execOp a.eval o').run P w=.ok (.value u) w∧(execOp a.eval o').events P w #[]=#[])
  (n:Zzk P Wg C o v (G (b.at (a.put o'.dst u) (.inRegion ops rest::k)) cs)→Lo P false Φ (G (b.at (a.put o'.dst u) (.inRegion ops rest::k)) cs) L):
  Zzk P Wg C o v (G (b.at a (.inRegion ops (i::rest)::k)) cs)→Lo P false Φ (G (b.at a (.inRegion ops (i::rest)::k)) cs) L:=
 Zah h rfl rfl (fun w hf=>Zd6 u ho hw hk (hr w hf).1 (hr w hf).2) n
end steps
theorem add_neg{K:Lib.WgLink}(H:Lib.WgLib P K)(hT:Tasks.T=K.tWg){t:Tk}{E:Nat}{l:Array Value}{fr:Nat × Nat}(h:At22 Wg C (.cells l E fr) t L)(hl:l[0]?=some v){b₀:Frame}{a₀:Act}{ops₀:Array Oper}{i₀:Nat}{rest₀:List Nat}{k₀:List Item}{cs:List Frame}{qt:Nat}
  (hQ:QuitsD P qt 0 (G (b₀.at (a₀.put ((ops₀[i₀]?).bind (·.dst)) (.tuple #[])) (.inRegion ops₀ rest₀::k₀)) cs)):
  Lo P false Φ (G (Frame.enter P K.add #[.pointer (some ⟨Wg,0,none⟩),.int .i64 (-1)] .normal) (b₀.at a₀ (.inRegion ops₀ (i₀::rest₀)::k₀)::cs)) L:=by
 have hb:(Lib.addFn K).body=some (ConcR.Gen.body_add K):=by unfold ConcR.Gen.body_add;rw[Lib.addFn];rfl
 have hn:(Lib.addFn K).ntmps=117:=rfl
 rw[Z62 _ H.f_add hb,hn]
 simp only[Z31,Z2y,Z23,Nat.reduceAdd,Nat.reduceSub,Array.replicate_succ,Array.replicate_zero,List.push_toArray,List.append_toArray,Z2b,Z19]
 refine(?_:Zzk P Wg C (.cells l E fr) v _→_) ?_
 rotate_left
 ·intro w hf
  have:=@ConcN.Gen.addNegN _ K P H (fun _ _=>False) (fun _ _=>False) Wg C 0 0 1 v b₀ a₀ ops₀ i₀ rest₀ k₀ cs qt hQ w ⟨hT▸hf.live,by unfold ConcN.Has;simp only[World.cell?,hf.blk];simpa using hl⟩
  rw[← hT]at this
  exact⟨20,this⟩
 have hcell:∀w,Fc Wg C (.cells l E fr) w→∃x,w.cell? ⟨Wg,0,none⟩=some x:=fun w hf=>ConcN.Gen.WgLive.cell0 hf.live
 lib_facts
 simp only[ConcR.Gen.body_add,Lib.addFn,Z46]
 refine Zah h rfl rfl (fun w _=>stepG_seq) ?_
 refine Zah h rfl rfl (fun w _=>stepG_cond (t:=true) rfl) ?_
 simp only[Z4d]
 refine Zah h rfl rfl (fun w _=>stepG_seq) ?_
 refine Zah h rfl rfl (fun w _=>stepG_seq) ?_
 refine Zah h rfl rfl (fun w _=>Z63) ?_
 simp only[Z31,Z2y,Z23,Nat.reduceAdd,Z3o,List.range,List.range.loop]
 refine Zah h rfl rfl (fun w _=>Zd6 (.int .i64 (-1)) rfl rfl (by k_ne) (by go_simp) (by simp[go_sem, *])) ?_
 walk_nrm
 refine Zah h rfl rfl (fun w _=>Zd6 (.bool true) rfl rfl (by k_ne) (by go_simp) (by simp[go_sem, *])) ?_
 walk_nrm
 refine Zah h rfl rfl (fun w _=>Z6l) ?_
 refine Zah h rfl rfl (fun w _=>stepG_cond (t:=true) rfl) ?_
 simp only[Z4d]
 refine Zah h rfl rfl (fun w _=>Z63) ?_
 simp only[Z31,Z2y,Z23,Nat.reduceAdd,Z3o,List.range,List.range.loop]
 refine Zah h rfl rfl (fun w _=>Zd6 (.pointer (some ⟨Wg,0,none⟩)) rfl rfl (by k_ne) (by go_simp) (by simp[go_sem, *])) ?_
 walk_nrm
 refine lo_val h (.pointer (some ⟨Wg,0,none⟩)) rfl rfl (by k_ne) (fun w hf=>?_) ?_
 ·have hcv:=run_convert_to_unsafe (P:=P) H.underlying_tWgP H.underlying_tUP H.room_tWg (hcell w hf).choose_spec
  have hce:=fun es=>events_convert_to_unsafe (P:=P) H.underlying_tWgP H.underlying_tUP H.room_tWg (hcell w hf).choose_spec es
  exact⟨by go_simp,by simp[go_sem,hce]⟩
 walk_nrm
 refine lo_rel h rfl rfl (fun w=>stepG_markAt .releaseMerge (by simp) rfl rfl (by k_ne) rfl H.f_relMerge (ConcR.Gen.x_relMerge_n K) (ConcR.Gen.x_relMerge_b K) (ConcR.Gen.x_relMerge_x K) (ConcR.Gen.x_relMerge_f K) (by simp[Act.eval,stA])) ?_
 walk_nrm
 refine Zqk (fun w _=>Z6l) ?_
 refine Zqk (fun w _=>stepG_seq) ?_
 refine Zqk (fun w _=>Z63) ?_
 simp only[Z31,Z2y,Z23,Nat.reduceAdd,Z3o,List.range,List.range.loop]
 exact no_dis fun w=>stepG_mark0 .disable (by simp) rfl rfl (by k_ne) rfl H.f_disable (Z7h K) (Z7f K) (Z7i K) (Z7g K)
end
end Go.HL
namespace Go.HL
open Go Go.Proofs Go.Proofs.Tryz
variable[Tasks]
abbrev Zfb:Conc.Lib.WgLink:={ add:=207,done:=210,wait:=167,relMerge:=263,disable:=211,enable:=213,inBubble:=219,associate:=264,fatal:=265,uOr:=266,uAdd:=267,raceRead:=268,uLoad:=212,uStore:=269,disassociate:=217,semrelease:=270,acquire:=214,isAssociated:=215,uCas:=216,raceWrite:=218,semacquire:=220,orU64:=291,addU64:=292,loadU64:=271,storeU64:=293,casU64:=272,tWgP:=292,tUP:=270,tAssoc:=337,tWg:=240,tAU:=237,tU64:=235,tUint:=288,tU32:=238,tPU32:=298,tPAU:=343,tPU64:=345,tNoCopy:=232,tANoCopy:=233,tAlign64:=234 }
theorem wgLib:Conc.Lib.WgLib prog Zfb:=
 ⟨func207,func210,func167,func263,func211,func213,func219,func264,func265,func266,func267,func268,func212,func269,func217,func270,func214,func215,func216,func218,func220,func291,func292,func271,func293,func272, 
  underlying292,runUnderlying292,Tryz.sizeOf292,Tryz.isAgg292,zeroValue292,underlying270,runUnderlying270,Tryz.sizeOf270,Tryz.isAgg270,zeroValue270,underlying337,runUnderlying337,Tryz.sizeOf337,Tryz.isAgg337,zeroValue337,underlying240,runUnderlying240,Tryz.sizeOf240,Tryz.isAgg240,zeroValue240,underlying237,runUnderlying237,Tryz.sizeOf237,Tryz.isAgg237,zeroValue237,underlying235,runUnderlying235,Tryz.sizeOf235,Tryz.isAgg235,zeroValue235,underlying288,runUnderlying288,Tryz.sizeOf288,Tryz.isAgg288,zeroValue288,underlying238,runUnderlying238,Tryz.sizeOf238,Tryz.isAgg238,zeroValue238,underlying298,runUnderlying298,Tryz.sizeOf298,Tryz.isAgg298,zeroValue298,underlying343,runUnderlying343,Tryz.sizeOf343,Tryz.isAgg343,zeroValue343,underlying345,runUnderlying345,Tryz.sizeOf345,Tryz.isAgg345,zeroValue345,underlying0,runUnderlying0,Tryz.sizeOf0,Tryz.isAgg0,zeroValue0,underlying3,runUnderlying3,Tryz.sizeOf3,Tryz.isAgg3,zeroValue3,underlying4,runUnderlying4,Tryz.sizeOf4,Tryz.isAgg4,zeroValue4,underlying9,runUnderlying9,Tryz.sizeOf9,Tryz.isAgg9,zeroValue9,underlying20,runUnderlying20,Tryz.sizeOf20,Tryz.isAgg20,zeroValue20,underlying21,runUnderlying21,Tryz.sizeOf21,Tryz.isAgg21,zeroValue21,
  by kernel_rfl,by kernel_rfl⟩
end Go.HL
