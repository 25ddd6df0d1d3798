/- Texts laid into one, without what the claim does not use. Conditions: none. -/
import Derived.Test.YtkookaogdkdegacGreatDoorSPD
import Derived.Lib.Overlaps
import Derived.DeepKeys3
set_option linter.unusedVariables false
set_option linter.unusedSimpArgs false
set_option linter.unusedSectionVars false
set_option maxHeartbeats 4000000
set_option maxRecDepth 100000
namespace Go.HL
open Go Go.Proofs Go.Proofs.Tryz
variable[Tasks]
structure Evt where
 site:Int
 deal:Int
 ph:Int
deriving DecidableEq
def ec(e:Evt):List Value:=[iv e.site,iv e.deal,iv e.ph]
theorem Vt(e:Evt):(ec e).length=3:=rfl
theorem Zpz(e:Evt):(ec e).all Value.oneCell'=true:=rfl
theorem Z0z{E sz b:Nat}:Own E sz (sl b 0 0 0) 0 [] [(b,.cells ⟨[]⟩ E)]:=.inr ⟨b,0,[],rfl,rfl,by simp,by omega,by simp⟩
theorem Zpf{α:Type}{E sz b:Nat}{enc:α→List Value}:Vec E sz enc (sl b 0 0 0) [] [(b,.cells ⟨[]⟩ E)]:=Z0z
attribute [local irreducible] HW HO HQ HD HC QOp Has Upd Yi Gets Vv W6 Xn Zaf Wa Yz Zcl Xy
theorem Zpr(v:Value)(xs:List Evt)(c:List Zp)(L:Za)(hv:Vec 81 3 ec v xs c)(hl:xs.length≤100000000):HC prog 78 [v] (c::L)
  (fun u L'=>∃c',Vec 81 3 ec u xs c'∧L'=c'::c::L):=by
 have hv0:=hv
 obtain⟨a,cap,rfl,hcap,hR⟩:=hv.rd Vt
 rcases hv with⟨he,h0,h1,rfl⟩|⟨b,cap2,sp,he,rfl,hcs,hle,hall⟩
 ·obtain rfl:xs=[]:=Z3v (by assumption)
  obtain⟨rfl,-,rfl⟩:=Z4q he
  simp only[Z23]at hv0 ⊢
  refine uE func78 ntmps78 ?_
  repeat' (first|refine uN ?_|(refine uB ?_;intro b)|(refine uP ?_ ?_<;>intro h<;>try exact zx)|fail)
  exact Z3 (L':=[]::[]::L) (LS.of_eq rfl) ⟨[],Zt,rfl⟩
 ·have hpos:b=b:=rfl
  obtain⟨rfl,-,rfl⟩:=Z4q he
  refine uE func78 ntmps78 ?_
  repeat' (first|refine uN ?_|(refine uB ?_;intro b)|(refine uP ?_ ?_<;>intro h<;>try exact zx)|fail)
  refine o_build0 S rfl rfl rfl (fun nb=>?_)
  repeat' (first|refine uN ?_|(refine uB ?_;intro b)|(refine uP ?_ ?_<;>intro h<;>try exact zx)|fail)
  refine Z1z S (ys:=xs) Zpf (Rd.cons (hR L) _) Vt Zpz ?_ (hby:=by simp only[Z23];omega) (hmax:=by simp only[Z23];omega)
  intro v' c' hv'
  repeat' (first|refine uN ?_|(refine uB ?_;intro b)|(refine uP ?_ ?_<;>intro h<;>try exact zx)|fail)
  exact Z3 (LS.refl _) ⟨c',by simpa using hv',rfl⟩
theorem Zvf(a:Addr)(cap:Nat)(xs:List Int)(L:Za)(hR:Rd ic 1 L (some a) xs)(hl:xs.length≤100000000):HC prog 63 [.slice (some a) xs.length cap] L
  (fun u L'=>∃c',Vec 3 1 ic u xs c'∧L'=c'::L):=by
 refine uE func63 ntmps63 ?_
 repeat' (first|refine uN ?_|(refine uB ?_;intro b)|(refine uP ?_ ?_<;>intro h<;>try exact zx)|fail)
 refine Z1z S (ys:=xs) Zpf (hR.cons _) X0 Zh1 ?_ (hby:=by simp only[Z23];omega) (hmax:=by simp only[Z23];omega)
 intro v' c' hv'
 repeat' (first|refine uN ?_|(refine uB ?_;intro b)|(refine uP ?_ ?_<;>intro h<;>try exact zx)|fail)
 exact Z3 (LS.refl _) ⟨c',by simpa using hv',rfl⟩
def fzero:List Value:=[iv 0,iv 0,iv 0,iv 0,iv 0,.bool false,iv 0,iv 0,iv 0]
theorem Zsg{α:Type}{enc:α→List Value}{sz:Nat}(hsz:∀x,(enc x).length=sz)(xs:List α)(sp:List Value)(i:Nat)(h:i≤xs.length):((xs.map enc).flatten++sp).take (i*sz)=((xs.take i).map enc).flatten:=by
 have e:(xs.map enc).flatten=((xs.take i).map enc).flatten++((xs.drop i).map enc).flatten:=by rw[← Z2l,← Z20,Z35]
 rw[e,Z18]
 exact take_left (by rw[Yn hsz,Z3g,Z41 h])
theorem Zhz{b i cap l sz:Nat}(h:l<cap):cut (some ⟨b,i,none⟩) cap l sz=some ⟨b,i+l*sz,none⟩:=by
 unfold cut
 rw[Z16 (by omega)]
 simp[Vp]
theorem Zgr(v:Value)(xs:List Fr)(c:List Zp)(i j:Int)(L:Za)(hv:Z0 v xs c)(hl:xs.length≤100000000)(h0:0≤i)(h1:i<xs.length)(hj:j=i+1):HC prog 73 [v,iv i,iv j] (c::L)
  (fun u L'=>∃c',Z0 u (xs.eraseIdx i.toNat) c'∧L'=c'::L):=by
 subst hj
 obtain⟨a,cap,rfl,hcap,hR⟩:=hv.rd Zi
 rcases hv with⟨he,he0,-,rfl⟩|⟨b,cap2,sp,he,rfl,hcs,hle,hall⟩
 ·omega
 obtain⟨rfl,-,rfl⟩:=Z4q he
 have hsrc:=fun M=>Zii (enc:=fc) (sz:=9) Zi (cap:=cap-(i+1).toNat) ((hR M).drop (l:=(i+1).toNat) hcap)
 rw[Z3l]at hsrc
 have hone:=Zco (enc:=fc) W8 (xs.drop (i+1).toNat)
 have hcut:=Zsg Zi xs sp i.toNat (by omega)
 have hlen:((xs.map fc).flatten++sp).length=cap*9:=hall
 generalize hm:xs.length-(i+1).toNat=m at hsrc
 have hm2:i.toNat+m+1=xs.length:=by omega
 have hnl:(((xs.drop (i+1).toNat).map fc).flatten).length=m*9:=by rw[Yn Zi,Z3l,hm]
 have hE:((xs.take i.toNat).map fc).flatten++((xs.drop (i+1).toNat).map fc).flatten=((xs.eraseIdx i.toNat).map fc).flatten:=by
  rw[List.eraseIdx_eq_take_drop_succ,Z20,Z2l]
  congr 4
  omega
 have hel:(xs.eraseIdx i.toNat).length=i.toNat+m:=by rw[Z4b];split<;>omega
 refine uE func73 ntmps73 ?_
 repeat' (first|refine uN ?_|(refine uP ?_ ?_<;>intro h<;>try exact zx)|refine uG ?_|fail)
 refine X7 (qS3 S) ?_
 repeat' (first|refine uN ?_|(refine uP ?_ ?_<;>intro h<;>try exact zx)|refine uG ?_|fail)
 have e1:xs.length-(i+1).toNat=m:=hm
 rw[e1]
 refine Zwf S rfl rfl rfl rfl rfl (hsrc L) hone (by omega) hlen ?_
 rw[hcut,hE]
 generalize hsp:List.drop (i.toNat*9+(((xs.drop (i+1).toNat).map fc).flatten).length) ((xs.map fc).flatten++sp)=spa
 have hsl:spa.length=(cap-(i.toNat+m))*9:=by rw[← hsp,Z3l,hlen,hnl];omega
 repeat' (first|refine uN ?_|(refine uP ?_ ?_<;>intro h<;>try exact zx)|refine uG ?_|fail)
 have e2:cut (some ⟨b,0,none⟩) cap (((i.toNat+m:Nat):Int)).toNat 9=some ⟨b,(i.toNat+m)*9,none⟩:=by rw[Z2w];simpa using Zhz (b:=b) (i:=0) (cap:=cap) (l:=i.toNat+m) (sz:=9) (by omega)
 have e3:((xs.length:Nat):Int).toNat-(((i.toNat+m:Nat):Int)).toNat=1:=by omega
 have hfl:((xs.eraseIdx i.toNat).map fc).flatten.length=(i.toNat+m)*9:=by rw[Yn Zi,hel]
 have hfit:(i.toNat+m)*9+1*fzero.length≤(((xs.eraseIdx i.toNat).map fc).flatten++spa).length:=by
  rw[Z2i,hfl,hsl]
  show _+1*9≤_
  omega
 refine o_clear S (b:=b) (i:=(i.toNat+m)*9) (m:=1) (cap:=cap-(((i.toNat+m:Nat):Int)).toNat) (zs:=fzero) ?_ rfl rfl rfl rfl hfit Xx ?_
 ·show some (Value.slice (cut _ _ _ 9) _ _)=_
  rw[e2,e3]
 have e4:(((xs.eraseIdx i.toNat).map fc).flatten++spa).take ((i.toNat+m)*9)=((xs.eraseIdx i.toNat).map fc).flatten:=take_left hfl
 rw[e4]
 generalize hsp2:List.drop ((i.toNat+m)*9+1*fzero.length) (((xs.eraseIdx i.toNat).map fc).flatten++spa)=spb
 have hs2:spb.length+9=(cap-(i.toNat+m))*9:=by
  rw[← hsp2,Z3l,Z2i,hfl,hsl]
  show _-(_+1*9)+9=_
  omega
 repeat' (first|refine uN ?_|(refine uP ?_ ?_<;>intro h<;>try exact zx)|refine uG ?_|fail)
 have hfz:((List.replicate 1 fzero).flatten).length=9:=rfl
 refine Z3 (LS.refl _) ⟨_,.inr ⟨b,cap,(List.replicate 1 fzero).flatten++spb,by rw[hel],by rw[Z18],by rw[hfl,hel],by omega,?_⟩,rfl⟩
 rw[Z2i,Z2i,hfl,hfz]
 omega
theorem Zwt{ρ:Z9}{L:Za}{d:Option Tmp}{g:Option (Nat × Bool)}{ty:TypeId}{pos:String}{af:Array Edge}{x y:Operand}{la ca lb cb a b i:Nat}{l l2:List Value}{ts:Array TypeId}(hx:ev ρ x=some (sl a 0 la ca))(hy:ev ρ y=some (sl b i lb cb))(ha:Has L a (.cells ⟨l⟩ 131 (0,0)))(hb:Has L b (.cells ⟨l2⟩ 131 (0,0)))(hne:a≠b)(hl2:l2.length≠0):
  QOp prog ⟨d,.call { callee:=.value (.func 199),args:=#[x,y],argTypes:=ts },ty,pos,af,g⟩ ρ L (.bool false):=
 q_rd func199 (by kernel_rfl) (by kernel_rfl) (by kernel_rfl) (E:=Extern.SlicesOverlaps.overlaps #[34,34] #[4]) (by kernel_rfl) (fun k w hs=>by
  have h1:=hs.heap ha
  have h2:=hs.heap hb
  exact Lib.run_overlaps_apart w 34 4 131 (Z7 (S.tyI (t:=34) rfl) rfl) 9 (fun w=>X9 (S.tyI (t:=131) rfl) w) ⟨a,0,none⟩ ⟨b,i,none⟩ la ca lb cb hne 131 131 l.length l2.length (by simp[World.shape?,h1]) (by simp[World.shape?,h2]) hl2 (frozen_of_row w a _ ⟨l⟩ _ h1) (frozen_of_row w a _ ⟨l⟩ _ h1)) (fun N=>by
  have hA:InB L a:=by unfold Has at ha;exact⟨_,ha,rfl⟩
  have hB:InB L b:=by unfold Has at hb;exact⟨_,hb,rfl⟩
  show Plo _ _ _ _ (underlying 34 >>= fun _=>_)
  refine Zf (Z7 (S.tyI (t:=34) rfl) rfl) ?_
  unfold Go.noView
  repeat' first|(with_reducible first|exact Zb9 hA|exact Zb9 hB|exact Zes hA|exact Zes hB|exact Zjc hA hB)|(with_reducible first|assumption|exact Vf _|exact Wy _|exact Xe _|exact Vz _|exact Yq|exact Zg _|exact Yd _|exact Yf _|exact Z4 _|exact X5 _|exact Ve _ _|exact Y0 _ _|exact Ye _ _|exact Xl _|exact Xc _ _|exact Xd _ _|exact Xb rfl|exact Yx _|exact Y8 _|exact Zs _|exact Xi _|exact Z2 _ _ _ _|exact Yp _|exact Xv _|exact Xa _|exact Y2 _|exact Wi _|exact Xk _|exact Wn _ _ _|exact Xr _|refine Plo.bind ?_ (fun _=>?_)|refine Plo.ite ?_ ?_)|split|dsimp only) (by simp only[evs,hx,hy])
theorem Zzf{xs:List Fr}{e:Fr}{b cap k:Nat}{R:List Value}(hk:k≤xs.length)(hc:xs.length+1≤cap)(hR:R.length+(xs.length+1)*9=cap*9):
  Z0 (sl b 0 (xs.length+1) cap) (xs.take k++e::xs.drop k) [(b,.cells ⟨((xs.take k).map fc).flatten++fc e++((xs.drop k).map fc).flatten++R⟩ 131)]:=by
 have hl:(xs.take k++e::xs.drop k).length=xs.length+1:=by simp;omega
 have hf:(((xs.take k++e::xs.drop k).map fc).flatten)=((xs.take k).map fc).flatten++fc e++((xs.drop k).map fc).flatten:=by simp[Z18]
 refine .inr ⟨b,cap,R,by rw[hl],by rw[hf],by rw[Yn Zi],by omega,?_⟩
 rw[Z2i,Yn Zi,hl]
 omega
theorem Zp8(v:Value)(xs:List Fr)(c:List Zp)(i:Int)(e:Fr)(eb:Nat)(L:Za)(hv:Z0 v xs c)(hl:xs.length≤100000000)(h0:1≤i)(h1:i≤xs.length)(hne:∀b o,(b,o)∈c→eb≠b):HC prog 152 [v,iv i,sl eb 0 1 1] (c::[(eb,.cells ⟨fc e⟩ 131)]::L)
  (fun u L'=>∃c',Z0 u (xs.take i.toNat++e::xs.drop i.toNat) c'∧L'=c'::[(eb,.cells ⟨fc e⟩ 131)]::L):=by
 have hv0:=hv
 obtain⟨a,cap,rfl,hcap,hR⟩:=hv.rd Zi
 rcases hv with⟨he,he0,-,rfl⟩|⟨b,cap2,sp,he,rfl,hcs,hle,hall⟩
 ·omega
 obtain⟨rfl,-,rfl⟩:=Z4q he
 have hlen:((xs.map fc).flatten++sp).length=cap*9:=hall
 by_cases hin:i=xs.length
 ·have e9:xs.take i.toNat++e::xs.drop i.toNat=xs++[e]:=by
   rw[Z3d (by omega),Z5s (by omega)]
  rw[e9]
  refine uE func152 ntmps152 ?_
  repeat' (first|refine uN ?_|(refine uP ?_ ?_<;>intro h<;>try exact zx)|refine uG ?_|fail)
  refine Zfc S e hv0 Zi W8 ?_
  intro v' c' hv'
  repeat' (first|refine uN ?_|(refine uP ?_ ?_<;>intro h<;>try exact zx)|refine uG ?_|fail)
  exact Z3 (LS.refl _) ⟨c',hv',rfl⟩
 ·have hne':eb≠b:=hne b _ (Z6c)
  have hk:i.toNat<xs.length:=by omega
  generalize hkk:i.toNat=k at hk ⊢
  have hik:i=k:=by omega
  subst hik
  have hA:=Zsg Zi xs sp k (by omega)
  have hAl:((xs.take k).map fc).flatten.length=k*9:=by rw[Yn Zi,Z3g,Z41 (by omega)]
  have hFl:((xs.drop k).map fc).flatten.length=(xs.length-k)*9:=by rw[Yn Zi,Z3l]
  have hfe:(fc e).length=9:=rfl
  have hsplit:(xs.map fc).flatten++sp=((xs.take k).map fc).flatten++((xs.drop k).map fc).flatten++sp:=by rw[← Z2l,← Z20,Z35]
  have hF1:=Zco (enc:=fc) W8 (xs.drop k)
  have hg:Gets ((xs.map fc).flatten++sp) (k*9) ((xs.drop k).map fc).flatten:=by
   rw[hsplit,← hAl]
   exact Zvr _ _ _
  by_cases hroom:xs.length+1≤cap
  ·have c1:cut (some ⟨b,0,none⟩) cap (((k:Nat):Int)+((1:Nat):Int)).toNat 9=some ⟨b,(k+1)*9,none⟩:=by
    rw[show (((k:Nat):Int)+((1:Nat):Int)).toNat=k+1 by omega];simpa using Zhz (b:=b) (i:=0) (cap:=cap) (l:=k+1) (sz:=9) (by omega)
   have c2:cut (some ⟨b,0,none⟩) cap (((k:Nat):Int)).toNat 9=some ⟨b,k*9,none⟩:=by
    rw[Z2w];simpa using Zhz (b:=b) (i:=0) (cap:=cap) (l:=k) (sz:=9) (by omega)
   refine uE func152 ntmps152 ?_
   repeat' (first|refine uN ?_|(refine uP ?_ ?_<;>intro h<;>try exact zx)|refine uG ?_|fail)
   refine X7 (qCap S) ?_
   repeat' (first|refine uN ?_|(refine uP ?_ ?_<;>intro h<;>try exact zx)|refine uG ?_|fail)
   refine X7 (Zwt rfl (y:=.tmp 66) (b:=b) (i:=(k+1)*9) (lb:=((xs.length:Int)+((1:Nat):Int)).toNat-(((k:Nat):Int)+((1:Nat):Int)).toNat) (cb:=cap-(((k:Nat):Int)+((1:Nat):Int)).toNat) ?_ (Zb Zk) Zk hne' ?_) ?_
   ·show some (Value.slice (cut _ _ _ 9) _ _)=_
    rw[c1]
   ·rw[hlen];omega
   repeat' (first|refine uN ?_|(refine uP ?_ ?_<;>intro h<;>try exact zx)|refine uG ?_|fail)
   refine Zkg S (b:=b) (i:=(k+1)*9) (len:=((xs.length:Int)+((1:Nat):Int)).toNat-(((k:Nat):Int)+((1:Nat):Int)).toNat) (cap:=cap-(((k:Nat):Int)+((1:Nat):Int)).toNat) (a:=some ⟨b,k*9,none⟩) (ns:=((xs.length:Int)+((1:Nat):Int)).toNat-(((k:Nat):Int)).toNat) (cap2:=cap-(((k:Nat):Int)).toNat) (k0:=xs.length-k) (new:=((xs.drop k).map fc).flatten) ?_ ?_ rfl rfl rfl ?_ hFl hF1 (.inr ⟨b,k*9,_,_,_,rfl,Zk,hg⟩) ?_ Xx ?_
   ·show some (Value.slice (cut _ _ _ 9) _ _)=_
    rw[c1]
   ·show some (Value.slice (cut _ _ _ 9) _ _)=_
    rw[c2]
   ·show (xs.length-k:Nat)=min _ _;omega
   ·rw[hFl,hlen];omega
   repeat' (first|refine uN ?_|(refine uP ?_ ?_<;>intro h<;>try exact zx)|refine uG ?_|fail)
   have hT:((xs.map fc).flatten++sp).take ((k+1)*9)=((xs.take k).map fc).flatten++(((xs.map fc).flatten++sp).drop (k*9)).take 9:=by
    rw[← hA,show (k+1)*9=k*9+9 by omega,List.take_add]
   generalize hR2:((xs.map fc).flatten++sp).drop ((k+1)*9+((xs.drop k).map fc).flatten.length)=R2
   have hR2l:R2.length+(xs.length+1)*9=cap*9:=by rw[← hR2,Z3l,hlen,hFl];omega
   generalize hB9:(((xs.map fc).flatten++sp).drop (k*9)).take 9=B9 at hT
   have hB9l:B9.length=9:=by rw[← hB9,Z3g,Z3l,hlen];omega
   rw[hT]
   refine Zkg S (b:=b) (i:=k*9) (len:=((xs.length:Int)+((1:Nat):Int)).toNat-(((k:Nat):Int)).toNat) (cap:=cap-(((k:Nat):Int)).toNat) (a:=some ⟨eb,0,none⟩) (ns:=1) (cap2:=1) (k0:=1) (new:=fc e) ?_ rfl rfl rfl rfl ?_ rfl rfl (.inr ⟨eb,0,_,_,_,rfl,Zb Zk,Ym _⟩) ?_ Xx ?_
   ·show some (Value.slice (cut _ _ _ 9) _ _)=_
    rw[c2]
   ·show (1:Nat)=min _ _;omega
   ·simp only[Z2i,hAl,hB9l,hFl,hfe];omega
   have hfin:(((xs.take k).map fc).flatten++B9++((xs.drop k).map fc).flatten++R2).take (k*9)++fc e++(((xs.take k).map fc).flatten++B9++((xs.drop k).map fc).flatten++R2).drop (k*9+(fc e).length)=((xs.take k).map fc).flatten++fc e++((xs.drop k).map fc).flatten++R2:=by
    simp only[Z18]
    rw[take_left hAl,hfe,← hAl,← Z47,Z7j,← hB9l,Z7j]
   rw[hfin]
   repeat' (first|refine uN ?_|(refine uP ?_ ?_<;>intro h<;>try exact zx)|refine uG ?_|fail)
   have hn1:((xs.length:Int)+((1:Nat):Int)).toNat=xs.length+1:=by omega
   rw[hn1]
   exact Z3 (LS.refl _) ⟨_,Zzf (by omega) hroom hR2l,rfl⟩
  ·refine uE func152 ntmps152 ?_
   repeat' (first|refine uN ?_|(refine uP ?_ ?_<;>intro h<;>try exact zx)|refine uG ?_|fail)
   refine X7 (qCap S) ?_
   repeat' (first|refine uN ?_|(refine uP ?_ ?_<;>intro h<;>try exact zx)|refine uG ?_|fail)
   refine Zwg S (m:=xs.length+1-k) (zs:=fzero) (l:=(xs.map fc).flatten++sp) rfl ?_ rfl rfl rfl rfl rfl rfl rfl rfl rfl Zk ?_ ?_ ?_ ?_ ?_
   ·show some (Value.int .i64 _)=some (Value.int .i64 _)
    congr 2
    omega
   ·rw[hlen];show (((k:Nat):Int)).toNat*9≤_;omega
   ·show _<(((k:Nat):Int)).toNat+_;omega
   ·show ((((k:Nat):Int)).toNat+_)*72≤_;omega
   ·show (((k:Nat):Int)).toNat+_≤_;omega
   intro nb cap' hcap'
   repeat' (first|refine uN ?_|(refine uP ?_ ?_<;>intro h<;>try exact zx)|refine uG ?_|fail)
   have d1:cut (some ⟨nb,0,none⟩) cap' (((k:Nat):Int)).toNat 9=some ⟨nb,k*9,none⟩:=by
    rw[Z2w];simpa using Zhz (b:=nb) (i:=0) (cap:=cap') (l:=k) (sz:=9) (by omega)
   have d2:cut (some ⟨nb,0,none⟩) cap' (((k:Nat):Int)+((1:Nat):Int)).toNat 9=some ⟨nb,(k+1)*9,none⟩:=by
    rw[show (((k:Nat):Int)+((1:Nat):Int)).toNat=k+1 by omega];simpa using Zhz (b:=nb) (i:=0) (cap:=cap') (l:=k+1) (sz:=9) (by omega)
   have c2:cut (some ⟨b,0,none⟩) cap (((k:Nat):Int)).toNat 9=some ⟨b,k*9,none⟩:=by
    rw[Z2w];simpa using Zhz (b:=b) (i:=0) (cap:=cap) (l:=k) (sz:=9) (by omega)
   have hA':((xs.map fc).flatten++sp).take ((((k:Nat):Int)).toNat*9)=((xs.take k).map fc).flatten:=hA
   rw[hA']
   have hZl:((List.replicate (cap'-(((k:Nat):Int)).toNat) fzero).flatten).length=(cap'-k)*9:=by
    rw[Z2w]
    simp[Z7l,Z5p,Z61,fzero]
   generalize (List.replicate (cap'-(((k:Nat):Int)).toNat) fzero).flatten=Z at hZl
   refine Zkg S (b:=nb) (i:=k*9) (len:=(((k:Nat):Int)).toNat+(xs.length+1-k)-(((k:Nat):Int)).toNat) (cap:=cap'-(((k:Nat):Int)).toNat) (a:=some ⟨eb,0,none⟩) (ns:=1) (cap2:=1) (k0:=1) (new:=fc e) ?_ rfl rfl rfl rfl ?_ rfl rfl (.inr ⟨eb,0,_,_,_,rfl,Zb (Zb Zk),Ym _⟩) ?_ Xx ?_
   ·show some (Value.slice (cut _ _ _ 9) _ _)=_
    rw[d1]
   ·show (1:Nat)=min _ _;omega
   ·simp only[Z2i,hAl,hZl,hfe];omega
   rw[take_left hAl]
   have hz1:(((xs.take k).map fc).flatten++Z).drop (k*9+(fc e).length)=Z.drop 9:=by
    rw[hfe,← hAl,← Z47,Z7j]
   rw[hz1]
   have hZ1:(Z.drop 9).length+(k+1)*9=cap'*9:=by rw[Z3l,hZl];omega
   generalize Z.drop 9=Z1 at hZ1
   repeat' (first|refine uN ?_|(refine uP ?_ ?_<;>intro h<;>try exact zx)|refine uG ?_|fail)
   refine Zkg S (b:=nb) (i:=(k+1)*9) (len:=(((k:Nat):Int)).toNat+(xs.length+1-k)-(((k:Nat):Int)+((1:Nat):Int)).toNat) (cap:=cap'-(((k:Nat):Int)+((1:Nat):Int)).toNat) (a:=some ⟨b,k*9,none⟩) (ns:=xs.length-(((k:Nat):Int)).toNat) (cap2:=cap-(((k:Nat):Int)).toNat) (k0:=xs.length-k) (new:=((xs.drop k).map fc).flatten) ?_ ?_ rfl rfl rfl ?_ hFl hF1 (.inr ⟨b,k*9,_,_,_,rfl,Zb Zk,hg⟩) ?_ Xx ?_
   ·show some (Value.slice (cut _ _ _ 9) _ _)=_
    rw[d2]
   ·show some (Value.slice (cut _ _ _ 9) _ _)=_
    rw[c2]
   ·show (xs.length-k:Nat)=min _ _;omega
   ·simp only[Z2i,hAl,hfe,hFl];omega
   have hAe:(((xs.take k).map fc).flatten++fc e).length=(k+1)*9:=by rw[Z2i,hAl,hfe];omega
   rw[take_left hAe]
   generalize hR2:(((xs.take k).map fc).flatten++fc e++Z1).drop ((k+1)*9+((xs.drop k).map fc).flatten.length)=R2
   have hR2l:R2.length+(xs.length+1)*9=cap'*9:=by rw[← hR2,Z3l,Z2i,hAe,hFl];omega
   repeat' (first|refine uN ?_|(refine uP ?_ ?_<;>intro h<;>try exact zx)|refine uG ?_|fail)
   have hn1:(((k:Nat):Int)).toNat+(xs.length+1-k)=xs.length+1:=by omega
   rw[hn1]
   exact Z3 (LS.p0 (LS.c (LS.refl _))) ⟨_,Zzf (by omega) (by omega) hR2l,rfl⟩
end Go.HL
namespace Go.HL
open Go Go.Proofs Go.Proofs.Tryz
variable[Tasks]
def pk(p:Int × Int):Value:=.agg ⟨[iv p.1,iv p.2]⟩
theorem fl_pair:Qk prog 8 133=some [2,2]:=by kernel_rfl
theorem Zsu:Zh2 prog 133=true:=by kernel_rfl
theorem Zqn:prog.plainKey 3=true:=by kernel_rfl
theorem Zll:KeyOk (α:=Int × Int) prog 133 pk:=by
 have hu:prog.underlying 133=some (.array 2 3):=by kernel_rfl
 have hi:=Zdc (S.tyI (t:=3) rfl) rfl
 have hz:∀w,(Go.sizeOf 3).run prog w=.ok 1 w:=fun w=>X9 (S.tyI (t:=3) rfl) w
 have heq:∀(w:World) (a b:Int × Int),(Op.equal 133 (pk a) (pk b)).run prog w=.ok (decide (a=b)) w:=fun w a b=>by
  have:=Zsa 8 9992 133 [2,2] [iv a.1,iv a.2] [iv b.1,iv b.2] (pk a) (pk b) (decide (a=b)) w fl_pair (.inl ⟨Zsu,rfl⟩) (.inl ⟨Zsu,rfl⟩) (by
   obtain⟨a1,a2⟩:=a
   obtain⟨b1,b2⟩:=b
   simp[Zcs,iv,Zsy,Z3m])
  exact this
 refine⟨fun em w a=>?_,fun w a es l hE=>?_,fun w a=>?_,fun em a B W N=>?_,fun a y B W N=>?_⟩
 ·have hp:∀i,i<2→∃v,(part 3 ⟨[iv a.1,iv a.2]⟩ i).run prog w=.ok (iv v) w:=fun i h=>by
   match i,h with
   | 0,_=>exact⟨a.1,run_part_plain w Zqn rfl⟩
   | 1,_=>exact⟨a.2,run_part_plain w Zqn rfl⟩
  have hc:∀v:Int,(Instr.checkKey em 9999 3 (iv v)).run prog w=.ok () w:=fun v=>MapKept.run_checkKey hi (by simp only[MapKept.IsKey,iv];rfl) em 9998
  obtain⟨v0,h0⟩:=hp 0 (by omega)
  obtain⟨v1,h1⟩:=hp 1 (by omega)
  show (Instr.checkKey em (9999+1) _ _).run _ w=_
  rw[Instr.checkKey]
  simp only[pk,Z3q,Z2k hu,Z3b]
  simp only[Z7b,Std.Legacy.Range.size,Nat.sub_zero,Nat.add_one_sub_one,Nat.div_one]
  simp only[List.range',List.forIn_cons,List.forIn_nil,Z3q,hz,Z3b,Nat.zero_mul,Z3o,Z59,Z5t,h0,h1,hc,Z37]
 ·rw [run_findKey_eq w (by rw[hu]) (pk a) es]
  have key:∀(es:List MapEntry) (l:List ((Int × Int) × Bool)) (i:Nat),Ze4 pk es l→(Instr.findAsking 133 (pk a) es i).run prog w=.ok (Qj a l i) w:=by
   intro es
   induction es with
   | nil=>
    intro l i h
    cases l with
    | nil=>simp[Instr.findAsking,Qj]
    | cons p r=>simp[Ze4]at h
   | cons e es ih=>
    intro l i h
    cases l with
    | nil=>simp[Ze4]at h
    | cons p r=>
     obtain⟨x,b⟩:=p
     simp only[Ze4,Z2s,Z56,Z3m]at h
     obtain⟨⟨h1,h2⟩,h3⟩:=h
     simp only[Instr.findAsking,h1,Z3q,heq,Z3b,Qj]
     by_cases hax:a=x
     ·subst hax;simp[h2]
     ·simp[hax,ih r (i+1) h3]
  exact key es l 0 hE
 ·have hs:Instr.sameBits 10000 (pk a) (pk a)=true:=by
   show Instr.sameBits (9999+1) (.agg _) (.agg _)=true
   rw[Instr.sameBits]
   simp[pk,Instr.sameBits,iv]
  simp[Instr.keyThatStays,hs]
 ·show Plo _ _ _ _ (Instr.checkKey em (9999+1) _ _)
  rw[Instr.checkKey]
  refine Zf hu ?_
  dsimp only[pk]
  refine Plo.bind (Zic _ _ _ fun i _ b=>?_) fun _=>trivial
  refine Plo.bind (Yd _) fun _=>Plo.bind (Wn _ _ _) fun v=>Plo.bind ?_ fun _=>trivial
  show Plo _ _ _ _ (Instr.checkKey em (9998+1) _ _)
  rw[Instr.checkKey]
  exact Zf hi (by cases v<;>exact trivial)
 ·refine Yk fun dd=>?_
  unfold Op.equalIn
  refine Zf hu ?_
  cases y<;>first|exact trivial|skip
  rename_i ys
  dsimp only[pk]
  refine(Zoy _).at (hz default) (Plo.bind (Zic _ _ _ fun i hi2 b=>?_) fun _=>?_)
  ·have hp:∃v,(part 3 ⟨[iv a.1,iv a.2]⟩ (i*1)).run prog default=.ok (iv v) default:=by
    match i,hi2 with
    | 0,_=>exact⟨a.1,run_part_plain _ Zqn rfl⟩
    | 1,_=>exact⟨a.2,run_part_plain _ Zqn rfl⟩
   obtain⟨v,hv⟩:=hp
   refine(Zqq _ _ _).at hv (Plo.bind (Wn _ _ _) fun u=>Plo.bind ?_ fun _=>?_)
   ·cases dd with
    | zero=>exact Xe _
    | succ dd=>exact Ztl hi v u dd
   ·split<;>exact trivial
  ·split<;>exact trivial
section r
variable{n:Nat}{ops:List Oper}{Q:Exit→Z9→Za→Prop}{rest:List Oper}{ρ:Z9}{L:Za}{ty:TypeId}{pos:String}{af:Array Edge}
theorem qmP{d:Option Tmp}{g:Option (Nat × Bool)}{r:Nat}{x y:Operand}{es:List MapEntry}{ck:Nat}{f:Int × Int→Bool}{a b:Int}(h00:Ul ρ=true:=by exact rfl)(hx:ev ρ x=some (.map (some r)):=by exact rfl)(hy:ev ρ y=some (.agg ⟨[iv a,iv b]⟩):=by exact rfl)
  {s0 b0:Nat}(ht:Yj S.ty 107=some ⟨8,133,4,s0,b0⟩:=by exact rfl)(hz:Yj S.zr 4=some (.bool false):=by exact rfl)(hb:Has L r (.map ⟨es⟩ ck):=by (repeat (first|assumption|exact Zk|exact Yr (by assumption)|apply Qp|apply Zb)))(hF:Xy pk es f:=by assumption):
  QOp prog ⟨d,.lookup 107 x y false,ty,pos,af,g⟩ ρ L (.bool (f (a,b))):=by
 have hy':ev ρ y=some (pk (a,b)):=hy
 exact q_mapB S (α:=Int × Int) (key:=pk) (a:=(a,b)) Zll hx hy' ht hz hb hF
theorem wmP{r ck:Nat}{x y z:Operand}{es:List MapEntry}{f:Int × Int→Bool}{a b:Int}{v:Bool}(hF:Xy pk es f)(h:∀es' ck',Xy pk es' (fun x=>if x=(a,b) then v else f x)→HO prog n ops Q rest ρ ([(r,.map ⟨es'⟩ ck')]::L))(h00:Ul ρ=true:=by exact rfl)(hx:ev ρ x=some (.map (some r)):=by exact rfl)(hy:ev ρ y=some (.agg ⟨[iv a,iv b]⟩):=by exact rfl)(hzz:ev ρ z=some (.bool v):=by exact rfl){s0 b0:Nat}(ht:Yj S.ty 107=some ⟨8,133,4,s0,b0⟩:=by exact rfl):
  HO prog n ops Q (⟨none,.mapUpdate 107 x y z,ty,pos,af,none⟩::rest) ρ ([(r,.map ⟨es⟩ ck)]::L):=by
 have hy':ev ρ y=some (pk (a,b)):=hy
 exact o_mapB S (α:=Int × Int) (key:=pk) (a:=(a,b)) (b:=v) Zll hx hy' hzz ht hF h
end r
structure Pl where
 b:List UInt8
 off:Bool
 cut:Int
def Xs(bp ba:Nat)(m:Pl):List Zp:=[(bp,.cells ⟨[sl ba 0 m.b.length m.b.length,.bool m.off,iv m.cut]⟩ 181),(ba,.cells ⟨m.b.map u8⟩ 5)]
def Yg(n:Nat):List UInt8:=List.replicate n 0
def Ztc(n:Int):Option Pl:=if 0≤n∧n≤512 then some ⟨Yg n.toNat,false,-1⟩ else none
theorem Zm3(n:Nat):(Yg n).map u8=List.replicate n (.int .u8 0):=by simp[Yg,u8]
theorem Zt0(bp ba:Nat)(m:Pl)(L:Za):Rd uc 1 (Xs bp ba m::L) (some ⟨ba,0,none⟩) m.b:=by
 refine .inr ⟨ba,0,m.b.map u8,5,(0,0),rfl,Qp Zk,fun k x hx=>?_⟩
 have:=Uj (enc:=uc) (sz:=1) (fun _=>rfl) m.b [] [] k x hx
 simpa[Zzb] using this
def Wq(m:Pl)(at_ n:Int):Option Nat:=if at_<0∨n<0∨at_>m.b.length∨n>m.b.length-at_ then some 2 else if m.off then some 6 else none
attribute [local irreducible] HW HO HQ HD HC QOp Has Upd Yi Gets Vv W6 Xn Zaf Wa Yz Zcl Xy
theorem Zoo(T:Nat)(E:Nat→Addr)(n:Int)(L:Za)(hG:Er T E [2] L):HC prog 64 [iv n] L (fun v L'=>match Ztc n with
  | some m=>∃bp ba,v=.tuple ⟨[pt bp 0,.nilIface]⟩∧L'=Xs bp ba m::L
  | none=>v=.tuple ⟨[.pointer none,eV T E (some 2)]⟩∧L'=L):=by
 refine uE func64 ntmps64 ?_
 repeat' (first|refine uN ?_|(refine uB ?_;intro b)|(refine uP ?_ ?_<;>intro h<;>try exact zx)|refine uM ?_|fail)
 ·refine Wl rfl rfl rfl (Z15 _) ?_
  rw[show Ztc n=none from Z16 (by omega)]
  exact⟨rfl,rfl⟩
 ·refine Wl rfl rfl rfl (Z15 _) ?_
  rw[show Ztc n=none from Z16 (by omega)]
  exact⟨rfl,rfl⟩
 ·rename_i b1
  refine Z14 (L':=Xs b b1 ⟨Yg n.toNat,false,-1⟩::L) ?_ ?_
  ·simp[Xs,Zm3]
   simp[Yg]
  ·rw[show Ztc n=some ⟨Yg n.toNat,false,-1⟩ from Z2d (by omega)]
   exact⟨_,_,rfl,rfl⟩
theorem Zlt(T:Nat)(E:Nat→Addr)(bp ba:Nat)(m:Pl)(at_ n:Int)(L:Za)(hG:Er T E [2,6] L)(hl:m.b.length≤1000000):HC prog 251 [pt bp 0,iv at_,iv n] (Xs bp ba m::L) (fun v L'=>v=eV T E (Wq m at_ n)∧L'=Xs bp ba m::L):=by
 have hG':=hG.cons (Xs bp ba m)
 refine uE func251 ntmps251 ?_
 unfold Wq
 repeat' (first|refine uN ?_|(refine uP ?_ ?_<;>intro h<;>try exact zx)|fail)
 all_goals (refine Y1 rfl rfl ?_ ⟨?_,rfl⟩;(next=>(repeat (first|exact Z15 _|apply List.Sublist.cons))))
 all_goals first|(rw[Z2d (by omega)];rfl)|(rw[Z16 (by omega),Z2d (by assumption)];rfl)|(rw[Z16 (by omega),Z16 (by simp_all)];rfl)
theorem Zis(bp ba:Nat)(m:Pl)(L:Za):HC prog 123 [pt bp 0] (Xs bp ba m::L) (fun v L'=>v=bs m.b∧L'=Xs bp ba m::L):=by
 have hR:=Zt0 bp ba m L
 refine uE func123 ntmps123 ?_
 repeat' (first|refine uN ?_|fail)
 (refine Y1 rfl rfl ?_ ⟨?_,rfl⟩;(next=>(repeat (first|exact Z15 _|apply List.Sublist.cons))))
 rfl
theorem Zjd(bp ba:Nat)(m:Pl)(L:Za):HC prog 135 [pt bp 0] (Xs bp ba m::L) (fun v L'=>v=.bool (!m.off)∧L'=Xs bp ba m::L):=by
 refine uE func135 ntmps135 ?_
 repeat' (first|refine uN ?_|fail)
 all_goals (refine Y1 rfl rfl ?_ ⟨?_,rfl⟩;(next=>(repeat (first|exact Z15 _|apply List.Sublist.cons))))
 all_goals rfl
def Va(b:List UInt8)(at_:Nat)(s:List UInt8):List UInt8:=b.take at_++s++b.drop (at_+s.length)
theorem Zmz{b:List UInt8}{at_:Nat}{s:List UInt8}(h:at_+s.length≤b.length):(Va b at_ s).length=b.length:=by
 simp[Va];omega
theorem Zge(b:List UInt8)(at_:Nat):Va b at_ []=b:=by simp[Va]
theorem Zuk{b:List UInt8}{at_:Nat}{s:List UInt8}{x:UInt8}(h:at_+s.length<b.length):Va b at_ (s++[x])=(Va b at_ s).set (at_+s.length) x:=by
 have h1:(b.take at_++s).length=at_+s.length:=by simp;omega
 have h2:b.drop (at_+s.length)=b[at_+s.length]::b.drop (at_+s.length+1):=Z4u h
 simp only[Va,Z2i,Z2y,Z23,Z3o]
 rw[h2,Z34 _ _ (by omega),h1,Nat.sub_self,Z6f]
 simp[Z6t]
def Qo(m:Pl)(at_ n:Int):List UInt8 × Option Nat:=match Wq m at_ n with
 | some e=>([],some e)
 | none=>((m.b.drop at_.toNat).take n.toNat,none)
def kM(m:Pl)(n:Nat):Nat:=if m.cut=-1 then n else min n m.cut.toNat
def Zck(m:Pl)(at_:Nat)(s:List UInt8):Pl × Option Nat:=
 (⟨Va m.b at_ (s.take (kM m s.length)),m.off || decide (kM m s.length<s.length),if m.cut=-1 then -1 else m.cut-kM m s.length⟩,if kM m s.length<s.length then some 6 else none)
def Z5(m:Pl)(at_:Int)(s:List UInt8):Pl × Option Nat:=match Wq m at_ s.length with
 | some e=>(m,some e)
 | none=>Zck m at_.toNat s
theorem Zmm(T:Nat)(E:Nat→Addr)(bp ba:Nat)(m:Pl)(at_ n:Int)(L:Za)(hG:Er T E [2,6] L)(hl:m.b.length≤1000000):HC prog 176 [pt bp 0,iv at_,iv n] (Xs bp ba m::L) (fun v L'=>v=.tuple ⟨[bs (Qo m at_ n).1,eV T E (Qo m at_ n).2]⟩∧L'=Xs bp ba m::L):=by
 have hR:=Zt0 bp ba m L
 have hk:=Zlt T E bp ba m at_ n L hG hl
 refine uE func176 ntmps176 ?_
 unfold Qo
 cases hm:Wq m at_ n with
 | some e=>
  rw[hm]at hk
  repeat' (first|refine uN ?_|refine uC (hk) ?_|(refine uP ?_ ?_<;>intro h<;>try exact zx)|fail)
  (refine Wl rfl rfl rfl ?_ ⟨?_,rfl⟩;(next=>(repeat (first|exact Z15 _|apply List.Sublist.cons))))
  rfl
 | none=>
  rw[hm]at hk
  have h0:0≤at_∧0≤n∧at_+n≤m.b.length:=by
   unfold Wq at hm
   split at hm
   ·cases hm
   ·omega
  repeat' (first|refine uN ?_|refine uC (hk) ?_|(refine uP ?_ ?_<;>intro h<;>try exact zx)|fail)
  refine X7 (qtx S (l:=(m.b.drop at_.toNat).take n.toNat) (Rd.take (hR.drop (Z21 _))) ?_) ?_
  ·simp;omega
  repeat' (first|refine uN ?_|(refine uP ?_ ?_<;>intro h<;>try exact zx)|fail)
  (refine Wl rfl rfl rfl ?_ ⟨?_,rfl⟩;(next=>(repeat (first|exact Z15 _|apply List.Sublist.cons))))
  rfl
theorem Zzs(T:Nat)(E:Nat→Addr)(bp ba:Nat)(m:Pl)(n:Int)(L:Za)(hG:Er T E [2,6] L):HC prog 153 [pt bp 0,iv n] (Xs bp ba m::L)
  (fun v L'=>if n<0 then v=eV T E (some 2)∧L'=Xs bp ba m::L else if m.off then v=eV T E (some 6)∧L'=Xs bp ba m::L else v=.nilIface∧L'=Xs bp ba { m with cut:=n }::L):=by
 have hG':=hG.cons (Xs bp ba m)
 refine uE func153 ntmps153 ?_
 repeat' (first|refine uN ?_|(refine uP ?_ ?_<;>intro h<;>try exact zx)|fail)
 ·refine Us (L':=Xs bp ba m::L) rfl ?_
  simp[h,eV]
 ·rename_i h1
  refine Us (L':=Xs bp ba m::L) rfl ?_
  simp[h,h1,eV]
 ·rename_i h1
  refine Us (L':=Xs bp ba { m with cut:=n }::L) rfl ?_
  simp[h,h1]
theorem on_calls(bp ba:Nat)(m:Pl)(L:Za):HC prog 100 [pt bp 0] (Xs bp ba m::L) (fun v L'=>v=.tuple #[]∧L'=Xs bp ba { m with off:=false,cut:=-1 }::L):=by
 refine uE func100 ntmps100 ?_
 repeat' (first|refine uN ?_|fail)
 exact ee0 rfl ⟨rfl,rfl⟩
theorem Z0w(bp ba:Nat)(m:Pl)(L:Za):HC prog 98 [pt bp 0] (Xs bp ba m::L) (fun v L'=>v=.tuple #[]∧L'=Xs bp ba { m with off:=true }::L):=by
 refine uE func98 ntmps98 ?_
 repeat' (first|refine uN ?_|fail)
 exact ee0 rfl ⟨rfl,rfl⟩
theorem Zvq(T:Nat)(E:Nat→Addr)(s:List UInt8)(L:Za)(hG:Er T E [2] L)(hl:s.length≤1000000):HC prog 122 [bs s] L (fun v L'=>if s.length≤512
  then ∃bp ba,v=.tuple ⟨[pt bp 0,.nilIface]⟩∧L'=Xs bp ba ⟨s,false,-1⟩::L else v=.tuple ⟨[.pointer none,eV T E (some 2)]⟩∧L'=L):=by
 have hk:=Zoo T E s.length L hG
 by_cases h:s.length≤512
 ·rw[show Ztc s.length=some ⟨Yg s.length,false,-1⟩ from by unfold Ztc;rw[Z2d (by omega)];simp]at hk
  simp only[Z2d h]
  refine uE func122 ntmps122 ?_
  repeat' (first|refine uN ?_|(refine uP ?_ ?_<;>intro h<;>try exact zx)|fail)
  refine gc hk ?_
  rintro v L' ⟨bp,ba,rfl,rfl⟩
  repeat' (first|refine uN ?_|(refine uP ?_ ?_<;>intro h<;>try exact zx)|fail)
  refine wcs S (l':=s.map u8) (i:=0) ?_ ?_
  ·repeat' (first|refine uN ?_|(refine uP ?_ ?_<;>intro h<;>try exact zx)|fail)
   refine Z14 (L':=Xs bp ba ⟨s,false,-1⟩::L) ?_ ⟨bp,ba,rfl,rfl⟩
   simp[Xs,Yg]
  ·have e:s.take (Nat.min s.length (Yg s.length).length)=s:=by simp[Yg]
   rw[e]
   exact Ztw (by simp[Yg])
 ·rw[show Ztc s.length=none from Z16 (by omega)]at hk
  simp only[Z16 h]
  refine uE func122 ntmps122 ?_
  repeat' (first|refine uN ?_|(refine uP ?_ ?_<;>intro h<;>try exact zx)|fail)
  refine gc hk ?_
  rintro v L' ⟨rfl,rfl⟩
  repeat' (first|refine uN ?_|(refine uP ?_ ?_<;>intro h<;>try exact zx)|fail)
  exact Z14 rfl ⟨rfl,rfl⟩
def Qi(m:Pl)(a:Nat)(s:List UInt8)(i:Nat):Pl:=⟨Va m.b a (s.take i),false,if m.cut=-1 then -1 else m.cut-i⟩
theorem Z10{m:Pl}{a:Nat}{s:List UInt8}{i:Nat}(ha:a+s.length≤m.b.length)(hi:i<s.length):(Qi m a s (i+1)).b=(Qi m a s i).b.set (a+i) (s.getD i 0):=by
 show Va m.b a (s.take (i+1))=(Va m.b a (s.take i)).set (a+i) (s.getD i 0)
 rw[Z2n hi,Zuk (by simp;omega)]
 simp[List.getD,hi,Z41 (Nat.le_of_lt hi)]
theorem Zna{m:Pl}{a:Nat}{s:List UInt8}{i:Nat}(ha:a+s.length≤m.b.length):(Qi m a s i).b.length=m.b.length:=Zmz (by simp;omega)
theorem Zee(T:Nat)(E:Nat→Addr)(bp ba:Nat)(m:Pl)(at_:Int)(s:List UInt8)(L:Za)(hG:Er T E [2,6] L)(hl:m.b.length≤1000000)(hs:s.length≤1000000)(hc:-1≤m.cut∧m.cut≤9223372036854775807):
  HC prog 287 [pt bp 0,iv at_,bs s] (Xs bp ba m::L) (fun v L'=>v=eV T E (Z5 m at_ s).2∧L'=Xs bp ba (Z5 m at_ s).1::L):=by
 have hk:=Zlt T E bp ba m at_ s.length L hG hl
 have hG':∀m',Er T E [2,6] (Xs bp ba m'::L):=fun m'=>hG.cons _
 refine uE func287 ntmps287 ?_
 unfold Z5
 cases hm:Wq m at_ s.length with
 | some e=>
  rw[hm]at hk
  repeat' (first|refine uN ?_|refine uC (hk) ?_|refine dg S 100 (fun _ _=>?_)|(refine uP ?_ ?_<;>intro h<;>try exact zx)|refine uM ?_|fail)
  exact Us rfl ⟨rfl,rfl⟩
 | none=>
  rw[hm]at hk
  have h0:0≤at_∧at_+s.length≤m.b.length∧m.off=false:=by
   unfold Wq at hm
   split at hm
   ·cases hm
   ·split at hm
    ·cases hm
    ·exact⟨by omega,by omega,by simp_all⟩
  obtain⟨a,rfl⟩:=Z2t h0.1
  obtain⟨-,h1,hoff⟩:=h0
  have h2:a+s.length≤m.b.length:=by omega
  clear hm
  repeat' (first|refine uN ?_|refine uC (hk) ?_|refine dg S 100 (fun _ _=>?_)|(refine uP ?_ ?_<;>intro h<;>try exact zx)|refine uM ?_|fail)
  have hst:Xs bp ba m=Xs bp ba (Qi m a s 0):=by
   obtain⟨mb,mo,mc⟩:=m
   simp only at hoff
   subst hoff
   simp only[Qi,List.take_zero,Zge]
   by_cases h:mc=-1<;>simp[h,Xs]
  rw[hst]
  refine Zm (σ:=Nat) (fun i=>[(0,pt bp 0),(1,iv a),(2,bs s),(18,iv s.length),(19,iv i)]) (fun i=>Xs bp ba (Qi m a s i)::L) (fun i=>i≤s.length∧(m.cut=-1∨(i:Int)≤m.cut)) (fun i=>s.length-i) 0 uS (Z15 _) ⟨by omega,by omega⟩ ?_
  rintro i ⟨i1,i2⟩
  have hG2:=hG' (Qi m a s i)
  have hlen:=Zna (i:=i) h2
  have hcut:(m.cut=-1∧(Qi m a s i).cut=-1)∨(m.cut≠-1∧(Qi m a s i).cut=m.cut-i):=by
   unfold Qi
   by_cases h:m.cut=-1
   ·exact .inl ⟨h,by simp[h]⟩
   ·exact .inr ⟨h,by simp[h]⟩
  by_cases hlt:i<s.length
  ·have hP:Yi ((Qi m a s i).b.map u8) (0+((a:Int)+(i:Int)).toNat) [.int .u8 (((s.getD (i:Int).toNat 0).toNat:Nat):Int)] ((Qi m a s (i+1)).b.map u8):=by
    rw[Z10 h2 hlt,Z4h]
    have e:0+((a:Int)+(i:Int)).toNat=a+i:=by omega
    rw[e]
    exact Wz (by simp;omega)
   have hnext:Xs bp ba (Qi m a s (i+1))=[(bp,.cells ⟨[sl ba 0 (Qi m a s i).b.length (Qi m a s i).b.length,.bool (Qi m a s i).off,iv (max (-1) ((Qi m a s i).cut-1))]⟩ 181),(ba,.cells ⟨(Qi m a s (i+1)).b.map u8⟩ 5)]:=by
    have e1:(Qi m a s (i+1)).b.length=(Qi m a s i).b.length:=by rw[Zna h2,Zna h2]
    have e2:(Qi m a s (i+1)).cut=max (-1) ((Qi m a s i).cut-1):=by
     have e3:(Qi m a s (i+1)).cut=if m.cut=-1 then -1 else m.cut-((i+1:Nat):Int):=rfl
     rw[e3]
     rcases hcut with hcut|hcut
     ·rw[Z2d hcut.1];omega
     ·rw[Z16 hcut.1];omega
    have e4:(Qi m a s (i+1)).off=(Qi m a s i).off:=rfl
    unfold Xs
    rw[e1,e2,e4]
   repeat' (first|refine uN ?_|refine dg S 100 (fun _ _=>?_)|(refine uP ?_ ?_<;>intro h<;>try exact zx)|refine uM ?_|fail)
   ·have hk0:kM m s.length=i:=by
     unfold kM
     rcases hcut with hcut|hcut
     ·omega
     ·rw[Z16 hcut.1]
      omega
    refine Us (L':=Xs bp ba (Zck m a s).1::L) ?_ ?_
    ·simp only[Zck,hk0,hoff,Z29 hlt,Bool.or_true,Z17]
     have e:Xs bp ba (Qi m a s i)=Xs bp ba ⟨Va m.b a (s.take i),false,if m.cut=-1 then -1 else m.cut-i⟩:=rfl
     simp[Xs,Qi]
    ·simp[Zck,hk0,hlt,eV]
   ·refine Zn (i+1) uS ?_ ⟨by omega,by omega⟩ (by omega)
    rw[hnext]
    exact Z15 _
  ·repeat' (first|refine uN ?_|refine dg S 100 (fun _ _=>?_)|(refine uP ?_ ?_<;>intro h<;>try exact zx)|refine uM ?_|fail)
   have hi:i=s.length:=by omega
   subst hi
   have hk0:kM m s.length=s.length:=by
    unfold kM
    split
    ·rfl
    ·omega
   refine Us (L':=Xs bp ba (Zck m a s).1::L) ?_ ?_
   ·simp[Xs,Qi,Zck,hk0,hoff]
   ·simp[Zck,hk0,eV]
theorem Zuj{α:Type}{p:List α→Prop}(h0:p [])(h1:∀l a,p l→p (l++[a]))(l:List α):p l:=by
 have h:∀l:List α,p l.reverse:=fun l=>by
  induction l with
  | nil=>exact h0
  | cons a l ih=>rw[List.reverse_cons];exact h1 _ _ ih
 have:=h l.reverse
 rwa [List.reverse_reverse]at this
def bt(n:Int)(k:Nat):UInt8:=UInt8.ofNat (n / 2 ^ (8*k) % 256).toNat
theorem Zvd(n:Int)(k:Nat):((bt n k).toNat:Int)=n / 2 ^ (8*k) % 256:=by
 unfold bt
 have h1:0≤n / 2 ^ (8*k) % 256:=Z5n _ (by decide)
 have h2:n / 2 ^ (8*k) % 256<256:=Z5m _ (by decide)
 rw[UInt8.toNat_ofNat',Z5h (by omega)]
 omega
def Zv(n:Int):Nat→List UInt8
 | 0=>[]
 | k+1=>bt n k::Zv n k
theorem Zy(n:Int)(k:Nat):(Zv n k).length=k:=by
 induction k with
 | zero=>rfl
 | succ k ih=>simp[Zv,ih]
def Zbf(s:List UInt8):Nat:=s.foldl (fun n b=>n*256+b.toNat) 0
theorem Zmk(s:List UInt8)(b:UInt8):Zbf (s++[b])=Zbf s*256+b.toNat:=by simp[Zbf]
theorem Zqv(s:List UInt8):Zbf s<256 ^ s.length:=by
 refine Zuj (p:=fun s=>Zbf s<256 ^ s.length) (by simp[Zbf]) (fun s b ih=>?_) s
 ·rw[Zmk]
  have:=b.toNat_lt
  simp only[Z2i,Z2y,Z23,Z3o,Z6i]
  omega
def Zvh(c:Nat):Nat:=(c / 2) ^^^ (3988292384*(c % 2))
def Zft:Nat→Nat→Nat
 | 0,c=>c
 | k+1,c=>Zft k (Zvh c)
theorem Zn9(k c:Nat):Zft (k+1) c=Zvh (Zft k c):=by
 induction k generalizing c with
 | zero=>rfl
 | succ k ih=>exact ih (Zvh c)
def Zvi(c:Nat)(b:UInt8):Nat:=Zft 8 (c ^^^ b.toNat)
def Ur(s:List UInt8):Nat:=s.foldl Zvi 4294967295
def Zej(s:List UInt8):Nat:=4294967295-Ur s
theorem crc1_lt{c:Nat}(h:c<4294967296):Zvh c<4294967296:=by
 unfold Zvh
 exact Z4j (n:=32) (by omega) (by omega)
theorem Zpu{k c:Nat}(h:c<4294967296):Zft k c<4294967296:=by
 induction k generalizing c with
 | zero=>exact h
 | succ k ih=>exact ih (crc1_lt h)
theorem Zu1{c:Nat}(b:UInt8)(h:c<4294967296):c ^^^ b.toNat<4294967296:=Z4j (n:=32) h (by have:=b.toNat_lt;omega)
theorem crcB_lt{c:Nat}{b:UInt8}(h:c<4294967296):Zvi c b<4294967296:=Zpu (Zu1 b h)
theorem Zx2(s:List UInt8):Ur s<4294967296:=by
 refine Zuj (p:=fun s=>Ur s<4294967296) (by decide) (fun s b ih=>?_) s
 rw[show Ur (s++[b])=Zvi (Ur s) b by simp[Ur]];exact crcB_lt ih
theorem crc_val(c:Nat)(h:c<4294967296):((((c:Int) / 2 ^ (1:Int).toNat).toNat ^^^ ((3988292384*(((c:Int).toNat &&& (1:Int).toNat:Nat):Int)) % 4294967296).toNat:Nat):Int)=((Zvh c:Nat):Int):=by
 have e1:((c:Int) / 2 ^ (1:Int).toNat).toNat=c / 2:=by simp;omega
 have e2:((c:Int).toNat &&& (1:Int).toNat:Nat)=c % 2:=by simp[Nat.and_one_is_mod]
 have e3:((3988292384*((c % 2:Nat):Int)) % 4294967296).toNat=3988292384*(c % 2):=by omega
 rw[e1,e2,e3]
 rfl
theorem Zlk(s:List UInt8)(L:Za)(hs:s.length≤1000000):HC prog 204 [bs s] L (fun v L'=>v=iv (Zej s)∧L'=L):=by
 refine uE func204 ntmps204 ?_
 repeat' (first|refine uN ?_|(refine uP ?_ ?_<;>intro h<;>try exact zx)|fail)
 refine Zm (σ:=Nat) (fun i=>[(0,bs s),(6,iv s.length),(7,iv i),(3,.int .u32 (Ur (s.take i)))]) (fun _=>L) (fun i=>i≤s.length) (fun i=>s.length-i) 0 uS (Z15 _) (by omega) ?_
 intro i i1
 have hc:=Zx2 (s.take i)
 by_cases hlt:i<s.length
 ·have hb:=(s.getD (i:Int).toNat 0).toNat_lt
  repeat' (first|refine uN ?_|(refine uP ?_ ?_<;>intro h<;>try exact zx)|fail)
  have e0:(((Ur (s.take i):Nat):Int).toNat ^^^ (((s.getD (i:Int).toNat 0).toNat:Nat):Int).toNat:Nat)=Ur (s.take i) ^^^ (s.getD i 0).toNat:=by simp
  rw[e0]
  have hx:=Zu1 (s.getD i 0) hc
  refine Zm (σ:=Nat) (fun j=>[(0,bs s),(6,iv s.length),(7,iv i),(16,iv j),(3,.int .u32 (Zft j (Ur (s.take i) ^^^ (s.getD i 0).toNat)))]) (fun _=>L) (fun j=>j≤8) (fun j=>8-j) 0 uS (Z15 _) (by omega) ?_
  intro j j1
  have hcj:=Zpu (k:=j) hx
  by_cases hlt2:j<8
  ·repeat' (first|refine uN ?_|(refine uP ?_ ?_<;>intro h<;>try exact zx)|fail)
   refine Zn (j+1) ?_ (Z15 _) (by omega) (by omega)
   rw[Zn9,← crc_val _ hcj]
   repeat (first|exact trivial|refine⟨rfl,?_⟩)
  ·have hj:j=8:=by omega
   subst hj
   repeat' (first|refine uN ?_|(refine uP ?_ ?_<;>intro h<;>try exact zx)|fail)
   refine Zn (i+1) ?_ (Z15 _) (by omega) (by omega)
   have e:Ur (s.take (i+1))=Zft 8 (Ur (s.take i) ^^^ (s.getD i 0).toNat):=by
    rw[Z2n hlt]
    rw[show ∀l b,Ur (l++[b])=Zvi (Ur l) b from fun l b=>by simp[Ur]]
    simp[Zvi,List.getD,hlt]
   rw[e]
   repeat (first|exact trivial|refine⟨rfl,?_⟩)
 ·repeat' (first|refine uN ?_|(refine uP ?_ ?_<;>intro h<;>try exact zx)|fail)
  have hi:i=s.length:=by omega
  subst hi
  (refine Y1 rfl rfl ?_ ⟨?_,rfl⟩;(next=>(repeat (first|exact Z15 _|apply List.Sublist.cons))))
  rw[Z4c]at hc ⊢
  exact congrArg iv (by unfold Zej;omega)
theorem Zhc(b E:Nat)(l:List UInt8)(L:Za):Rd uc 1 ([(b,.cells ⟨l.map u8⟩ E)]::L) (some ⟨b,0,none⟩) l:=by
 refine .inr ⟨b,0,l.map u8,E,(0,0),rfl,Zk,fun k x hx=>?_⟩
 have:=Uj (enc:=uc) (sz:=1) (fun _=>rfl) l [] [] k x hx
 simpa[Zzb] using this
theorem Z12(n i:Nat)(x:Int)(h:i<n):(Yg (n-i)++Zv x i).set (n-1-i) (bt x i)=Yg (n-(i+1))++Zv x (i+1):=by
 have e:Yg (n-i)=Yg (n-(i+1))++[0]:=by
  rw[show n-i=(n-(i+1))+1 by omega]
  simp[Yg,Z7e]
 rw[e,Z18,Z34 _ _ (by simp[Yg];omega)]
 simp[Yg,Zv,show n-1-i-(n-(i+1))=0 by omega]
structure Ent where
 n:Int
 s:St
def Z13(e:Ent):List Value:=[iv e.n,iv e.s.ph,iv e.s.pr,iv e.s.att]
def head(e:Ent):List UInt8:=Zv e.n 4++Zv e.s.ph 1++Zv e.s.pr 4++Zv e.s.att 4
def Yu(e:Ent):List UInt8:=head e++Zv (Zej (head e)) 4
theorem Qb(n:Int)(many:Nat)(L:Za)(hm:many≤8):HC prog 284 [iv n,iv many] L (fun v L'=>v=bs (Zv n many)∧L'=L):=by
 refine uE func284 ntmps284 ?_
 repeat' (first|refine uN ?_|(refine uB ?_;intro b)|(refine uP ?_ ?_<;>intro h<;>try exact zx)|fail)
 refine Zm (σ:=Nat) (fun i=>[(0,iv n),(1,iv many),(5,sl b 0 many many),(9,iv many),(10,iv i)]) (fun i=>[(b,.cells ⟨(Yg (many-i)++Zv n i).map u8⟩ 5)]::L) (fun i=>i≤many) (fun i=>many-i) 0 uS ?_ (by omega) ?_
 ·simp[Zv,Zm3,Yg,u8]
 ·intro i i1
  by_cases hlt:i<many
  ·have hP:Yi ((Yg (many-i)++Zv n i).map u8) (0+((many:Int)-1-(i:Int)).toNat) [.int .u8 (n / 2 ^ (8*(i:Int)).toNat % 256)] ((Yg (many-(i+1))++Zv n (i+1)).map u8):=by
    rw[← Z12 many i n hlt,Z4h]
    have e:0+((many:Int)-1-(i:Int)).toNat=many-1-i:=by omega
    have e2:(8*(i:Int)).toNat=8*i:=by omega
    have e3:Value.int .u8 (n / 2 ^ (8*(i:Int)).toNat % 256)=u8 (bt n i):=by unfold u8;rw[Zvd,e2]
    rw[e,e3]
    exact Wz (by simp[Yg,Zy];omega)
   repeat' (first|refine uN ?_|(refine uB ?_;intro b)|(refine uP ?_ ?_<;>intro h<;>try exact zx)|fail)
   refine Zn (i+1) uS (Z15 _) (by omega) (by omega)
  ·have hi:i=many:=by omega
   subst hi
   repeat' (first|refine uN ?_|(refine uB ?_;intro b)|(refine uP ?_ ?_<;>intro h<;>try exact zx)|fail)
   refine X7 (qtx S (Zhc _ _ _ _) ?_) ?_
   ·simp[Yg,Zy]
   ·repeat' (first|refine uN ?_|(refine uB ?_;intro b)|(refine uP ?_ ?_<;>intro h<;>try exact zx)|fail)
    refine Y1 rfl rfl (List.sublist_cons_self _ _) ⟨?_,rfl⟩
    simp[Yg]
theorem Q8(s:List UInt8)(L:Za)(hs:s.length≤7):HC prog 206 [bs s] L (fun v L'=>v=iv (Zbf s)∧L'=L):=by
 refine uE func206 ntmps206 ?_
 repeat' (first|refine uN ?_|(refine uP ?_ ?_<;>intro h<;>try exact zx)|fail)
 refine Zm (σ:=Nat) (fun i=>[(0,bs s),(6,iv s.length),(7,iv i),(3,iv (Zbf (s.take i)))]) (fun _=>L) (fun i=>i≤s.length) (fun i=>s.length-i) 0 uS (Z15 _) (by omega) ?_
 intro i i1
 by_cases hlt:i<s.length
 ·have hb:=(s.getD (i:Int).toNat 0).toNat_lt
  have hr:=Zqv (s.take i)
  have hr2:Zbf (s.take i)<281474976710656:=by
   have:256 ^ (s.take i).length≤256 ^ 6:=Z3e (by decide) (by simp;omega)
   omega
  repeat' (first|refine uN ?_|(refine uP ?_ ?_<;>intro h<;>try exact zx)|fail)
  refine Zn (i+1) ?_ (Z15 _) (by omega) (by omega)
  have e:((((Zbf (s.take i):Nat):Int)*2 ^ Int.toNat 8).toNat ||| (((s.getD (i:Int).toNat 0).toNat:Nat):Int).toNat:Nat)=Zbf (s.take (i+1)):=by
   rw[Z2n hlt,Zmk]
   have e1:(((Zbf (s.take i):Nat):Int)*2 ^ Int.toNat 8).toNat=(Zbf (s.take i)) <<< 8:=by rw[Nat.shiftLeft_eq];simp;omega
   have e2:(((s.getD (i:Int).toNat 0).toNat:Nat):Int).toNat=(s[i]).toNat:=by simp[List.getD,hlt]
   rw[e1,e2,← Nat.shiftLeft_add_eq_or_of_lt (s[i]).toNat_lt,Nat.shiftLeft_eq]
  rw[← e]
  repeat (first|exact trivial|refine⟨rfl,?_⟩)
 ·repeat' (first|refine uN ?_|(refine uP ?_ ?_<;>intro h<;>try exact zx)|fail)
  have hi:i=s.length:=by omega
  subst hi
  (refine Y1 rfl rfl ?_ ⟨?_,rfl⟩;(next=>(repeat (first|exact Z15 _|apply List.Sublist.cons))))
  rw[Z4c]
theorem Zk2(e:Ent)(L:Za):HC prog 252 [.agg ⟨Z13 e⟩] L (fun v L'=>v=bs (Yu e)∧L'=L):=by
 have k1:∀L,HC prog 284 [iv e.n,iv 4] L (fun v L'=>v=bs (Zv e.n 4)∧L'=L):=fun L=>Qb e.n 4 L (by decide)
 have k2:∀L,HC prog 284 [iv e.s.ph,iv 1] L (fun v L'=>v=bs (Zv e.s.ph 1)∧L'=L):=fun L=>Qb e.s.ph 1 L (by decide)
 have k3:∀L,HC prog 284 [iv e.s.pr,iv 4] L (fun v L'=>v=bs (Zv e.s.pr 4)∧L'=L):=fun L=>Qb e.s.pr 4 L (by decide)
 have k4:∀L,HC prog 284 [iv e.s.att,iv 4] L (fun v L'=>v=bs (Zv e.s.att 4)∧L'=L):=fun L=>Qb e.s.att 4 L (by decide)
 have k5:∀L,HC prog 284 [iv (Zej (head e)),iv 4] L (fun v L'=>v=bs (Zv (Zej (head e)) 4)∧L'=L):=fun L=>Qb _ 4 L (by decide)
 have k6:∀L,HC prog 204 [bs (head e)] L (fun v L'=>v=iv (Zej (head e))∧L'=L):=fun L=>Zlk _ L (by simp[head,Zy])
 have n1:=Zy e.n 4
 have n2:=Zy e.s.ph 1
 have n3:=Zy e.s.pr 4
 have n4:=Zy e.s.att 4
 have n5:=Zy (Zej (head e)) 4
 refine uE func252 ntmps252 ?_
 repeat' (first|refine uN ?_|refine uC (k1 _) ?_|refine uC (k2 _) ?_|refine uC (k3 _) ?_|refine uC (k4 _) ?_|refine uC (k5 _) ?_|refine uC (k6 _) ?_|(refine uB ?_;intro b)|refine uM ?_|fail)
 refine Y1 rfl rfl (List.sublist_cons_self _ _) ⟨?_,rfl⟩
 simp[Yu,head]
def Y5:List UInt8:=[165]
def Yy(k:Int)(s:List UInt8):Ent:=
 let e:Ent:=⟨Zbf (s.take 4),Zbf ((s.take 5).drop 4),Zbf ((s.take 9).drop 5),Zbf ((s.take 13).drop 9)⟩
 if e.n<1∨e.n % 2≠k∨Yu e++Y5≠s then ⟨0,0,0,0⟩ else e
def Zd0(s:List UInt8):Ent:=⟨Zbf (s.take 4),Zbf ((s.take 5).drop 4),Zbf ((s.take 9).drop 5),Zbf ((s.take 13).drop 9)⟩
theorem Q7(k:Int)(s:List UInt8):Yy k s=if (Zd0 s).n<1∨(Zd0 s).n % 2≠k∨Yu (Zd0 s)++Y5≠s then ⟨0,0,0,0⟩ else Zd0 s:=rfl
theorem Zvv(k:Int)(s:List UInt8)(L:Za)(hs:s.length=18):HC prog 177 [iv k,bs s] L (fun v L'=>v=.agg ⟨Z13 (Yy k s)⟩∧L'=L):=by
 have k1:∀L,HC prog 206 [bs (s.take 4)] L (fun v L'=>v=iv (Zbf (s.take 4))∧L'=L):=fun L=>Q8 _ L (by simp;omega)
 have k2:∀L,HC prog 206 [bs ((s.take 5).drop 4)] L (fun v L'=>v=iv (Zbf ((s.take 5).drop 4))∧L'=L):=fun L=>Q8 _ L (by simp;omega)
 have k3:∀L,HC prog 206 [bs ((s.take 9).drop 5)] L (fun v L'=>v=iv (Zbf ((s.take 9).drop 5))∧L'=L):=fun L=>Q8 _ L (by simp;omega)
 have k4:∀L,HC prog 206 [bs ((s.take 13).drop 9)] L (fun v L'=>v=iv (Zbf ((s.take 13).drop 9))∧L'=L):=fun L=>Q8 _ L (by simp;omega)
 have k5:∀L,HC prog 252 [.agg ⟨[iv (Zbf (s.take 4)),iv (Zbf ((s.take 5).drop 4)),iv (Zbf ((s.take 9).drop 5)),iv (Zbf ((s.take 13).drop 9))]⟩] L (fun v L'=>v=bs (Yu (Zd0 s))∧L'=L):=fun L=>Zk2 (Zd0 s) L
 have hn:Zbf (s.take 4)<4294967296:=by
  have:=Zqv (s.take 4)
  rwa [show (s.take 4).length=4 by simp;omega]at this
 have hb:(Yu (Zd0 s)).length=17:=by simp[Yu,head,Zy]
 rw[Q7]
 refine uE func177 ntmps177 ?_
 repeat' (first|refine uN ?_|refine uC (k1 _) ?_|refine uD (fun _=>k1 _) ?_|refine uC (k2 _) ?_|refine uD (fun _=>k2 _) ?_|refine uC (k3 _) ?_|refine uD (fun _=>k3 _) ?_|refine uC (k4 _) ?_|refine uD (fun _=>k4 _) ?_|refine uC (k5 _) ?_|refine uD (fun _=>k5 _) ?_|(refine uB ?_;intro b)|(refine uP ?_ ?_<;>intro h<;>try exact zx)|refine uM ?_|fail)
 all_goals refine Z3 (LS.skip _ (LS.skip _ (LS.refl _))) ⟨?_,rfl⟩ (hv:=Xj S (hg:=Zc rfl (Zc rfl (Zc rfl (Zc rfl Z6)))))
 ·rw[Z2d (.inl h)];rfl
 ·rw[Z2d (.inr (.inl h))];rfl
 ·rw[Z2d (.inr (.inr h))];rfl
 ·rename_i h1 h2
  rw[Z16 (fun h0=>h0.elim h1 (fun h0=>h0.elim (fun h0=>h0 h2) (fun h0=>h0 h)))];rfl
end Go.HL
namespace Go.HL
open Go Go.Proofs Go.Proofs.Tryz
variable[Tasks]
structure Jn where
 l:List Ent
 dead:Bool
def Yl(bp:Nat)(j:Jn):List Value:=[pt bp 0]++(j.l.map Z13).flatten++[.bool j.dead]
def jC(bj bp:Nat)(j:Jn):List Zp:=[(bj,.cells ⟨Yl bp j⟩ 261)]
def Zl:Ent:=⟨0,0,0,0⟩
def Uy(e0 e:Ent):Ent:=if e0.n<e.n then e else e0
def Y9(b:List UInt8)(i:Nat):List UInt8:=(b.drop (i*18)).take 18
def Vy(b:List UInt8)(d:Nat):Nat→Ent
 | 0=>Zl
 | k+1=>Uy (Vy b d k) (Yy k (Y9 b (2*d+k)))
def Y7(b:List UInt8)(d:Nat):Ent:=Vy b d 2
def Zq(b:List UInt8):List Ent:=(List.range 6).map (Y7 b)
def Zjw(b:List UInt8)(d k:Nat):List Ent:=(List.range d).map (Y7 b)++Vy b d k::List.replicate (5-d) Zl
theorem lAt_len(b:List UInt8)(d k:Nat)(h:d≤5):(Zjw b d k).length=6:=by simp[Zjw];omega
theorem lAt_get(b:List UInt8)(d k:Nat):(Zjw b d k)[d]?=some (Vy b d k):=by
 rw[Zjw,Z3f (by simp)]
 simp
theorem lAt_set(b:List UInt8)(d k:Nat)(e:Ent)(h:e=Vy b d (k+1)):(Zjw b d k).set d e=Zjw b d (k+1):=by
 subst h
 rw[Zjw,Z34 _ _ (by simp)]
 simp[Zjw]
theorem lAt_next(b:List UInt8)(d:Nat)(h:d<5):Zjw b d 2=Zjw b (d+1) 0:=by
 simp only[Zjw,Z4i,Z20,Z2s,Z3z,Z18,Z19,Z2b,Vy]
 rw[show 5-d=(5-(d+1))+1 by omega,Z58]
 rfl
theorem lAt_last(b:List UInt8):Zjw b 5 2=Zq b:=by
 simp[Zjw,Zq,Z4i,Y7]
theorem Zcr(e:Ent):(Z13 e).length=4:=rfl
theorem Zsv{bp:Nat}{j:Jn}{d:Nat}{e:Ent}(h:j.l[d]?=some e):Gets (Yl bp j) (0+1+(d:Int).toNat*4) (Z13 e):=by
 have:=Uj (enc:=Z13) (sz:=4) Zcr j.l [.bool j.dead] [pt bp 0] d e h
 simpa[Yl] using this
theorem Zv0{bp:Nat}{j:Jn}{d:Nat}{e:Ent}(h:j.l[d]?=some e):Gets (Yl bp j) (0+1+(d:Int).toNat*4+1) (sc e.s):=fun k v hk=>by
 have:=Zsv (bp:=bp) h (k+1) v (by simpa[Z13,sc] using hk)
 rw[show 0+1+(d:Int).toNat*4+1+k=0+1+(d:Int).toNat*4+(k+1) by omega]
 exact this
theorem jputs{bp:Nat}{j:Jn}{d:Nat}(e:Ent)(h:d<j.l.length):Yi (Yl bp j) (0+1+(d:Int).toNat*4) (Z13 e) (Yl bp ⟨j.l.set d e,j.dead⟩):=by
 have:=Zcb (enc:=Z13) (sz:=4) Zcr j.l [.bool j.dead] [pt bp 0] d (0+1+(d:Int).toNat*4) e h (by simp)
 exact this
theorem jdead{bp:Nat}{j:Jn}(h:j.l.length=6):(Yl bp j)[0+25]?=some (.bool j.dead):=by
 unfold Yl
 rw[Z3f (by simp[Yn Zcr,h])]
 simp[Yn Zcr,h]
theorem jputsD{bp:Nat}{j:Jn}(h:j.l.length=6)(b:Bool):Yi (Yl bp j) (0+25) [.bool b] (Yl bp ⟨j.l,b⟩):=by
 have e:Yl bp ⟨j.l,b⟩=(Yl bp j).set (0+25) (.bool b):=by
  unfold Yl
  rw[Z34 _ _ (by simp[Yn Zcr,h])]
  simp[Yn Zcr,h]
 rw[e]
 exact Wz (by simp[Yl,Yn Zcr,h])
attribute [local irreducible] HW HO HQ HD HC QOp Has Upd Yi Gets Vv W6 Xn Zaf Wa Yz Zcl Xy
section
attribute [local irreducible] Yl
theorem Zoe(T:Nat)(E:Nat→Addr)(bj bp:Nat)(j:Jn)(d:Int)(L:Za)(hG:Er T E [2] L)(hl:j.l.length=6):HC prog 121 [pt bj 0,iv d] (jC bj bp j::L) (fun v L'=>L'=jC bj bp j::L∧
  if d<0∨6≤d then v=.tuple ⟨[.agg ⟨[iv 0,iv 0,iv 0]⟩,eV T E (some 2)]⟩ else v=.tuple ⟨[.agg ⟨sc (j.l.getD d.toNat Zl).s⟩,.nilIface]⟩):=by
 by_cases h0:d<0∨6≤d
 ·simp only[Z2d h0]
  refine uE func121 ntmps121 ?_
  repeat' (first|refine uN ?_|(refine uB ?_;intro b)|refine dg S 100 (fun _ _=>?_)|(refine uP ?_ ?_<;>intro h<;>try exact zx)|refine uM ?_|fail)
  ·exact U3 (LS.skip _ (LS.refl _)) ⟨rfl,rfl⟩ (hx:=Xj S (hg:=Zc rfl (Zc rfl (Zc rfl Z6))))
  ·exact U3 (LS.skip _ (LS.refl _)) ⟨rfl,rfl⟩ (hx:=Xj S (hg:=Zc rfl (Zc rfl (Zc rfl Z6))))
 ·simp only[Z16 h0]
  obtain⟨d,rfl⟩:=Z2t (show 0≤d by omega)
  have he:j.l[d]?=some (j.l.getD d Zl):=by
   rw[List.getD,Z2c (by omega)];rfl
  have g1:=Zsv (bp:=bp) he
  have g2:=Zv0 (bp:=bp) he
  refine uE func121 ntmps121 ?_
  repeat' (first|refine uN ?_|(refine uB ?_;intro b)|refine dg S 100 (fun _ _=>?_)|(refine uP ?_ ?_<;>intro h<;>try exact zx)|refine uM ?_|fail)
  refine U3 (LS.skip _ (LS.refl _)) ⟨rfl,?_⟩ (hx:=Xj S (hg:=Zc rfl (Zc rfl (Zc rfl Z6))))
  simp[sc]
end
theorem Z1f(m:Pl)(d k:Nat)(hd:d<6)(hk:k<2)(hl:216≤m.b.length)(ho:m.off=false):Qo m ((2*(d:Int)+(k:Int))*18) 18=(Y9 m.b (2*d+k),none):=by
 have h:Wq m ((2*(d:Int)+(k:Int))*18) 18=none:=by
  unfold Wq
  rw[Z16 (by omega),Z16 (by simp[ho])]
 unfold Qo Y9
 rw[h]
 have e:((2*(d:Int)+(k:Int))*18).toNat=(2*d+k)*18:=by omega
 simp[e]
theorem Zce(b:List UInt8)(i:Nat)(h:i<12)(hl:216≤b.length):(Y9 b i).length=18:=by simp[Y9];omega
def lO(b:List UInt8)(d:Nat):List Ent:=if d<6 then Zjw b d 0 else Zq b
theorem lO_next(b:List UInt8)(d:Nat)(h:d<6):Zjw b d 2=lO b (d+1):=by
 unfold lO
 split
 ·exact lAt_next b d (by omega)
 ·rw[show d=5 by omega,lAt_last]
theorem lAt_upd(b:List UInt8)(d k:Nat)(h:(Vy b d k).n<(Yy k (Y9 b (2*d+k))).n):(Zjw b d k).set d (Yy k (Y9 b (2*d+k)))=Zjw b d (k+1):=
 lAt_set b d k _ (by simp[Vy,Uy,h])
theorem lAt_same(b:List UInt8)(d k:Nat)(h:¬ (Vy b d k).n<(Yy k (Y9 b (2*d+k))).n):Zjw b d k=Zjw b d (k+1):=by
 simp[Zjw,Vy,Uy,h]
theorem jC_new(bj bp:Nat)(b:List UInt8):jC bj bp ⟨lO b 0,false⟩=[(bj,.cells ⟨[pt bp 0,iv 0,iv 0,iv 0,iv 0,iv 0,iv 0,iv 0,iv 0,iv 0,iv 0,iv 0,iv 0,iv 0,iv 0,iv 0,iv 0,iv 0,iv 0,iv 0,iv 0,iv 0,iv 0,iv 0,iv 0,.bool false]⟩ 261)]:=rfl
section
attribute [local irreducible] Yl Xs
theorem Zl5(T:Nat)(E:Nat→Addr)(bp ba:Nat)(m:Pl)(L:Za)(hG:Er T E [2,6] L)(hl:m.b.length≤1000000):HC prog 120 [pt bp 0] (Xs bp ba m::L) (fun v L'=>
  if m.b.length<216 then v=.tuple ⟨[.pointer none,eV T E (some 2)]⟩∧L'=Xs bp ba m::L else if m.off then v=.tuple ⟨[.pointer none,eV T E (some 6)]⟩∧L'=Xs bp ba m::L
  else ∃bj,v=.tuple ⟨[pt bj 0,.nilIface]⟩∧L'=jC bj bp ⟨Zq m.b,false⟩::Xs bp ba m::L):=by
 have kb:=Zis bp ba m L
 have kp:=Zjd bp ba m L
 by_cases h1:m.b.length<216
 ·simp only[Z2d h1]
  refine uE func120 ntmps120 ?_
  repeat' (first|refine uN ?_|refine uC (kb) ?_|(refine uB ?_;intro b)|refine dg S 100 (fun _ _=>?_)|(refine uP ?_ ?_<;>intro h<;>try exact zx)|refine uM ?_|fail)
  exact Z14 rfl ⟨rfl,rfl⟩
 ·simp only[Z16 h1]
  cases h2:m.off with
  | true=>
   rw[h2]at kp
   simp only[Z4d]
   refine uE func120 ntmps120 ?_
   repeat' (first|refine uN ?_|refine uC (kb) ?_|refine uC (kp) ?_|(refine uB ?_;intro b)|refine dg S 100 (fun _ _=>?_)|(refine uP ?_ ?_<;>intro h<;>try exact zx)|refine uM ?_|fail)
   exact Z14 rfl ⟨rfl,rfl⟩
  | false=>
   rw[h2]at kp
   simp only[Z2r,Z3h]
   refine uE func120 ntmps120 ?_
   repeat' (first|refine uN ?_|refine uC (kb) ?_|refine uC (kp) ?_|(refine uB ?_;intro b)|refine dg S 100 (fun _ _=>?_)|(refine uP ?_ ?_<;>intro h<;>try exact zx)|refine uM ?_|fail)
   refine fw 1 ?_
   refine Zm (σ:=Nat) (fun d=>[(0,pt bp 0),(4,pt b 0),(28,iv d)]) (fun d=>Xs bp ba m::jC b bp ⟨lO m.b d,false⟩::L) (fun d=>d≤6) (fun d=>6-d) 0 uS ?_ (by omega) ?_
   ·rw[jC_new];exact Z15 _
   intro d d1
   by_cases hd:d<6
   ·rw[show lO m.b d=Zjw m.b d 0 from Z2d hd]
    repeat' (first|refine uN ?_|(refine uB ?_;intro b)|refine dg S 100 (fun _ _=>?_)|(refine uP ?_ ?_<;>intro h<;>try exact zx)|refine uM ?_|fail)
    refine Zm (σ:=Nat) (fun k=>[(0,pt bp 0),(4,pt b 0),(28,iv d),(5,iv d),(31,iv k)]) (fun k=>Xs bp ba m::jC b bp ⟨Zjw m.b d k,false⟩::L) (fun k=>k≤2) (fun k=>2-k) 0 uS (Z15 _) (by omega) ?_
    intro k k1
    by_cases hk:k<2
    ·have kr:=Zmm T E bp ba m ((2*(d:Int)+(k:Int))*18) 18 (jC b bp ⟨Zjw m.b d k,false⟩::L) (hG.cons _) hl
     rw[Z1f m d k hd hk (by omega) h2]at kr
     have kh:∀L,HC prog 177 [iv k,bs (Y9 m.b (2*d+k))] L (fun v L'=>v=.agg ⟨Z13 (Yy k (Y9 m.b (2*d+k)))⟩∧L'=L):=fun L=>Zvv _ _ L (Zce _ _ (by omega) (by omega))
     have g1:=Zsv (bp:=bp) (j:=⟨Zjw m.b d k,false⟩) (lAt_get m.b d k)
     have p1:=jputs (bp:=bp) (j:=⟨Zjw m.b d k,false⟩) (d:=d) (Yy k (Y9 m.b (2*d+k))) (by simp[lAt_len m.b d k (by omega)];omega)
     repeat' (first|refine uN ?_|refine uC (kr) ?_|refine uC (kh _) ?_|refine uD (fun _=>kh _) ?_|(refine uB ?_;intro b)|refine dg S 100 (fun _ _=>?_)|(refine uP ?_ ?_<;>intro h<;>try exact zx)|refine uM ?_|fail)
     ·refine Zn (k+1) uS ?_ (by omega) (by omega)
      rw[← lAt_upd _ _ _ h]
      exact(Z15 _).cons _
     ·refine Zn (k+1) uS ?_ (by omega) (by omega)
      rw[← lAt_same _ _ _ h]
      exact(Z15 _).cons _
    ·rw[show k=2 by omega]
     repeat' (first|refine uN ?_|(refine uB ?_;intro b)|refine dg S 100 (fun _ _=>?_)|(refine uP ?_ ?_<;>intro h<;>try exact zx)|refine uM ?_|fail)
     refine Zn (d+1) uS ?_ (by omega) (by omega)
     rw[lO_next _ _ hd]
     exact Z15 _
   ·rw[show d=6 by omega]
    repeat' (first|refine uN ?_|(refine uB ?_;intro b)|refine dg S 100 (fun _ _=>?_)|(refine uP ?_ ?_<;>intro h<;>try exact zx)|refine uM ?_|fail)
    refine U3 (L':=jC b bp ⟨Zq m.b,false⟩::Xs bp ba m::L) ?_ ⟨b,rfl,rfl⟩
    rw[show lO m.b 6=Zq m.b from rfl]
    exact LS.of_perm (by simp only[Z17,← Z18];exact(List.perm_append_comm.append_right _))
end
structure PlOk(m:Pl):Prop where
 len:m.b.length≤1000000
 lo:-1≤m.cut
 hi:m.cut≤9223372036854775807
theorem Zf5{m:Pl}{a n:Int}(h:Wq m a n=none):0≤a∧0≤n∧a+n≤m.b.length∧m.off=false:=by
 unfold Wq at h
 split at h
 ·cases h
 ·split at h
  ·cases h
  ·exact⟨by omega,by omega,by omega,by simp_all⟩
theorem Zxu(m:Pl)(a:Int)(s:List UInt8):(Z5 m a s).1.b.length=m.b.length:=by
 unfold Z5
 cases h:Wq m a s.length with
 | some e=>rfl
 | none=>
  obtain⟨h1,h2,h3,h4⟩:=Zf5 h
  exact Zmz (by simp;omega)
theorem Zio{m:Pl}(h:PlOk m)(a:Int)(s:List UInt8):PlOk (Z5 m a s).1:=by
 refine⟨by rw[Zxu];exact h.len,?_,?_⟩
 all_goals
  have h1:=h.lo
  have h2:=h.hi
  unfold Z5
  cases hm:Wq m a s.length with
  | some e=>assumption
  | none=>
   simp only[Zck]
   split
   ·omega
   ·have:kM m s.length≤m.cut.toNat:=by unfold kM;rw[Z16 (by assumption)];omega
    omega
def Qh(deal:Int)(e:Ent):Int:=(2*deal+e.n % 2)*18
def Zb6(m:Pl)(deal:Int)(e:Ent):Pl × Option Nat:=match (Qo m (Qh deal e+18-1) 1).2 with
 | some x=>(m,some x)
 | none=>if (Qo m (Qh deal e+18-1) 1).1=[0] then (m,none) else Z5 m (Qh deal e+18-1) [0]
def Zbi(m:Pl)(deal:Int)(e:Ent):Pl × Option Nat:=match (Zb6 m deal e).2 with
 | some x=>((Zb6 m deal e).1,some x)
 | none=>Z5 (Zb6 m deal e).1 (Qh deal e) (Yu e)
def Zaw(m:Pl)(deal:Int)(e:Ent):Pl × Option Nat:=match (Zbi m deal e).2 with
 | some x=>((Zbi m deal e).1,some x)
 | none=>Z5 (Zbi m deal e).1 (Qh deal e+18-1) Y5
theorem Zqc{m:Pl}(h:PlOk m)(deal:Int)(e:Ent):PlOk (Zb6 m deal e).1:=by
 unfold Zb6
 split
 ·exact h
 ·split
  ·exact h
  ·exact Zio h _ _
theorem Zqd{m:Pl}(h:PlOk m)(deal:Int)(e:Ent):PlOk (Zbi m deal e).1:=by
 unfold Zbi
 split
 ·exact Zqc h _ _
 ·exact Zio (Zqc h _ _) _ _
theorem jwM_ok{m:Pl}(h:PlOk m)(deal:Int)(e:Ent):PlOk (Zaw m deal e).1:=by
 unfold Zaw
 split
 ·exact Zqd h _ _
 ·exact Zio (Zqd h _ _) _ _
theorem Zat(e:Ent):(Yu e).length=17:=by simp[Yu,head,Zy]
theorem j0(bp:Nat)(j:Jn):(Yl bp j)[0+0]?=some (pt bp 0):=rfl
section
attribute [local irreducible] Yl Xs
theorem Zqe(T:Nat)(E:Nat→Addr)(bj bp ba:Nat)(m:Pl)(j:Jn)(deal:Int)(e:Ent)(L:Za)(hG:Er T E [2,6] L)(hm:PlOk m)(hd:0≤deal∧deal<6)(he:0≤e.n∧e.n≤4294967296):
  HC prog 255 [pt bj 0,iv deal,.agg ⟨Z13 e⟩] (Xs bp ba m::jC bj bp j::L) (fun v L'=>v=eV T E (Zaw m deal e).2∧L'=Xs bp ba (Zaw m deal e).1::jC bj bp j::L):=by
 have k1:∀L,Er T E [2,6] L→HC prog 176 [pt bp 0,iv ((2*deal+e.n % 2)*18+18-1),iv 1] (Xs bp ba m::L) (fun v L'=>v=.tuple ⟨[bs (Qo m (Qh deal e+18-1) 1).1,eV T E (Qo m (Qh deal e+18-1) 1).2]⟩∧L'=Xs bp ba m::L):=fun L hg=>Zmm T E bp ba m (Qh deal e+18-1) 1 L hg hm.len
 have g0:=j0 bp j
 have kb:∀L,HC prog 252 [.agg ⟨Z13 e⟩] L (fun v L'=>v=bs (Yu e)∧L'=L):=fun L=>Zk2 e L
 have lb:=Zat e
 have o1:=Zqc hm deal e
 have o2:=Zqd hm deal e
 have w1:∀L,Er T E [2,6] L→HC prog 287 [pt bp 0,iv ((2*deal+e.n % 2)*18+18-1),bs [0]] (Xs bp ba m::L) (fun v L'=>v=eV T E (Z5 m (Qh deal e+18-1) [0]).2∧L'=Xs bp ba (Z5 m (Qh deal e+18-1) [0]).1::L):=fun L hg=>Zee T E bp ba m (Qh deal e+18-1) [0] L hg hm.len (by simp) ⟨hm.lo,hm.hi⟩
 have w2:∀L,Er T E [2,6] L→HC prog 287 [pt bp 0,iv ((2*deal+e.n % 2)*18),bs (Yu e)] (Xs bp ba (Zb6 m deal e).1::L) (fun v L'=>v=eV T E (Z5 (Zb6 m deal e).1 (Qh deal e) (Yu e)).2∧L'=Xs bp ba (Z5 (Zb6 m deal e).1 (Qh deal e) (Yu e)).1::L):=fun L hg=>Zee T E bp ba (Zb6 m deal e).1 (Qh deal e) (Yu e) L hg o1.len (by omega) ⟨o1.lo,o1.hi⟩
 have w3:∀L,Er T E [2,6] L→HC prog 287 [pt bp 0,iv ((2*deal+e.n % 2)*18+18-1),bs [165]] (Xs bp ba (Zbi m deal e).1::L) (fun v L'=>v=eV T E (Z5 (Zbi m deal e).1 (Qh deal e+18-1) [165]).2∧L'=Xs bp ba (Z5 (Zbi m deal e).1 (Qh deal e+18-1) [165]).1::L):=fun L hg=>Zee T E bp ba (Zbi m deal e).1 (Qh deal e+18-1) Y5 L hg o2.len (by simp[Y5]) ⟨o2.lo,o2.hi⟩
 refine uE func255 ntmps255 ?_
 repeat' (first|refine uN ?_|(refine uB ?_;intro b)|(refine uP ?_ ?_<;>intro h<;>try exact zx)|refine uM ?_|fail)
 refine fo 1 ?_
 have fin:∀(b:Nat) (o:Obj) (m':Pl),LS (Xs bp ba m'::jC bj bp j::L).flatten (Xs bp ba m'::[(b,o)]::jC bj bp j::L).flatten:=fun b o m'=>LS.boths _ (LS.skip _ (LS.refl _))
 cases h1:(Qo m (Qh deal e+18-1) 1).2 with
 | some x=>
  have e1:Zaw m deal e=(m,some x):=by simp[Zaw,Zbi,Zb6,h1]
  rw[h1]at k1
  refine gc (k1 _ ((hG.cons _).cons _)) ?_
  rintro v L' ⟨rfl,rfl⟩
  repeat' (first|refine uN ?_|(refine uB ?_;intro b)|(refine uP ?_ ?_<;>intro h<;>try exact zx)|refine uM ?_|fail)
  rw[e1]
  exact Z3 (fin _ _ _) ⟨rfl,rfl⟩
 | none=>
  rw[h1]at k1
  refine gc (k1 _ ((hG.cons _).cons _)) ?_
  rintro v L' ⟨rfl,rfl⟩
  by_cases h0:(Qo m (Qh deal e+18-1) 1).1=[0]
  ·have e1:Zb6 m deal e=(m,none):=by simp[Zb6,h1,h0]
   rw[e1]at w2
   repeat' (first|refine uN ?_|refine uC (kb _) ?_|refine uD (fun _=>kb _) ?_|(refine uB ?_;intro b)|(refine uP ?_ ?_<;>intro h<;>try exact zx)|refine uG ?_|fail)
   all_goals try exact absurd h0 h
   refine gc (w2 _ ((hG.cons _).cons _)) ?_
   rintro v L' ⟨rfl,rfl⟩
   have e2:Zbi m deal e=Z5 m (Qh deal e) (Yu e):=by simp[Zbi,e1]
   rw[← e2]
   cases h2:(Zbi m deal e).2 with
   | some x=>
    have e3:Zaw m deal e=((Zbi m deal e).1,some x):=by simp[Zaw,h2]
    repeat' (first|refine uN ?_|refine uC (kb _) ?_|refine uD (fun _=>kb _) ?_|(refine uB ?_;intro b)|(refine uP ?_ ?_<;>intro h<;>try exact zx)|refine uG ?_|fail)
    rw[e3]
    exact Z3 (fin _ _ _) ⟨rfl,rfl⟩
   | none=>
    have e3:Zaw m deal e=Z5 (Zbi m deal e).1 (Qh deal e+18-1) [165]:=by simp[Zaw,h2,Y5]
    rw[← e3]at w3
    repeat' (first|refine uN ?_|refine uC (kb _) ?_|refine uD (fun _=>kb _) ?_|(refine uB ?_;intro b)|(refine uP ?_ ?_<;>intro h<;>try exact zx)|refine uG ?_|fail)
    refine gc (w3 _ ((hG.cons _).cons _)) ?_
    rintro v L' ⟨rfl,rfl⟩
    repeat' (first|refine uN ?_|refine uC (kb _) ?_|refine uD (fun _=>kb _) ?_|(refine uB ?_;intro b)|(refine uP ?_ ?_<;>intro h<;>try exact zx)|refine uG ?_|fail)
    exact Z3 (fin _ _ _) ⟨rfl,rfl⟩
  ·have e1:Zb6 m deal e=Z5 m (Qh deal e+18-1) [0]:=by simp[Zb6,h1,h0]
   rw[← e1]at w1
   repeat' (first|refine uN ?_|refine uC (kb _) ?_|refine uD (fun _=>kb _) ?_|(refine uB ?_;intro b)|(refine uP ?_ ?_<;>intro h<;>try exact zx)|refine uG ?_|fail)
   all_goals try exact absurd h h0
   refine gc (w1 _ ((hG.cons _).cons _)) ?_
   rintro v L' ⟨rfl,rfl⟩
   cases h4:(Zb6 m deal e).2 with
   | some x=>
    have e3:Zaw m deal e=((Zb6 m deal e).1,some x):=by simp[Zaw,Zbi,h4]
    repeat' (first|refine uN ?_|refine uC (kb _) ?_|refine uD (fun _=>kb _) ?_|(refine uB ?_;intro b)|(refine uP ?_ ?_<;>intro h<;>try exact zx)|refine uG ?_|fail)
    rw[e3]
    exact Z3 (fin _ _ _) ⟨rfl,rfl⟩
   | none=>
    have e2:Zbi m deal e=Z5 (Zb6 m deal e).1 (Qh deal e) (Yu e):=by simp[Zbi,h4]
    rw[← e2]at w2
    repeat' (first|refine uN ?_|refine uC (kb _) ?_|refine uD (fun _=>kb _) ?_|(refine uB ?_;intro b)|(refine uP ?_ ?_<;>intro h<;>try exact zx)|refine uG ?_|fail)
    refine gc (w2 _ ((hG.cons _).cons _)) ?_
    rintro v L' ⟨rfl,rfl⟩
    cases h2:(Zbi m deal e).2 with
    | some x=>
     have e3:Zaw m deal e=((Zbi m deal e).1,some x):=by simp[Zaw,h2]
     repeat' (first|refine uN ?_|refine uC (kb _) ?_|refine uD (fun _=>kb _) ?_|(refine uB ?_;intro b)|(refine uP ?_ ?_<;>intro h<;>try exact zx)|refine uG ?_|fail)
     rw[e3]
     exact Z3 (fin _ _ _) ⟨rfl,rfl⟩
    | none=>
     have e3:Zaw m deal e=Z5 (Zbi m deal e).1 (Qh deal e+18-1) [165]:=by simp[Zaw,h2,Y5]
     rw[← e3]at w3
     repeat' (first|refine uN ?_|refine uC (kb _) ?_|refine uD (fun _=>kb _) ?_|(refine uB ?_;intro b)|(refine uP ?_ ?_<;>intro h<;>try exact zx)|refine uG ?_|fail)
     refine gc (w3 _ ((hG.cons _).cons _)) ?_
     rintro v L' ⟨rfl,rfl⟩
     repeat' (first|refine uN ?_|refine uC (kb _) ?_|refine uD (fun _=>kb _) ?_|(refine uB ?_;intro b)|(refine uP ?_ ?_<;>intro h<;>try exact zx)|refine uG ?_|fail)
     exact Z3 (fin _ _ _) ⟨rfl,rfl⟩
end
def Uq(deal:Int)(s:St):Prop:=deal<0∨6≤deal∨s.ph<0∨255<s.ph∨s.pr<0∨s.att<0∨1048576<max s.pr s.att
instance(deal:Int)(s:St):Decidable (Uq deal s):=by unfold Uq;infer_instance
instance:DecidableEq St:=fun a b=>decidable_of_iff (a.ph=b.ph∧a.pr=b.pr∧a.att=b.att) (by
 obtain⟨a1,a2,a3⟩:=a
 obtain⟨b1,b2,b3⟩:=b
 simp)
theorem St.ext3{a b:St}(h:a.ph=b.ph∧a.pr=b.pr∧a.att=b.att):a=b:=by
 obtain⟨a1,a2,a3⟩:=a
 obtain⟨b1,b2,b3⟩:=b
 simp_all
def X2(m:Pl)(j:Jn)(deal:Int)(s:St):Pl × Jn × Option Nat:=
 if j.dead=true then (m,j,some 6) else if Uq deal s then (m,j,some 2) else
 if (j.l.getD deal.toNat Zl).s=s then (m,j,none) else
 if 4294967296≤(j.l.getD deal.toNat Zl).n+1 then (m,j,some 5) else
 match (Zaw m deal ⟨(j.l.getD deal.toNat Zl).n+1,s⟩).2 with
 | some x=>((Zaw m deal ⟨(j.l.getD deal.toNat Zl).n+1,s⟩).1,⟨j.l,true⟩,some x)
 | none=>((Zaw m deal ⟨(j.l.getD deal.toNat Zl).n+1,s⟩).1,⟨j.l.set deal.toNat ⟨(j.l.getD deal.toNat Zl).n+1,s⟩,j.dead⟩,none)
structure JnOk(j:Jn):Prop where
 len:j.l.length=6
 n0:∀d,0≤(j.l.getD d Zl).n
 n1:∀d,(j.l.getD d Zl).n≤4294967296
section
attribute [local irreducible] Yl Xs
theorem Z07(T:Nat)(E:Nat→Addr)(bj bp ba:Nat)(m:Pl)(j:Jn)(deal:Int)(s:St)(L:Za)(hG:Er T E [2,5,6] L)(hm:PlOk m)(hj:JnOk j):
  HC prog 184 [pt bj 0,iv deal,.agg ⟨sc s⟩] (Xs bp ba m::jC bj bp j::L) (fun v L'=>v=eV T E (X2 m j deal s).2.2∧L'=Xs bp ba (X2 m j deal s).1::jC bj bp (X2 m j deal s).2.1::L):=by
 have gd:=jdead (bp:=bp) hj.len
 by_cases h1:j.dead=true
 ·rw[h1]at gd
  rw[show X2 m j deal s=(m,j,some 6) from Z2d h1]
  refine uE func184 ntmps184 ?_
  repeat' (first|refine uN ?_|(refine uB ?_;intro b)|refine dg S 100 (fun _ _=>?_)|(refine uP ?_ ?_<;>intro h<;>try exact zx)|refine uG ?_|fail)
  exact Z3 (LS.skip _ (LS.refl _)) ⟨rfl,rfl⟩
 by_cases h2:Uq deal s
 ·rw[show j.dead=false by simpa using h1]at gd
  rw[show X2 m j deal s=(m,j,some 2) by unfold X2;rw[Z16 h1,Z2d h2]]
  unfold Uq at h2
  refine uE func184 ntmps184 ?_
  repeat' (first|refine uN ?_|(refine uB ?_;intro b)|refine dg S 100 (fun _ _=>?_)|(refine uP ?_ ?_<;>intro h<;>try exact zx)|refine uG ?_|fail)
  all_goals exact Z3 (LS.skip _ (LS.refl _)) ⟨rfl,rfl⟩
 rw[show j.dead=false by simpa using h1]at gd
 have hb:=h2
 unfold Uq at hb
 obtain⟨d,rfl⟩:=Z2t (show 0≤deal by omega)
 have hd:d<6:=by omega
 have hlen:=hj.len
 have n0:=hj.n0 d
 have n1:=hj.n1 d
 have hp:X2 m j d s=if (j.l.getD d Zl).s=s then (m,j,none) else if 4294967296≤(j.l.getD d Zl).n+1 then (m,j,some 5) else
   match (Zaw m d ⟨(j.l.getD d Zl).n+1,s⟩).2 with
   | some x=>((Zaw m d ⟨(j.l.getD d Zl).n+1,s⟩).1,⟨j.l,true⟩,some x)
   | none=>((Zaw m d ⟨(j.l.getD d Zl).n+1,s⟩).1,⟨j.l.set d ⟨(j.l.getD d Zl).n+1,s⟩,j.dead⟩,none):=by
  unfold X2;rw[Z16 h1,Z16 h2];rfl
 have he:j.l[d]?=some (j.l.getD d Zl):=by
  rw[List.getD,Z2c (by omega)];rfl
 have g1:=Zsv (bp:=bp) he
 have g2:=Zv0 (bp:=bp) he
 have pD:=jputsD (bp:=bp) hlen true
 have p1:=jputs (bp:=bp) (j:=j) (d:=d) ⟨(j.l.getD d Zl).n+1,s⟩ (by omega)
 have kw:=Zqe T E bj bp ba m j d ⟨(j.l.getD d Zl).n+1,s⟩
 generalize hE:j.l.getD d Zl=e at*
 clear hj h2 he hE
 by_cases h3:e.s=s
 ·rw[hp,Z2d h3]
  subst h3
  refine uE func184 ntmps184 ?_
  repeat' (first|refine uN ?_|(refine uB ?_;intro b)|refine dg S 100 (fun _ _=>?_)|(refine uP ?_ ?_<;>intro h<;>try exact zx)|refine uG ?_|fail)
  exact Z3 (LS.skip _ (LS.refl _)) ⟨rfl,rfl⟩
 have h3':¬ (e.s.ph=s.ph∧e.s.pr=s.pr∧e.s.att=s.att):=fun h=>h3 (St.ext3 h)
 by_cases h4:4294967296≤e.n+1
 ·rw[hp,Z16 h3,Z2d h4]
  refine uE func184 ntmps184 ?_
  repeat' (first|refine uN ?_|(refine uB ?_;intro b)|refine dg S 100 (fun _ _=>?_)|(refine uP ?_ ?_<;>intro h<;>try exact zx)|refine uG ?_|fail)
  exact Z3 (LS.skip _ (LS.skip _ (LS.refl _))) ⟨rfl,rfl⟩
 ·rw[hp,Z16 h3,Z16 h4]
  have fin:∀(b b':Nat) (o o':Obj) (m':Pl) (c:List Zp),LS (Xs bp ba m'::c::L).flatten (Xs bp ba m'::c::[(b,o)]::[(b',o')]::L).flatten:=fun b b' o o' m' c=>LS.boths _ (LS.boths _ (LS.skip _ (LS.skip _ (LS.refl _))))
  refine uE func184 ntmps184 ?_
  repeat' (first|refine uN ?_|(refine uB ?_;intro b)|refine dg S 100 (fun _ _=>?_)|(refine uP ?_ ?_<;>intro h<;>try exact zx)|refine uG ?_|fail)
  refine fo 3 ?_
  refine fo 3 ?_
  refine gc (kw _ ((hG.cons _).cons _).sub hm (by omega) (by simp only;omega)) ?_
  rintro v L' ⟨rfl,rfl⟩
  cases h5:(Zaw m d ⟨e.n+1,s⟩).2 with
  | some x=>
   repeat' (first|refine uN ?_|(refine uB ?_;intro b)|refine dg S 100 (fun _ _=>?_)|(refine uP ?_ ?_<;>intro h<;>try exact zx)|refine uG ?_|fail)
   exact Z3 (fin _ _ _ _ _ _) ⟨rfl,rfl⟩
  | none=>
   repeat' (first|refine uN ?_|(refine uB ?_;intro b)|refine dg S 100 (fun _ _=>?_)|(refine uP ?_ ?_<;>intro h<;>try exact zx)|refine uG ?_|fail)
   exact Z3 (fin _ _ _ _ _ _) ⟨rfl,rfl⟩
end
def V4(p:Int):Int:=if p=4 then 2 else if p=5 then 3 else 0
theorem Uz(p:Int)(L:Za):HC prog 131 [iv p] L (fun v L'=>v=iv (V4 p)∧L'=L):=by
 refine uE func131 ntmps131 ?_
 repeat' (first|refine uN ?_|(refine uP ?_ ?_<;>intro h<;>try exact zx)|fail)
 all_goals (refine Y1 rfl rfl ?_ ⟨?_,rfl⟩;(next=>(repeat (first|exact Z15 _|apply List.Sublist.cons))))
 all_goals simp[V4, *]
theorem Q0(p:Int)(L:Za):HC prog 197 [iv p] L (fun v L'=>v=iv (V4 p)∧L'=L):=by
 refine uE func197 ntmps197 ?_
 repeat' (first|refine uN ?_|(refine uP ?_ ?_<;>intro h<;>try exact zx)|fail)
 all_goals (refine Y1 rfl rfl ?_ ⟨?_,rfl⟩;(next=>(repeat (first|exact Z15 _|apply List.Sublist.cons))))
 all_goals simp[V4, *]
def mayS(a b:Int):Bool:=decide ((0≤a∧a≤5∧0≤b∧b≤5)∧(a=b∨a=0∨(a≠2∧a≠3∧b≠0∧(a=1∨b≠1))))
def Zch(xs:List St)(p:Int):Bool:=xs.any fun s=>decide (s.ph=p)
theorem Zxe(xs:List St)(s:St)(p:Int):Zch (xs++[s]) p=(Zch xs p || decide (s.ph=p)):=by simp[Zch]
theorem toldS_of{xs:List St}{p:Int}{j:Nat}(h:j<xs.length)(hp:(xs[j]).ph=p):Zch xs p=true:=by
 simp only[Zch,Z4l,Z3r]
 exact⟨xs[j],Z3c h,hp⟩
theorem Zxf(a:Option Addr)(cap:Nat)(xs:List St)(p:Int)(L:Za)(hR:Rd sc 3 L a xs)(hl:xs.length≤1000000):HC prog 260 [.slice a xs.length cap,iv p] L (fun v L'=>v=.bool (Zch xs p)∧L'=L):=by
 refine uE func260 ntmps260 ?_
 repeat' (first|refine uN ?_|(refine uP ?_ ?_<;>intro h<;>try exact zx)|fail)
 refine Zm (σ:=Int) (fun j=>[(0,.slice a xs.length cap),(1,iv p),(5,iv j)]) (fun _=>L) (fun j=>0≤j∧j≤xs.length∧Zch (xs.take j.toNat) p=false) (fun j=>(xs.length-j).toNat) 0 uS (Z15 _) ⟨by omega,by omega,by simp[Zch]⟩ ?_
 rintro j ⟨h0,h1,h2⟩
 by_cases hlt:j<xs.length
 ·obtain⟨b,i,l,E,fr,rfl,hb,hg⟩:=hR.at h0 hlt
  repeat' (first|refine uN ?_|(refine uP ?_ ?_<;>intro h<;>try exact zx)|fail)
  ·(refine Y1 rfl rfl ?_ ⟨?_,rfl⟩;(next=>(repeat (first|exact Z15 _|apply List.Sublist.cons))))
   rw[toldS_of _ h]
  ·exact Zn (j+1) uS (Z15 _) ⟨by omega,by omega,by rw[U4 h0 hlt,Zxe,h2];simp[h]⟩ (by omega)
 ·repeat' (first|refine uN ?_|(refine uP ?_ ?_<;>intro h<;>try exact zx)|fail)
  (refine Y1 rfl rfl ?_ ⟨?_,rfl⟩;(next=>(repeat (first|exact Z15 _|apply List.Sublist.cons))))
  rw[Zad hlt]at h2
  rw[h2]
def prep(s:St):Bool:=decide (s.ph=4∨s.ph=5)
def U0:List St→Int→Bool→Int × Bool
 | [],b,first=>(b,first)
 | s::r,b,first=>if prep s then (if first || decide (b<s.att) then U0 r s.att false else U0 r b false) else U0 r b first
theorem U7(r:List St):∀(l:List St) (b:Int) (f:Bool),U0 (l++r) b f=U0 r (U0 l b f).1 (U0 l b f).2
 | [],b,f=>rfl
 | s::l,b,f=>by
  simp only[Z19,U0]
  split
  ·split
   ·exact U7 r l _ _
   ·exact U7 r l _ _
  ·exact U7 r l _ _
def Yc(xs:List St):Int × Bool:=
 if Zch xs 2 then (2,true) else if Zch xs 3 then (3,true) else
 if xs.any (fun s=>decide (s.ph=4∧s.att=(U0 xs 0 true).1)) then (4,false) else (5,false)
theorem Zdq(a:Option Addr)(cap:Nat)(xs:List St)(L:Za)(hR:Rd sc 3 L a xs)(hl:xs.length≤1000000):HC prog 198 [.slice a xs.length cap] L (fun v L'=>v=.tuple ⟨[iv (Yc xs).1,.bool (Yc xs).2]⟩∧L'=L):=by
 refine uE func198 ntmps198 ?_
 repeat' (first|refine uN ?_|refine uC (Zxf _ _ _ _ _ hR hl) ?_|(refine uP ?_ ?_<;>intro h<;>try exact zx)|fail)
 ·(refine Wl rfl rfl rfl ?_ ⟨?_,rfl⟩;(next=>(repeat (first|exact Z15 _|apply List.Sublist.cons))))
  simp[Yc,h]
 ·(refine Wl rfl rfl rfl ?_ ⟨?_,rfl⟩;(next=>(repeat (first|exact Z15 _|apply List.Sublist.cons))))
  rename_i h2
  simp[Yc,h,h2]
 refine Zm (σ:=Int × Int × Bool) (fun s=>[(0,.slice a xs.length cap),(4,.bool s.2.2),(5,iv s.2.1),(6,iv s.1)]) (fun _=>L) (fun s=>0≤s.1∧s.1≤xs.length∧U0 (xs.take s.1.toNat) 0 true=(s.2.1,s.2.2)) (fun s=>(xs.length-s.1).toNat) (0,0,true) uS (Z15 _) ⟨by simp,by simp,by simp[U0]⟩ ?_
 rintro⟨j,qb,qf⟩ ⟨h0,h1,hq⟩
 simp only at h0 h1 hq
 by_cases hlt:j<xs.length
 ·obtain⟨b,i,l,E,fr,rfl,hb,hg⟩:=hR.at h0 hlt
  have e:=U7 [xs[j.toNat]'(by omega)] (xs.take j.toNat) 0 true
  rw[← U4 h0 hlt,hq]at e
  clear hq
  repeat' (first|refine uN ?_|(refine uP ?_ ?_<;>intro h<;>try exact zx)|fail)
  all_goals (refine Zn (j+1,_,_) uS (Z15 _) ⟨by show 0≤j+1;omega,by show j+1≤(xs.length:Int);omega,?_⟩ (by show (xs.length-(j+1)).toNat<(xs.length-j).toNat;omega);show U0 (List.take (j+1).toNat xs) 0 true=_;rw[e];simp[U0,prep, *])
 ·rw [Zad hlt]at hq
  repeat' (first|refine uN ?_|(refine uP ?_ ?_<;>intro h<;>try exact zx)|fail)
  refine Zm (σ:=Int) (fun j=>[(0,.slice a xs.length cap),(5,iv qb),(7,iv j)]) (fun _=>L) (fun j=>0≤j∧j≤xs.length∧(xs.take j.toNat).any (fun s=>decide (s.ph=4∧s.att=qb))=false) (fun j=>(xs.length-j).toNat) 0 uS (Z15 _) ⟨by omega,by omega,by simp⟩ ?_
  rintro i ⟨i0,i1,hi⟩
  by_cases hlt2:i<xs.length
  ·obtain⟨b,i',l,E,fr,rfl,hb,hg⟩:=hR.at i0 hlt2
   have e:=U4 i0 hlt2
   repeat' (first|refine uN ?_|(refine uP ?_ ?_<;>intro h<;>try exact zx)|fail)
   ·(refine Wl rfl rfl rfl ?_ ⟨?_,rfl⟩;(next=>(repeat (first|exact Z15 _|apply List.Sublist.cons))))
    rename_i hp
    have:xs.any (fun s=>decide (s.ph=4∧s.att=qb))=true:=by
     simp only[Z4l,Z3r]
     exact⟨xs[i.toNat]'(by omega),Z3c _,hp,h⟩
    have e2:Yc xs=(4,false):=by
     unfold Yc
     rw[Z16 (by simp[*]),Z16 (by simp[*])]
     simp only[hq]
     rw[Z2d this]
    rw[e2]
   ·rename_i hp
    exact Zn (i+1) uS (Z15 _) ⟨by omega,by omega,by rw[e,Z65,hi];simp[h]⟩ (by omega)
   ·exact Zn (i+1) uS (Z15 _) ⟨by omega,by omega,by rw[e,Z65,hi];simp[h]⟩ (by omega)
  ·repeat' (first|refine uN ?_|(refine uP ?_ ?_<;>intro h<;>try exact zx)|fail)
   (refine Wl rfl rfl rfl ?_ ⟨?_,rfl⟩;(next=>(repeat (first|exact Z15 _|apply List.Sublist.cons))))
   rw[Zad hlt2]at hi
   have e2:Yc xs=(5,false):=by
    unfold Yc
    rw[Z16 (by simp[*]),Z16 (by simp[*])]
    simp only[hq]
    rw[Z16 (by rw[hi];simp)]
   rw[e2]
def Wc(f:Fr):Prop:=f.fr<0∨6<f.fr∨f.to<0∨6<f.to∨f.dl<0∨5<f.dl∨f.kd<1∨7<f.kd∨f.att<0∨1048576<f.att∨f.s.pr<0∨1048576<f.s.pr∨f.s.att<0∨1048576<f.s.att∨f.s.ph<0∨5<f.s.ph
instance(f:Fr):Decidable (Wc f):=by unfold Wc;infer_instance
def Zfz(f:Fr):Option Nat:=if Wc f then some 2 else none
theorem Zhq(T:Nat)(E:Nat→Addr)(f:Fr)(L:Za)(hG:Er T E [2] L):HC prog 182 [.agg ⟨fc f⟩] L (fun v L'=>v=eV T E (Zfz f)∧L'=L):=by
 unfold Zfz
 refine uE func182 ntmps182 ?_
 repeat' (first|refine uN ?_|(refine uB ?_;intro b)|(refine uP ?_ ?_<;>intro h<;>try exact zx)|fail)
 refine Z0d 8 ?_
 repeat' (first|refine uN ?_|(refine uB ?_;intro b)|(refine uP ?_ ?_<;>intro h<;>try exact zx)|fail)
 all_goals first
  | (exact Z3 uZ ⟨by rw[Z2d (by unfold Wc;omega)],rfl⟩;done)
  | (exact Z3 uZ ⟨by rw[Z16 (by unfold Wc;omega)],rfl⟩;done)
def Zjz(sp bj mb:Nat)(id:Int):List Zp:=[(sp,.cells ⟨[pt bj 0,iv id,.map (some mb)]⟩ 187)]
def Zkd(mb:Nat)(es:List MapEntry)(ck:Nat):List Zp:=[(mb,.map ⟨es⟩ ck)]
def Zi6(st:St):Bool:=decide (st.ph≠2∧st.ph≠3)
def askM(ref:Int→Bool)(f:Fr)(st:St):St:=if st.ph=0 then (if ref f.dl then { st with ph:=3 } else { st with ph:=1 }) else st
def Xg(ref:Int→Bool)(f:Fr)(st:St):St × Int × Bool:=
 if f.kd=1 then (askM ref f st,2,decide ((askM ref f st).ph≠3)) else
 if f.kd=3 then ({ st with pr:=max st.pr f.att },4,decide (st.pr<f.att)) else
 if f.kd=5 then (if V4 f.s.ph=0 then (st,0,false) else if Zi6 st=true∧st.pr≤f.att then (⟨f.s.ph,f.att,f.att⟩,6,true) else (st,6,false)) else
 if f.kd=7 then (if Zi6 st=true∧(f.s.ph=2∨f.s.ph=3) then { st with ph:=f.s.ph } else st,0,false) else (st,0,false)
theorem Zxg(sp bj mb:Nat)(id:Int)(es:List MapEntry)(ck:Nat)(ref:Int→Bool)(f:Fr)(st:St)(L:Za)(hF:Xy iv es ref):
  HC prog 183 [pt sp 0,.agg ⟨fc f⟩,.agg ⟨sc st⟩] (Zjz sp bj mb id::Zkd mb es ck::L) (fun v L'=>v=.tuple ⟨[.agg ⟨sc (Xg ref f st).1⟩,iv (Xg ref f st).2.1,.bool (Xg ref f st).2.2]⟩∧L'=Zjz sp bj mb id::Zkd mb es ck::L):=by
 unfold Xg
 have hop:∀b,Zi6 st=b→(b=true↔st.ph≠2∧st.ph≠3):=fun b h=>by rw[← h];simp[Zi6]
 generalize Zi6 st=op at*
 replace hop:=hop op rfl
 by_cases k1:f.kd=1
 ·rw[Z2d k1]
  unfold askM
  refine uE func183 ntmps183 ?_
  repeat' (first|refine uN ?_|(refine uB ?_;intro b)|(refine uP ?_ ?_<;>intro h<;>try exact zx)|refine uM ?_|fail)
  all_goals refine sp3 (LS.skip _ (LS.skip _ (LS.skip _ (LS.refl _)))) ⟨?_,rfl⟩ (hx:=Xj S (hg:=Zc rfl (Zc rfl (Zc rfl Z6))))
  all_goals simp[sc, *]
 rw[Z16 k1]
 by_cases k3:f.kd=3
 ·rw[Z2d k3]
  refine uE func183 ntmps183 ?_
  repeat' (first|refine uN ?_|(refine uB ?_;intro b)|(refine uP ?_ ?_<;>intro h<;>try exact zx)|refine uM ?_|fail)
  all_goals refine sp3 (LS.skip _ (LS.skip _ (LS.skip _ (LS.refl _)))) ⟨?_,rfl⟩ (hx:=Xj S (hg:=Zc rfl (Zc rfl (Zc rfl Z6))))
  all_goals simp[sc, *]
 rw[Z16 k3]
 by_cases k5:f.kd=5
 ·rw[Z2d k5]
  by_cases ha:V4 f.s.ph=0
  ·rw[Z2d ha]
   refine uE func183 ntmps183 ?_
   repeat' (first|refine uN ?_|refine uC (Uz _ _) ?_|refine uD (fun _=>Uz _ _) ?_|(refine uB ?_;intro b)|(refine uP ?_ ?_<;>intro h<;>try exact zx)|refine uM ?_|fail)
   all_goals refine sp3 (LS.skip _ (LS.skip _ (LS.skip _ (LS.refl _)))) ⟨?_,rfl⟩ (hx:=Xj S (hg:=Zc rfl (Zc rfl (Zc rfl Z6))))
   all_goals simp[sc]
  ·rw[Z16 ha]
   refine uE func183 ntmps183 ?_
   repeat' (first|refine uN ?_|refine uC (Uz _ _) ?_|refine uD (fun _=>Uz _ _) ?_|(refine uB ?_;intro b)|(refine uP ?_ ?_<;>intro h<;>try exact zx)|refine uM ?_|fail)
   all_goals refine sp3 (LS.skip _ (LS.skip _ (LS.skip _ (LS.refl _)))) ⟨?_,rfl⟩ (hx:=Xj S (hg:=Zc rfl (Zc rfl (Zc rfl Z6))))
   all_goals simp[sc,hop, *]
 rw[Z16 k5]
 by_cases k7:f.kd=7
 ·rw[Z2d k7]
  refine uE func183 ntmps183 ?_
  repeat' (first|refine uN ?_|(refine uB ?_;intro b)|(refine uP ?_ ?_<;>intro h<;>try exact zx)|refine uM ?_|fail)
  all_goals refine sp3 (LS.skip _ (LS.skip _ (LS.skip _ (LS.refl _)))) ⟨?_,rfl⟩ (hx:=Xj S (hg:=Zc rfl (Zc rfl (Zc rfl Z6))))
  all_goals simp[sc,hop, *]
 rw[Z16 k7]
 refine uE func183 ntmps183 ?_
 repeat' (first|refine uN ?_|(refine uB ?_;intro b)|(refine uP ?_ ?_<;>intro h<;>try exact zx)|refine uM ?_|fail)
 all_goals refine sp3 (LS.skip _ (LS.skip _ (LS.skip _ (LS.refl _)))) ⟨?_,rfl⟩ (hx:=Xj S (hg:=Zc rfl (Zc rfl (Zc rfl Z6))))
 all_goals simp[sc]
def Zo8(id:Int)(m:Pl):Option Nat:=if id<0∨7≤id then some 2 else if m.b.length<216 then some 2 else if m.off then some 6 else none
section
attribute [local irreducible] Yl Xs
theorem Ziy(bj bp:Nat)(j:Jn)(d:Nat)(L:Za)(hb:Has L bj (.cells ⟨Yl bp j⟩ 261))(hl:j.l.length=6)(hd:d<6):HC prog 121 [pt bj 0,iv d] L (fun v L'=>v=.tuple ⟨[.agg ⟨sc (j.l.getD d Zl).s⟩,.nilIface]⟩∧L'=L):=by
 refine hcHas (fun L=>?_) hb
 have he:j.l[d]?=some (j.l.getD d Zl):=by
  rw[List.getD,Z2c (by omega)];rfl
 have g1:=Zsv (bp:=bp) he
 have g2:=Zv0 (bp:=bp) he
 refine uE func121 ntmps121 ?_
 repeat' (first|refine uN ?_|(refine uB ?_;intro b)|refine dg S 100 (fun _ _=>?_)|(refine uP ?_ ?_<;>intro h<;>try exact zx)|refine uM ?_|fail)
 exact U3 (LS.skip _ (LS.refl _)) ⟨rfl,rfl⟩ (hx:=Xj S (hg:=Zc rfl (Zc rfl (Zc rfl Z6))))
theorem Zmy(T:Nat)(E:Nat→Addr)(id:Int)(bp ba:Nat)(m:Pl)(L:Za)(hG:Er T E [2,3,6] L)(hm:m.b.length≤1000000):HC prog 65 [iv id,pt bp 0] (Xs bp ba m::L) (fun v L'=>match Zo8 id m with
  | some e=>v=.tuple ⟨[.pointer none,eV T E (some e)]⟩∧L'=Xs bp ba m::L
  | none=>∃sp bj mb,v=.tuple ⟨[pt sp 0,.nilIface]⟩∧L'=Zjz sp bj mb id::Zkd mb [] 0::Xs bp ba m::jC bj bp ⟨Zq m.b,false⟩::L):=by
 have ko:=Zl5 T E bp ba m L hG.sub hm
 have hG2:=hG.cons (Xs bp ba m)
 unfold Zo8
 by_cases h1:id<0∨7≤id
 ·rw[Z2d h1]
  refine uE func65 ntmps65 ?_
  repeat' (first|refine uN ?_|(refine uB ?_;intro b)|refine dg S 100 (fun _ _=>?_)|(refine uP ?_ ?_<;>intro h<;>try exact zx)|refine uG ?_|fail)
  all_goals exact U3 (LS.refl _) ⟨rfl,rfl⟩
 rw[Z16 h1]
 by_cases h2:m.b.length<216
 ·simp only[Z2d h2]at ko ⊢
  refine uE func65 ntmps65 ?_
  repeat' (first|refine uN ?_|(refine uB ?_;intro b)|refine dg S 100 (fun _ _=>?_)|(refine uP ?_ ?_<;>intro h<;>try exact zx)|refine uG ?_|fail)
  refine gc ko ?_
  rintro v L' ⟨rfl,rfl⟩
  repeat' (first|refine uN ?_|(refine uB ?_;intro b)|refine dg S 100 (fun _ _=>?_)|(refine uP ?_ ?_<;>intro h<;>try exact zx)|refine uG ?_|fail)
  exact U3 (LS.refl _) ⟨rfl,rfl⟩
 simp only[Z16 h2]at ko ⊢
 by_cases h3:m.off=true
 ·simp only[Z2d h3]at ko ⊢
  refine uE func65 ntmps65 ?_
  repeat' (first|refine uN ?_|(refine uB ?_;intro b)|refine dg S 100 (fun _ _=>?_)|(refine uP ?_ ?_<;>intro h<;>try exact zx)|refine uG ?_|fail)
  refine gc ko ?_
  rintro v L' ⟨rfl,rfl⟩
  repeat' (first|refine uN ?_|(refine uB ?_;intro b)|refine dg S 100 (fun _ _=>?_)|(refine uP ?_ ?_<;>intro h<;>try exact zx)|refine uG ?_|fail)
  exact U3 (LS.refl _) ⟨rfl,rfl⟩
 simp only[Z16 h3]at ko ⊢
 refine uE func65 ntmps65 ?_
 repeat' (first|refine uN ?_|(refine uB ?_;intro b)|refine dg S 100 (fun _ _=>?_)|(refine uP ?_ ?_<;>intro h<;>try exact zx)|refine uG ?_|fail)
 refine gc ko ?_
 rintro v L' ⟨bj,rfl,rfl⟩
 repeat' (first|refine uN ?_|(refine uB ?_;intro b)|refine dg S 100 (fun _ _=>?_)|(refine uP ?_ ?_<;>intro h<;>try exact zx)|refine uG ?_|fail)
 exact U3 uL ⟨_,_,_,rfl,rfl⟩
theorem Zqw(T:Nat)(E:Nat→Addr)(sp bj mb bp:Nat)(id:Int)(es:List MapEntry)(ck:Nat)(ref:Int→Bool)(j:Jn)(d:Int)(L:Za)(hG:Er T E [2] L)(hl:j.l.length=6)(hF:Xy iv es ref):
  HC prog 67 [pt sp 0,iv d] (Zjz sp bj mb id::Zkd mb es ck::jC bj bp j::L) (fun v L'=>if d<0∨6≤d then v=eV T E (some 2)∧L'=Zjz sp bj mb id::Zkd mb es ck::jC bj bp j::L
   else ∃es' ck',Xy iv es' (fun x=>if x=d then true else ref x)∧v=.nilIface∧L'=Zjz sp bj mb id::Zkd mb es' ck'::jC bj bp j::L):=by
 have kg:=fun L hG=>Zoe T E bj bp j d L hG hl
 by_cases h:d<0∨6≤d
 ·simp only[Z2d h]at kg ⊢
  refine uE func67 ntmps67 ?_
  repeat' (first|refine uN ?_|(refine uB ?_;intro b)|(refine uP ?_ ?_<;>intro h<;>try exact zx)|fail)
  refine fo 2 ?_
  refine gc (kg _ ((hG.cons _).cons _)) ?_
  rintro v L' ⟨rfl,rfl⟩
  repeat' (first|refine uN ?_|(refine uB ?_;intro b)|(refine uP ?_ ?_<;>intro h<;>try exact zx)|fail)
  exact Z3 uL ⟨rfl,rfl⟩
 ·simp only[Z16 h]at kg ⊢
  refine uE func67 ntmps67 ?_
  repeat' (first|refine uN ?_|(refine uB ?_;intro b)|(refine uP ?_ ?_<;>intro h<;>try exact zx)|fail)
  refine fo 2 ?_
  refine gc (kg _ ((hG.cons _).cons _)) ?_
  rintro v L' ⟨rfl,rfl⟩
  repeat' (first|refine uN ?_|(refine uB ?_;intro b)|(refine uP ?_ ?_<;>intro h<;>try exact zx)|fail)
  refine fo 3 ?_
  refine wmI S hF (fun es' ck' hF'=>?_)
  repeat' (first|refine uN ?_|(refine uB ?_;intro b)|(refine uP ?_ ?_<;>intro h<;>try exact zx)|fail)
  exact Z3 uL ⟨_,_,hF',rfl,rfl⟩
end
def Zu(id:Int)(ref:Int→Bool)(m:Pl)(j:Jn)(f:Fr):Pl × Jn × List Fr × Option Nat:=
 if Wc f then (m,j,[],some 2) else if f.to≠id then (m,j,[],some 3) else
 match (X2 m j f.dl (Xg ref f (j.l.getD f.dl.toNat Zl).s).1).2.2 with
 | some e=>((X2 m j f.dl (Xg ref f (j.l.getD f.dl.toNat Zl).s).1).1,(X2 m j f.dl (Xg ref f (j.l.getD f.dl.toNat Zl).s).1).2.1,[],some e)
 | none=>((X2 m j f.dl (Xg ref f (j.l.getD f.dl.toNat Zl).s).1).1,(X2 m j f.dl (Xg ref f (j.l.getD f.dl.toNat Zl).s).1).2.1,
  if (Xg ref f (j.l.getD f.dl.toNat Zl).s).2.1=0 then [] else [⟨id,f.fr,f.dl,(Xg ref f (j.l.getD f.dl.toNat Zl).s).2.1,f.att,(Xg ref f (j.l.getD f.dl.toNat Zl).s).2.2,(Xg ref f (j.l.getD f.dl.toNat Zl).s).1⟩],none)
theorem Zzg{α:Type}{E sz:Nat}{enc:α→List Value}{b:Nat}(x:α)(hsz:(enc x).length=sz):Vec E sz enc (sl b 0 1 1) [x] [(b,.cells ⟨enc x⟩ E)]:=
 .inr ⟨b,1,[],rfl,by simp,by simp[hsz],by simp,by simp[hsz]⟩
section
attribute [local irreducible] Yl Xs X2 Xg
theorem Zui(T:Nat)(E:Nat→Addr)(sp bj mb bp ba:Nat)(id:Int)(es:List MapEntry)(ck:Nat)(ref:Int→Bool)(m:Pl)(j:Jn)(f:Fr)(L:Za)(hG:Er T E [2,3,5,6] L)(hF:Xy iv es ref)(hm:PlOk m)(hj:JnOk j):
  HC prog 134 [pt sp 0,.agg ⟨fc f⟩] (Zjz sp bj mb id::Zkd mb es ck::Xs bp ba m::jC bj bp j::L) (fun v L'=>∃fv c,v=.tuple ⟨[fv,eV T E (Zu id ref m j f).2.2.2]⟩∧Z0 fv (Zu id ref m j f).2.2.1 c∧
   L'=Zjz sp bj mb id::Zkd mb es ck::Xs bp ba (Zu id ref m j f).1::jC bj bp (Zu id ref m j f).2.1::c::L):=by
 have hG4:=(((hG.cons (jC bj bp j)).cons (Xs bp ba m)).cons (Zkd mb es ck)).cons (Zjz sp bj mb id)
 have kc:=fun L hG=>Zhq T E f L hG
 unfold Zu Zfz at*
 by_cases hb:Wc f
 ·simp only[Z2d hb]at kc ⊢
  refine uE func134 ntmps134 ?_
  repeat' (first|refine uN ?_|refine uC (kc _ (hG4.sub.cons _)) ?_|refine uD (fun _=>kc _ (hG4.sub.cons _)) ?_|(refine uB ?_;intro b)|refine dg S 100 (fun _ _=>?_)|(refine uP ?_ ?_<;>intro h<;>try exact zx)|refine uM ?_|fail)
  exact U3 (L':=Zjz sp bj mb id::Zkd mb es ck::Xs bp ba m::jC bj bp j::[]::L) (LS.skip _ (LS.refl _)) ⟨_,[],rfl,Zt,rfl⟩
 simp only[Z16 hb]at kc ⊢
 by_cases hto:f.to=id
 ·simp only[ne_eq,hto,Z36,Z3h]
  unfold Wc at hb
  obtain⟨fr0,to0,dl0,kd0,at0,ys0,fs0⟩:=f
  simp only at hb hto ⊢
  subst hto
  obtain⟨d,rfl⟩:=Z2t (show 0≤dl0 by omega)
  have hd6:d<6:=by omega
  clear hb
  simp only[Z2w]
  have kg:=fun L h=>Ziy bj bp j d L h hj.len hd6
  generalize hst:(j.l.getD d Zl).s=st at*
  have kt:=fun L=>Zxg sp bj mb to0 es ck ref ⟨fr0,to0,d,kd0,at0,ys0,fs0⟩ st L hF
  generalize htr:Xg ref ⟨fr0,to0,d,kd0,at0,ys0,fs0⟩ st=tr at*
  have kp:=Z07 T E bj bp ba m j d tr.1
  generalize hpr:X2 m j d tr.1=pr at*
  refine uE func134 ntmps134 ?_
  repeat' (first|refine uN ?_|refine uC (kc _ (hG4.sub.cons _)) ?_|refine uD (fun _=>kc _ (hG4.sub.cons _)) ?_|(refine uB ?_;intro b)|refine dg S 100 (fun _ _=>?_)|(refine uP ?_ ?_<;>intro h<;>try exact zx)|refine uM ?_|fail)
  refine dcF 0 [(bj,.cells ⟨Yl bp j⟩ 261)] (fun L hL=>kg L (hL _ (Z3j.2 rfl))) (fun p hp=>by
   rw[Z3j.1 hp]
   exact Zb (Zb (Zb (Zb Zk)))) ?_
  simp only[Z2s,Z3z,Z19,Z2b]
  repeat' (first|refine uN ?_|refine uC (kc _ (hG4.sub.cons _)) ?_|refine uD (fun _=>kc _ (hG4.sub.cons _)) ?_|(refine uB ?_;intro b)|refine dg S 100 (fun _ _=>?_)|(refine uP ?_ ?_<;>intro h<;>try exact zx)|refine uM ?_|fail)
  repeat' (first|refine uN ?_|refine X7 (qC (Zjv kt 2 2)) ?_|(refine uB ?_;intro b)|refine dg S 100 (fun _ _=>?_)|(refine uP ?_ ?_<;>intro h<;>try exact zx)|refine uG ?_|fail)
  refine fo 6 ?_
  refine fo 6 ?_
  refine gc (kp _ (((((hG.cons _).cons _).cons _).cons _).cons _).sub hm hj) ?_
  rintro v L' ⟨rfl,rfl⟩
  cases he:pr.2.2 with
  | some e=>
   simp only
   repeat' (first|refine uN ?_|(refine uB ?_;intro b)|refine dg S 100 (fun _ _=>?_)|(refine uP ?_ ?_<;>intro h<;>try exact zx)|refine uG ?_|fail)
   exact U3 (L':=Zjz sp bj mb to0::Zkd mb es ck::Xs bp ba pr.1::jC bj bp pr.2.1::[]::L) uL ⟨_,[],rfl,Zt,rfl⟩
  | none=>
   simp only
   by_cases hk:tr.2.1=0
   ·simp only[Z2d hk]
    repeat' (first|refine uN ?_|(refine uB ?_;intro b)|refine dg S 100 (fun _ _=>?_)|(refine uP ?_ ?_<;>intro h<;>try exact zx)|refine uG ?_|fail)
    exact U3 (L':=Zjz sp bj mb to0::Zkd mb es ck::Xs bp ba pr.1::jC bj bp pr.2.1::[]::L) uL ⟨_,[],rfl,Zt,rfl⟩
   ·simp only[Z16 hk]
    repeat' (first|refine uN ?_|(refine uB ?_;intro b)|refine dg S 100 (fun _ _=>?_)|(refine uP ?_ ?_<;>intro h<;>try exact zx)|refine uG ?_|fail)
    exact U3 (L':=Zjz sp bj mb to0::Zkd mb es ck::Xs bp ba pr.1::jC bj bp pr.2.1::[(b,.cells ⟨fc ⟨to0,fr0,d,tr.2.1,at0,tr.2.2,tr.1⟩⟩ 131)]::L) (LS.p6 (LS.p6 (LS.p1 (LS.p1 (LS.p0 (LS.c (LS.c (LS.c (LS.refl _))))))))) ⟨_,_,rfl,Zzg _ rfl,rfl⟩
 ·simp only[ne_eq,hto,Z6p,Z4d]
  refine uE func134 ntmps134 ?_
  repeat' (first|refine uN ?_|refine uC (kc _ (hG4.sub.cons _)) ?_|refine uD (fun _=>kc _ (hG4.sub.cons _)) ?_|(refine uB ?_;intro b)|refine dg S 100 (fun _ _=>?_)|(refine uP ?_ ?_<;>intro h<;>try exact zx)|refine uM ?_|fail)
  exact U3 (L':=Zjz sp bj mb id::Zkd mb es ck::Xs bp ba m::jC bj bp j::[]::L) (LS.skip _ (LS.refl _)) ⟨_,[],rfl,Zt,rfl⟩
end
end Go.HL
namespace Go.HL
open Go Go.Proofs Go.Proofs.Tryz
variable[Tasks]
theorem Z1e(s:List UInt8)(a:Nat):s.foldl (fun n b=>n*256+b.toNat) a=a*256 ^ s.length+Zbf s:=by
 induction s generalizing a with
 | nil=>simp[Zbf]
 | cons b s ih=>
  rw[Zbf,Z3y,Z3y,ih,ih]
  simp only[Z2y,Z6i]
  have e:a*256*256 ^ s.length=a*(256 ^ s.length*256):=by rw[Nat.mul_assoc,Nat.mul_comm 256]
  rw[Z32,e,Nat.zero_mul,Z3o]
  omega
theorem rdN_cons(b:UInt8)(s:List UInt8):Zbf (b::s)=b.toNat*256 ^ s.length+Zbf s:=by
 rw[Zbf,Z3y,Z1e];simp
theorem bt_nat(n k:Nat):(bt (n:Int) k).toNat=n / 256 ^ k % 256:=by
 have h:=Zvd (n:Int) k
 have e:(n:Int) / 2 ^ (8*k) % 256=((n / 256 ^ k % 256:Nat):Int):=by
  rw[Int.pow_mul]
  simp
 rw[e]at h
 exact Int.ofNat.inj h
theorem rdN_numB(n k:Nat):Zbf (Zv (n:Int) k)=n % 256 ^ k:=by
 induction k with
 | zero=>simp[Zv,Zbf,Z6u]
 | succ k ih=>
  rw[Zv,rdN_cons,ih,bt_nat,Zy,Z6i,Nat.mod_mul]
  rw[Nat.mul_comm,Z6g]
theorem Qx{n:Int}{k:Nat}(h0:0≤n)(h1:n<256 ^ k):((Zbf (Zv n k):Nat):Int)=n:=by
 obtain⟨n,rfl⟩:=Z2t h0
 rw[rdN_numB,Z5h]
 exact Int.ofNat_lt.1 (by simpa using h1)
structure EntOk(e:Ent):Prop where
 n0:1≤e.n
 n1:e.n<4294967296
 p0:0≤e.s.ph
 p1:e.s.ph≤255
 r0:0≤e.s.pr
 r1:e.s.pr≤1048576
 a0:0≤e.s.att
 a1:e.s.att≤1048576
theorem Zwi{e:Ent}(h:EntOk e)(r:List UInt8):Zd0 (Yu e++r)=e:=by
 obtain⟨n,⟨p,q,a⟩⟩:=e
 have l1:=Zy n 4
 have l2:=Zy p 1
 have l3:=Zy q 4
 have l4:=Zy a 4
 have h1:=h.n0;have h2:=h.n1;have h3:=h.p0;have h4:=h.p1;have h5:=h.r0;have h6:=h.r1;have h7:=h.a0;have h8:=h.a1
 simp only at h1 h2 h3 h4 h5 h6 h7 h8
 have e1:Yu ⟨n,p,q,a⟩++r=Zv n 4++(Zv p 1++(Zv q 4++(Zv a 4++(Zv (Zej (head ⟨n,p,q,a⟩)) 4++r)))):=by simp[Yu,head]
 have t1:(Yu ⟨n,p,q,a⟩++r).take 4=Zv n 4:=by rw[e1,Z40 l1]
 have t2:((Yu ⟨n,p,q,a⟩++r).take 5).drop 4=Zv p 1:=by
  rw[e1,← Z18,Z40 (by simp[l1,l2]),Z4z l1]
 have t3:((Yu ⟨n,p,q,a⟩++r).take 9).drop 5=Zv q 4:=by
  rw[e1,← Z18,← Z18,Z40 (by simp[l1,l2,l3]),Z4z (by simp[l1,l2])]
 have t4:((Yu ⟨n,p,q,a⟩++r).take 13).drop 9=Zv a 4:=by
  rw[e1,← Z18,← Z18,← Z18,Z40 (by simp[l1,l2,l3,l4]),Z4z (by simp[l1,l2,l3])]
 unfold Zd0
 rw[t1,t2,t3,t4,Qx (by omega) (by omega),Qx (by omega) (by omega),Qx (by omega) (by omega),Qx (by omega) (by omega)]
theorem Zz7{e:Ent}(h:EntOk e):Yy (e.n % 2) (Yu e++Y5)=e:=by
 rw[Q7,Zwi h]
 rw[Z16]
 have:=h.n0
 simp
 omega
theorem Zj9(k:Int)(s:List UInt8)(hs:4≤s.length):0≤(Yy k s).n∧(Yy k s).n<4294967296:=by
 rw[Q7]
 split
 ·simp
 ·have:=Zqv (s.take 4)
  rw[show (s.take 4).length=4 by simp;omega]at this
  show 0≤((Zbf (s.take 4):Nat):Int)∧((Zbf (s.take 4):Nat):Int)<4294967296
  omega
theorem Zea(a b:Ent):(Uy a b).n=max a.n b.n:=by
 unfold Uy
 split<;>omega
theorem Zpa(Pr X R:List UInt8)(i:Nat)(hP:Pr.length=i*18)(hX:X.length=18):Y9 (Pr++X++R) i=X:=by
 unfold Y9
 rw[Z18,Z4z hP,Z40 hX]
theorem Zo9(Pr X Y R:List UInt8)(i i':Nat)(hP:Pr.length=i*18)(hX:X.length=18)(hY:Y.length=18)(h:i'≠i):Y9 (Pr++X++R) i'=Y9 (Pr++Y++R) i':=by
 unfold Y9
 rcases Nat.lt_or_gt_of_ne h with h|h
 ·have e:∀Z:List UInt8,((Pr++Z++R).drop (i'*18)).take 18=(Pr.drop (i'*18)).take 18:=fun Z=>by
   rw[Z18,List.drop_append_of_le_length (by omega),List.take_append_of_le_length (by simp;omega)]
  rw[e,e]
 ·have e:∀Z:List UInt8,Z.length=18→((Pr++Z++R).drop (i'*18)).take 18=(R.drop (i'*18-(i*18+18))).take 18:=fun Z hZ=>by
   have hl:(Pr++Z).length=i*18+18:=by simp[hP,hZ]
   rw[List.drop_append,hl,Z5s (by omega),Z2b]
  rw[e X hX,e Y hY]
theorem Zxb(Pr S X R:List UInt8)(h:X.length=S.length):Va (Pr++S++R) Pr.length X=Pr++X++R:=by
 unfold Va
 have e1:(Pr++S++R).take Pr.length=Pr:=by rw[Z18,Z40 rfl]
 have e2:(Pr++S++R).drop (Pr.length+X.length)=R:=by rw[Z4z (by simp[h])]
 rw[e1,e2]
theorem cut_slot(b:List UInt8)(i:Nat)(h:i*18+18≤b.length):∃Pr S c R,b=Pr++(S++[c])++R∧Pr.length=i*18∧S.length=17:=by
 have hd:i*18+17<b.length:=by omega
 refine⟨b.take (i*18),(b.drop (i*18)).take 17,b[i*18+17],b.drop (i*18+18),?_,by simp;omega,by simp;omega⟩
 have e1:b.drop (i*18)=(b.drop (i*18)).take 17++b.drop (i*18+17):=by
  have:=(Z35 17 (b.drop (i*18))).symm
  rwa [Z47]at this
 have e2:b.drop (i*18+17)=b[i*18+17]::b.drop (i*18+18):=Z4u hd
 have e3:=(Z35 (i*18) b).symm
 rw[e1,e2]at e3
 simpa using e3
theorem Zex{Pr S X R:List UInt8}{n:Nat}(hn:n=Pr.length)(h:X.length=S.length):Va (Pr++S++R) n X=Pr++X++R:=by
 subst hn;exact Zxb Pr S X R h
theorem Zyw{b:List UInt8}{d:Nat}(hd:d<6)(hl:216≤b.length)(k:Nat)(hk:k≤2):0≤(Vy b d k).n∧(Vy b d k).n<4294967296:=by
 induction k with
 | zero=>simp[Vy,Zl]
 | succ k ih=>
  have h1:=ih (by omega)
  have h2:=Zj9 k (Y9 b (2*d+k)) (by rw[Zce _ _ (by omega) hl];omega)
  rw[Vy,Zea]
  omega
theorem deal_new{b b':List UInt8}{d:Nat}{e:Ent}(hl:216≤b.length)(hd:d<6)(he:EntOk e)(hn:e.n=(Y7 b d).n+1){Pr S R:List UInt8}(hb:b=Pr++S++R)(hb':b'=Pr++(Yu e++Y5)++R)(hP:Pr.length=(2*d+(e.n % 2).toNat)*18)(hS:S.length=18):
  Zq b'=(Zq b).set d e:=by
 have hX:(Yu e++Y5).length=18:=by simp[Zat,Y5]
 have hk:e.n % 2=0∨e.n % 2=1:=by omega
 have here:Y9 b' (2*d+(e.n % 2).toNat)=Yu e++Y5:=by rw[hb'];exact Zpa _ _ _ _ hP hX
 have els:∀i,i≠2*d+(e.n % 2).toNat→Y9 b' i=Y9 b i:=fun i hi=>by rw[hb,hb'];exact Zo9 _ _ _ _ _ _ hP hX hS hi
 have hh:=Zz7 he
 have h0:=he.n0
 have hd2:Y7 b' d=e:=by
  have q1:Y7 b d=Uy (Uy Zl (Yy 0 (Y9 b (2*d+0)))) (Yy 1 (Y9 b (2*d+1))):=rfl
  have q2:Y7 b' d=Uy (Uy Zl (Yy 0 (Y9 b' (2*d+0)))) (Yy 1 (Y9 b' (2*d+1))):=rfl
  have m1:(Y7 b d).n=max (max 0 (Yy 0 (Y9 b (2*d+0))).n) (Yy 1 (Y9 b (2*d+1))).n:=by rw[q1,Zea,Zea];rfl
  rcases hk with hk|hk
  ·rw[hk]at here hh els
   rw[q2,show Y9 b' (2*d+0)=Yu e++Y5 from here,hh,els (2*d+1) (by simp)]
   have u1:Uy Zl e=e:=by unfold Uy;rw[Z2d (by show (0:Int)<e.n;omega)]
   rw[u1]
   unfold Uy
   rw[Z16 (by omega)]
  ·rw[hk]at here hh els
   rw[q2,show Y9 b' (2*d+1)=Yu e++Y5 from here,hh,els (2*d+0) (by simp)]
   have u1:(Uy Zl (Yy 0 (Y9 b (2*d+0)))).n=max 0 (Yy 0 (Y9 b (2*d+0))).n:=by rw[Zea];rfl
   generalize Uy Zl (Yy 0 (Y9 b (2*d+0)))=u at*
   unfold Uy
   rw[Z2d (by omega)]
 have hdo:∀i,i≠d→Y7 b' i=Y7 b i:=fun i hi=>by
  unfold Y7 Vy Vy Vy
  rw[els (2*i+0) (by omega),els (2*i+1) (by omega)]
 apply Z3i
 intro i
 rw[Z2z]
 by_cases hi:d=i
 ·subst hi
  simp[Zq,hd,hd2]
 ·simp only[hi,Z3h,Zq,Z30]
  by_cases h6:i<6
  ·simp[h6,hdo i (fun h=>hi h.symm)]
  ·simp[h6]
structure Good(m:Pl)(j:Jn):Prop where
 off:m.off=false
 cut:m.cut=-1
 lo:216≤m.b.length
 hi:m.b.length≤1000000
 dead:j.dead=false
 l:j.l=Zq m.b
theorem Zos{b:List UInt8}{d:Nat}(hd:d<6):(Zq b).getD d Zl=Y7 b d:=by simp[Zq,hd]
theorem Zyu{b:List UInt8}(hl:216≤b.length):JnOk ⟨Zq b,false⟩:=by
 have key:∀d,0≤((Zq b).getD d Zl).n∧((Zq b).getD d Zl).n<4294967296:=fun d=>by
  by_cases hd:d<6
  ·rw[Zos hd];exact Zyw hd hl 2 (by omega)
  ·simp[Zq,hd,Zl]
 exact⟨by simp[Zq],fun d=>(key d).1,fun d=>by have:=(key d).2;show ((Zq b).getD d Zl).n≤_;omega⟩
theorem Good.ok{m:Pl}{j:Jn}(h:Good m j):PlOk m∧JnOk j:=by
 obtain⟨jl,jd⟩:=j
 have h1:=h.dead
 have h2:=h.l
 simp only at h1 h2
 subst h1;subst h2
 exact⟨⟨h.hi,by rw[h.cut];decide,by rw[h.cut];decide⟩,Zyu h.lo⟩
theorem Zl7{n:Nat}(h:216≤n):Zq (Yg n)=List.replicate 6 Zl:=by
 have hs:∀i,i<12→Y9 (Yg n) i=Yg 18:=fun i hi=>by
  unfold Y9 Yg
  rw[List.drop_replicate,List.take_replicate,Z41 (by omega)]
 have hh:∀k,Yy k (Yg 18)=Zl:=fun k=>by
  rw[Q7,Z2d (.inl (by decide))];rfl
 have hd:∀d,d<6→Y7 (Yg n) d=Zl:=fun d hd=>by
  unfold Y7 Vy Vy Vy
  rw[hs _ (by omega),hs _ (by omega),hh,hh]
  rfl
 apply Z3i
 intro i
 by_cases h:i<6
 ·rw[Z24,Z2d h];simp[Zq,h,hd i h]
 ·simp[Zq,h]
theorem Zpj(n:Nat):(Yg n).length=n:=by simp[Yg]
def Zb0(c:Int)(n:Nat):Int:=if c=-1 then -1 else c-n
theorem Zxt{b:List UInt8}{c a:Int}{s:List UInt8}(h0:0≤a)(h1:a+s.length≤b.length):
  Z5 ⟨b,false,c⟩ a s=Zck ⟨b,false,c⟩ a.toNat s:=by
 unfold Z5 Wq
 simp only[Z2r,Z3h]
 rw[Z16 (by omega)]
theorem Znb{b:List UInt8}{c:Int}{a:Nat}{s:List UInt8}(h:c=-1∨s.length≤c.toNat):Zck ⟨b,false,c⟩ a s=(⟨Va b a s,false,Zb0 c s.length⟩,none):=by
 have hk:kM ⟨b,false,c⟩ s.length=s.length:=by
  unfold kM;split
  ·rfl
  ·rcases h with h|h
   ·contradiction
   ·simp only;omega
 simp[Zck,hk,Zb0]
theorem Zin{b:List UInt8}{c:Int}{a:Nat}{s:List UInt8}(h0:0≤c)(h:c.toNat<s.length):Zck ⟨b,false,c⟩ a s=(⟨Va b a (s.take c.toNat),true,0⟩,some 6):=by
 have hk:kM ⟨b,false,c⟩ s.length=c.toNat:=by
  unfold kM;rw[Z16 (by simp only;omega)];simp only;omega
 simp only[Zck,hk]
 rw[Z16 (by omega),Z2d h]
 simp[h]
 omega
theorem read_C{b:List UInt8}{c a:Int}{n:Int}(h0:0≤a)(h2:0≤n)(h1:a+n≤b.length):Qo ⟨b,false,c⟩ a n=((b.drop a.toNat).take n.toNat,none):=by
 unfold Qo Wq
 simp only[Z2r,Z3h]
 rw[Z16 (by omega)]
def JW(b:List UInt8)(Pr R:List UInt8)(e:Ent)(r:Pl × Option Nat):Prop:=
 (r.2=none∧r.1.off=false∧r.1.b=Pr++(Yu e++Y5)++R∧-1≤r.1.cut)∨
 (r.2=some 6∧r.1.off=true∧r.1.cut=0∧(r.1.b=b∨∃X,X.length=17∧r.1.b=Pr++(X++[0])++R))
theorem jw_cut{b:List UInt8}{ct:Int}{d:Nat}{e:Ent}(hct:-1≤ct)(hl:216≤b.length)(hd:d<6)(he:0≤e.n):∃Pr S c R,b=Pr++(S++[c])++R∧Pr.length=(2*d+(e.n % 2).toNat)*18∧S.length=17∧
  JW b Pr R e (Zaw ⟨b,false,ct⟩ d e):=by
 have hk:0≤e.n % 2∧e.n % 2<2:=by omega
 obtain⟨Pr,S,c,R,hb,hP,hS⟩:=cut_slot b (2*d+(e.n % 2).toNat) (by omega)
 refine⟨Pr,S,c,R,hb,hP,hS,?_⟩
 have hlen:b.length=(2*d+(e.n % 2).toNat)*18+18+R.length:=by rw[hb];simp[hP,hS];omega
 have ha:Qh d e=((Pr.length:Nat):Int):=by unfold Qh;omega
 have lb:=Zat e
 have r1:Qo ⟨b,false,ct⟩ (Qh d e+18-1) 1=([c],none):=by
  rw[read_C (by omega) (by omega) (by omega)]
  have e1:(Qh (d:Int) e+18-1).toNat=(Pr++S).length:=by simp[hS];omega
  rw[e1,hb,← Z18,Z18 (Pr++S),Z4z rfl]
  rfl
 have w1:(∃c1,-1≤c1∧Zb6 ⟨b,false,ct⟩ d e=(⟨Pr++(S++[0])++R,false,c1⟩,none))∨Zb6 ⟨b,false,ct⟩ d e=(⟨b,true,0⟩,some 6):=by
  unfold Zb6
  rw[r1]
  simp only
  split
  ·rename_i h
   refine .inl ⟨ct,hct,?_⟩
   rw[hb,show c=0 by simpa using h]
  ·have hz:Pr++(S++[c])++R=(Pr++S)++[c]++R:=by simp
   rw[Zxt (by omega) (by simp;omega)]
   by_cases hc:ct=-1∨1≤ct.toNat
   ·refine .inl ⟨Zb0 ct 1,by unfold Zb0;split<;>omega,?_⟩
    rw[Znb (by simpa using hc),hb,hz,Zex (S:=[c]) (X:=[0]) (by simp[hS];omega) rfl]
    simp
   ·refine .inr ?_
    rw[Zin (by omega) (by simp;omega),show ct.toNat=0 by omega]
    simp[Zge]
 unfold JW Zaw Zbi
 rcases w1 with⟨c1,hc1,w1⟩|w1
 ·rw[w1]
  simp only
  have hl1:(Pr++(S++[0])++R).length=b.length:=by rw[hb];simp
  have hz:Pr++(S++[0])++R=Pr++S++([0]++R):=by simp
  rw[Zxt (by omega) (by rw[hl1];omega)]
  by_cases hc:c1=-1∨17≤c1.toNat
  ·rw[Znb (by rw[lb];exact hc),hz,Zex (by omega) (by omega)]
   simp only
   have hl2:(Pr++Yu e++([0]++R)).length=b.length:=by rw[hb];simp[lb,hS]
   have hz2:Pr++Yu e++([0]++R)=(Pr++Yu e)++[0]++R:=by simp
   have hc2:-1≤Zb0 c1 17:=by unfold Zb0;split<;>omega
   rw[lb,Zxt (by omega) (by rw[hl2];simp[Y5];omega)]
   by_cases hc3:Zb0 c1 17=-1∨1≤(Zb0 c1 17).toNat
   ·left
    rw[Znb (by simpa[Y5] using hc3),hz2,Zex (S:=[0]) (X:=Y5) (by simp[lb];omega) rfl]
    refine⟨rfl,rfl,by simp,?_⟩
    show -1≤Zb0 (Zb0 c1 17) 1
    generalize Zb0 c1 17=q at*
    unfold Zb0;split<;>omega
   ·right
    rw[Zin (by omega) (by simp[Y5];omega),show (Zb0 c1 17).toNat=0 by omega]
    refine⟨rfl,rfl,rfl,.inr ⟨Yu e,lb,?_⟩⟩
    simp[Zge]
  ·right
   rw[Zin (by omega) (by omega),hz]
   refine⟨rfl,rfl,rfl,.inr ⟨(Yu e).take c1.toNat++S.drop c1.toNat,by simp[lb,hS];omega,?_⟩⟩
   have hS2:S=S.take c1.toNat++S.drop c1.toNat:=(Z35 _ _).symm
   have:Pr++S++([0]++R)=Pr++S.take c1.toNat++(S.drop c1.toNat++([0]++R)):=by
    rw[← Z18 (Pr++S.take c1.toNat),Z18 Pr (S.take c1.toNat),← hS2]
   show Va (Pr++S++([0]++R)) _ _=_
   rw[this,Zex (by omega) (by simp[lb,hS])]
   simp
 ·right
  rw[w1]
  exact⟨rfl,rfl,rfl,.inl rfl⟩
theorem Zoi{k:Int}{X:List UInt8}:Yy k (X++[0])=Zl:=by
 rw[Q7]
 split
 ·rfl
 ·rename_i h
  exfalso
  apply h
  right;right
  intro e
  have:=congrArg List.getLast? e
  simp[Y5]at this
theorem Zsn{k:Int}{s:List UInt8}(h:(Yy k s).n≠0):(Yy k s).n % 2=k:=by
 rw[Q7] at*
 split at h
 ·exact absurd rfl h
 ·rename_i hc
  rw[Z16 hc]
  by_cases e:(Zd0 s).n % 2=k
  ·exact e
  ·exact absurd (.inr (.inl e)) hc
theorem deal_zap{b b':List UInt8}{d:Nat}(hl:216≤b.length)(hd:d<6){Pr S R X:List UInt8}{st:Int}(hst:st=((Y7 b d).n+1) % 2)(hb:b=Pr++S++R)(hb':b'=Pr++(X++[0])++R)(hP:Pr.length=(2*d+st.toNat)*18)(hS:S.length=18)(hX:X.length=17):
  Zq b'=Zq b:=by
 have hX':(X++[0]).length=18:=by simp[hX]
 have hk:st=0∨st=1:=by omega
 have here:Y9 b' (2*d+st.toNat)=X++[0]:=by rw[hb'];exact Zpa _ _ _ _ hP hX'
 have els:∀i,i≠2*d+st.toNat→Y9 b' i=Y9 b i:=fun i hi=>by rw[hb,hb'];exact Zo9 _ _ _ _ _ _ hP hX' hS hi
 have q1:Y7 b d=Uy (Uy Zl (Yy 0 (Y9 b (2*d+0)))) (Yy 1 (Y9 b (2*d+1))):=rfl
 have q2:Y7 b' d=Uy (Uy Zl (Yy 0 (Y9 b' (2*d+0)))) (Yy 1 (Y9 b' (2*d+1))):=rfl
 have m1:(Y7 b d).n=max (max 0 (Yy 0 (Y9 b (2*d+0))).n) (Yy 1 (Y9 b (2*d+1))).n:=by rw[q1,Zea,Zea];rfl
 have l0:=Zce b (2*d+0) (by omega) hl
 have l1:=Zce b (2*d+1) (by omega) hl
 have n0:=Zj9 0 (Y9 b (2*d+0)) (by omega)
 have n1:=Zj9 1 (Y9 b (2*d+1)) (by omega)
 have p0:=Zsn (k:=0) (s:=Y9 b (2*d+0))
 have p1:=Zsn (k:=1) (s:=Y9 b (2*d+1))
 have hz:∀e:Ent,e.n=0→Uy Zl e=Zl:=fun e h=>by unfold Uy;rw[Z16 (by show ¬ (0:Int)<e.n;omega)]
 have hd2:Y7 b' d=Y7 b d:=by
  rcases hk with rfl|rfl
  ·rw[q2,show Y9 b' (2*d+0)=X++[0] from here,Zoi,els (2*d+1) (by simp),q1]
   generalize Yy 0 (Y9 b (2*d+0))=u at*
   generalize Yy 1 (Y9 b (2*d+1))=v at*
   have hzz:Uy Zl Zl=Zl:=by unfold Uy;rw[Z16 (by show ¬ (0:Int)<0;omega)]
   rw[hzz]
   have hun:(Uy Zl u).n=max 0 u.n:=by rw[Zea];rfl
   generalize hw:Uy Zl u=w at*
   have hlt:w.n<v.n:=by
    by_cases hu0:u.n=0
    ·omega
    ·have:=p0 hu0
     omega
   unfold Uy
   rw[Z2d (by show (0:Int)<v.n;omega),Z2d hlt]
  ·rw[q2,show Y9 b' (2*d+1)=X++[0] from here,Zoi,els (2*d+0) (by simp),q1]
   generalize Yy 0 (Y9 b (2*d+0))=u at*
   generalize Yy 1 (Y9 b (2*d+1))=v at*
   have hun:(Uy Zl u).n=max 0 u.n:=by rw[Zea];rfl
   generalize Uy Zl u=w at*
   have hle:v.n≤w.n:=by
    by_cases hv0:v.n=0
    ·omega
    ·have:=p1 hv0
     omega
   unfold Uy
   rw[Z16 (by show ¬ w.n<(0:Int);omega),Z16 (by omega)]
 have hdo:∀i,i≠d→Y7 b' i=Y7 b i:=fun i hi=>by
  unfold Y7 Vy Vy Vy
  rw[els (2*i+0) (by omega),els (2*i+1) (by omega)]
 unfold Zq
 apply List.map_congr_left
 intro i hi
 by_cases e:i=d
 ·subst e;exact hd2
 ·exact hdo i e
structure JI(m:Pl)(j:Jn):Prop where
 lo:216≤m.b.length
 hi:m.b.length≤1000000
 c0:-1≤m.cut
 c1:m.cut≤9223372036854775807
 off:j.dead=m.off
 l:j.l=Zq m.b
theorem JI.pl{m:Pl}{j:Jn}(h:JI m j):PlOk m:=⟨h.hi,h.c0,h.c1⟩
theorem JI.jn{m:Pl}{j:Jn}(h:JI m j):JnOk j:=by
 have:=Zyu h.lo
 exact⟨by rw[h.l];exact this.len,by rw[h.l];exact this.n0,by rw[h.l];exact this.n1⟩
theorem Zkm{m:Pl}{j:Jn}(h:JI m j)(deal:Int)(s:St):JI (X2 m j deal s).1 (X2 m j deal s).2.1∧(X2 m j deal s).1.b.length=m.b.length∧
    (((X2 m j deal s).2.1.l=j.l∧(((X2 m j deal s).2.2=some 6∧(X2 m j deal s).1.off=true)∨(X2 m j deal s).2.2=some 2∧Uq deal s∨(X2 m j deal s).2.2=some 5∧4294967296≤(j.l.getD deal.toNat Zl).n+1))∨
     (¬ Uq deal s∧(X2 m j deal s).2.2=none∧m.off=false∧(X2 m j deal s).1.off=false∧(((j.l.getD deal.toNat Zl).s=s∧(X2 m j deal s).2.1.l=j.l∧(X2 m j deal s).1=m)∨
        (j.l.getD deal.toNat Zl).s≠s∧(X2 m j deal s).2.1.l=j.l.set deal.toNat ⟨(j.l.getD deal.toNat Zl).n+1,s⟩))):=by
  obtain⟨b,off,cut⟩:=m
  obtain⟨jl,dead⟩:=j
  have hJ:=h
  obtain⟨h1,h2,h3,h4,h5,h6⟩:=h
  simp only at h1 h2 h3 h4 h5 h6
  subst h5;subst h6
  unfold X2
  by_cases hdd:dead=true
  · subst hdd
    simp only[Z4d]
    exact⟨hJ,by trivial,.inl ⟨by trivial,.inl ⟨by trivial,by trivial⟩⟩⟩
  have hdd':dead=false:=by simpa using hdd
  subst hdd'
  simp only[Z2r,Z3h]
  by_cases hb:Uq deal s
  · rw[Z2d hb]
    exact⟨hJ,by trivial,.inl ⟨by trivial,.inr (.inl ⟨by trivial,hb⟩)⟩⟩
  rw[Z16 hb]
  have hb2:=hb
  unfold Uq at hb2
  obtain⟨d,rfl⟩:=Z2t (show 0≤deal by omega)
  have hd:d<6:=by omega
  simp only[Z2w,Zos hd]
  by_cases he:(Y7 b d).s=s
  · rw[Z2d he]
    exact⟨hJ,rfl,.inr ⟨hb,by trivial,by trivial,by trivial,.inl ⟨he,by trivial,by trivial⟩⟩⟩
  rw[Z16 he]
  by_cases hf:4294967296≤(Y7 b d).n+1
  · rw[Z2d hf]
    exact⟨hJ,rfl,.inl ⟨rfl,.inr (.inr ⟨by trivial,hf⟩)⟩⟩
  rw[Z16 hf]
  have hn:=Zyw hd h1 2 (by omega)
  have hn':0≤(Y7 b d).n∧(Y7 b d).n<4294967296:=hn
  obtain⟨Pr,S,c,R,e1,e2,e3,hjw⟩:=jw_cut (b:=b) (d:=d) (ct:=cut) (e:=⟨(Y7 b d).n+1,s⟩) h3 h1 hd (by simp only;omega)
  have hpl:=jwM_ok hJ.pl d ⟨(Y7 b d).n+1,s⟩
  generalize Zaw ⟨b,false,cut⟩ d ⟨(Y7 b d).n+1,s⟩=r at*
  obtain⟨⟨b',off',cut'⟩,er⟩:=r
  simp only[JW]at hjw
  rcases hjw with⟨rfl,rfl,rfl,hc⟩|⟨rfl,rfl,rfl,hc⟩
  · have hok:EntOk ⟨(Y7 b d).n+1,s⟩:=⟨by simp only;omega,by simp only;omega,by simp only;omega,by simp only;omega,by simp only;omega,by simp only;omega,by simp only;omega,by simp only;omega⟩
    have hnew:=deal_new (b':=Pr++(Yu ⟨(Y7 b d).n+1,s⟩++Y5)++R) h1 hd hok rfl e1 rfl e2 (by simp[e3])
    have hL:(Pr++(Yu ⟨(Y7 b d).n+1,s⟩++Y5)++R).length=b.length:=by rw[e1];simp[Zat,Y5,e3]
    refine⟨⟨by rw[hL];exact h1,by rw[hL];exact h2,hc,hpl.hi,rfl,hnew.symm⟩,hL,.inr ⟨hb,by trivial,by trivial,by trivial,.inr ⟨he,by trivial⟩⟩⟩
  · have hopen:Zq b'=Zq b:=by
      rcases hc with hc|⟨X,hX,hc⟩
      · rw[hc]
      · exact deal_zap h1 hd rfl e1 hc e2 (by simp[e3]) hX
    have hL:b'.length=b.length:=by
      rcases hc with hc|⟨X,hX,hc⟩
      · rw[hc]
      · rw[hc,e1];simp[hX,e3]
    refine⟨⟨by rw[hL];exact h1,by rw[hL];exact h2,by simp,by simp,rfl,hopen.symm⟩,hL,.inl ⟨by trivial,.inl ⟨by trivial,by trivial⟩⟩⟩
theorem JI.cut{m:Pl}{j:Jn}(h:JI m j){n:Int}(h0:0≤n)(h1:n≤9223372036854775807):JI { m with cut:=n } j:=⟨h.lo,h.hi,by simp only;omega,h1,h.off,h.l⟩
theorem JI.boot{m:Pl}{j:Jn}(h:JI m j):JI { m with off:=false,cut:=-1 } ⟨Zq m.b,false⟩:=⟨h.lo,h.hi,by simp,by simp,rfl,rfl⟩
def Zul(s:St):Prop:=0≤s.ph∧s.ph≤5∧0≤s.att∧s.att≤s.pr∧s.pr≤1048576
def stLe(a b:St):Prop:=a.pr≤b.pr∧a.att≤b.att∧mayS a.ph b.ph=true
theorem Zay{a:St}(h:Zul a):stLe a a:=by
 obtain⟨h1,h2,-⟩:=h
 exact⟨Z6s _,Z6s _,Z29 (by omega)⟩
def Xp(j:Jn)(d:Nat):St:=(j.l.getD d Zl).s
theorem afterS_pos{p:Int}:V4 p≠0↔p=4∨p=5:=by unfold V4;split<;>(try split)<;>omega
theorem Zrh{ref:Int→Bool}{f:Fr}{st:St}(h:Zul st)(hf:¬ Wc f):Zul (Xg ref f st).1∧stLe st (Xg ref f st).1:=by
 obtain⟨h1,h2,h3,h4,h5⟩:=h
 unfold Wc at hf
 unfold Xg
 split
 ·unfold askM
  split
  ·split
   ·exact⟨⟨by simp,by simp,h3,h4,h5⟩,by simp,by simp,Z29 (by simp only;omega)⟩
   ·exact⟨⟨by simp,by simp,h3,h4,h5⟩,by simp,by simp,Z29 (by simp only;omega)⟩
  ·exact⟨⟨h1,h2,h3,h4,h5⟩,Zay ⟨h1,h2,h3,h4,h5⟩⟩
 split
 ·have e1:st.pr≤max st.pr f.att:=Int.le_max_left _ _
  have e2:max st.pr f.att≤1048576:=by omega
  exact⟨⟨h1,h2,h3,Int.le_trans h4 e1,e2⟩,e1,Z6s _,Z29 (by show _∧(st.ph=st.ph∨_);exact⟨⟨h1,h2,h1,h2⟩,.inl rfl⟩)⟩
 split
 ·split
  ·exact⟨⟨h1,h2,h3,h4,h5⟩,Zay ⟨h1,h2,h3,h4,h5⟩⟩
  ·rename_i ha
   have ha':=afterS_pos.1 ha
   split
   ·rename_i ho
    have ho':st.ph≠2∧st.ph≠3:=by simpa[Zi6] using ho.1
    exact⟨⟨by simp only;omega,by simp only;omega,by simp only;omega,by simp,by simp only;omega⟩,by simp only;omega,by simp only;omega,Z29 (by simp only;omega)⟩
   ·exact⟨⟨h1,h2,h3,h4,h5⟩,Zay ⟨h1,h2,h3,h4,h5⟩⟩
 split
 ·split
  ·rename_i ho
   have ho':st.ph≠2∧st.ph≠3:=by simpa[Zi6] using ho.1
   exact⟨⟨by simp only;omega,by simp only;omega,h3,h4,h5⟩,by simp,by simp,Z29 (by simp only;omega)⟩
  ·exact⟨⟨h1,h2,h3,h4,h5⟩,Zay ⟨h1,h2,h3,h4,h5⟩⟩
 ·exact⟨⟨h1,h2,h3,h4,h5⟩,Zay ⟨h1,h2,h3,h4,h5⟩⟩
structure SI(m:Pl)(j:Jn):Prop where
 ji:JI m j
 st:∀d,d<6→Zul (Xp j d)
theorem SI.boot{m:Pl}{j:Jn}(h:SI m j):SI { m with off:=false,cut:=-1 } ⟨Zq m.b,false⟩:=⟨h.ji.boot,fun d hd=>by have:=h.st d hd;unfold Xp at *;rw[h.ji.l]at this;exact this⟩
theorem SI.cut{m:Pl}{j:Jn}(h:SI m j){n:Int}(h0:0≤n)(h1:n≤9223372036854775807):SI { m with cut:=n } j:=⟨h.ji.cut h0 h1,h.st⟩
theorem Zhl{id:Int}{ref:Int→Bool}{m:Pl}{j:Jn}(h:SI m j)(f:Fr):SI (Zu id ref m j f).1 (Zu id ref m j f).2.1∧(Zu id ref m j f).1.b.length=m.b.length∧(∀d,d<6→stLe (Xp j d) (Xp (Zu id ref m j f).2.1 d))∧
  (((Zu id ref m j f).2.2.1=[])∨(¬ Wc f∧f.to=id∧(Zu id ref m j f).2.2.2=none∧(Xg ref f (Xp j f.dl.toNat)).2.1≠0∧Xp (Zu id ref m j f).2.1 f.dl.toNat=(Xg ref f (Xp j f.dl.toNat)).1∧
   (∀d,d<6→d≠f.dl.toNat→Xp (Zu id ref m j f).2.1 d=Xp j d)∧
   (Zu id ref m j f).2.2.1=[⟨id,f.fr,f.dl,(Xg ref f (Xp j f.dl.toNat)).2.1,f.att,(Xg ref f (Xp j f.dl.toNat)).2.2,(Xg ref f (Xp j f.dl.toNat)).1⟩])):=by
 unfold Zu
 have same:∀d,d<6→stLe (Xp j d) (Xp j d):=fun d hd=>Zay (h.st d hd)
 by_cases hb:Wc f
 ·simp only[Z2d hb]
  exact⟨h,by trivial,same,.inl (by trivial)⟩
 simp only[Z16 hb]
 by_cases hto:f.to=id
 ·simp only[ne_eq,hto,Z36,Z3h]
  have hb2:=hb
  unfold Wc at hb2
  obtain⟨d,hd⟩:=Z2t (show 0≤f.dl by omega)
  have hd6:d<6:=by omega
  rw[hd]
  simp only[Z2w]
  show _∧_∧_∧_
  have ht:=Zrh (ref:=ref) (h.st d hd6) hb
  change Zul (Xg ref f (j.l.getD d Zl).s).1∧stLe (Xp j d) (Xg ref f (j.l.getD d Zl).s).1 at ht
  have est:Xp j d=(j.l.getD d Zl).s:=rfl
  rw[est]
  generalize htr:Xg ref f (j.l.getD d Zl).s=tr at*
  have hp:=Zkm h.ji d tr.1
  generalize X2 m j d tr.1=r at*
  obtain⟨m',j',er⟩:=r
  simp only at hp ⊢
  obtain⟨hJ,hL,hp⟩:=hp
  rcases hp with⟨hl,he⟩|⟨hnb,he,ho,ho',hp⟩
  ·have hsame:∀q,Xp j' q=Xp j q:=fun q=>by unfold Xp;rw[hl]
   have hS:SI m' j':=⟨hJ,fun q hq=>by rw[hsame];exact h.st q hq⟩
   have he2:∃x,er=some x:=by
    rcases he with⟨he,-⟩|⟨he,-⟩|⟨he,-⟩<;>exact⟨_,he⟩
   obtain⟨x,rfl⟩:=he2
   exact⟨hS,hL,fun q hq=>by rw[hsame];exact same q hq,.inl rfl⟩
  ·subst he
   simp only[Z2w]at hp
   have hlen:j.l.length=6:=h.ji.jn.len
   have hst':Xp j' d=tr.1∧∀q,q≠d→Xp j' q=Xp j q:=by
    rcases hp with⟨h1,h2,-⟩|⟨h1,h2⟩
    ·refine⟨by unfold Xp;rw[h2,h1],fun q _=>by unfold Xp;rw[h2]⟩
    ·refine⟨by unfold Xp;rw[h2];simp[List.getD,hlen,hd6],fun q hq=>by unfold Xp;rw[h2];simp[List.getD,Z2z,Ne.symm hq]⟩
   have hS:SI m' j':=⟨hJ,fun q hq=>by
    by_cases e:q=d
    ·rw[e,hst'.1];exact ht.1
    ·rw[hst'.2 q e];exact h.st q hq⟩
   refine⟨hS,hL,fun q hq=>?_,?_⟩
   ·by_cases e:q=d
    ·rw[e,hst'.1];exact ht.2
    ·rw[hst'.2 q e];exact same q hq
   ·by_cases hk:tr.2.1=0
    ·exact .inl (Z2d hk)
    ·exact .inr ⟨hb,by trivial,rfl,hk,hst'.1,fun q _ hq=>hst'.2 q hq,Z16 hk⟩
 ·simp only[ne_eq,hto,Z6p,Z4d]
  exact⟨h,by trivial,same,.inl (by trivial)⟩
attribute [local irreducible] HW HO HQ HD HC QOp Has Upd Yi Gets Vv W6 Xn Zaf Wa Yz Zcl Xy
theorem Zxc(s:St)(b:Nat)(p:Int)(L:Za){F:Nat}{fr:Nat × Nat}(hb:Has L b (.cells ⟨[iv p]⟩ F fr)):
  HC prog 181 [.agg ⟨sc s⟩,pt b 0] L (fun v L'=>v=.bool (decide (s.ph=p))∧L'=L):=by
 refine uE func181 ntmps181 ?_
 repeat' (first|refine uN ?_|(refine uB ?_;intro b)|fail)
 (refine Y1 rfl rfl ?_ ⟨?_,rfl⟩;(next=>(repeat (first|exact Z15 _|apply List.Sublist.cons))))
 rfl
theorem Zp4{xs:List St}{f:St→Bool}{j:Int}(h0:0≤j)(hlt:j<xs.length)(hn:(xs.take j.toNat).any f=false)(h:f (xs[j.toNat]'(by omega))=true):xs.any f=true∧(xs.findIdx f:Int)=j:=by
 have hj:j.toNat<xs.length:=by omega
 refine⟨Z4l.2 ⟨_,Z3c hj,h⟩,?_⟩
 have:xs.findIdx f=j.toNat:=by
  rw[List.findIdx_eq hj]
  refine⟨h,fun k hk=>?_⟩
  rw[Z4y]at hn
  have hk':k<(xs.take j.toNat).length:=by simp;omega
  have:=hn _ (Z3c hk')
  rw[List.getElem_take]at this
  simpa using this
 omega
theorem Zst(a:Option Addr)(cap:Nat)(xs:List St)(F:Nat)(cs:List Value)(f:St→Bool)(L:Za)(hR:Rd sc 3 L a xs)(hl:xs.length≤1000000)
  (hf:∀s,HC prog F (.agg ⟨sc s⟩::cs) L (fun v L'=>v=.bool (f s)∧L'=L)):
  HC prog 254 [.slice a xs.length cap,.func (.func F) #[] ⟨cs⟩] L (fun v L'=>v=iv (if xs.any f then (xs.findIdx f:Int) else -1)∧L'=L):=by
 refine uE func254 ntmps254 ?_
 repeat' (first|refine uN ?_|(refine uP ?_ ?_<;>intro h<;>try exact zx)|fail)
 refine Zm (σ:=Int) (fun j=>[(0,.slice a xs.length cap),(1,.func (.func F) #[] ⟨cs⟩),(6,.slice a xs.length cap),(7,iv xs.length),(8,iv j)]) (fun _=>L) (fun j=>0≤j∧j≤xs.length∧(xs.take j.toNat).any f=false) (fun j=>(xs.length-j).toNat) 0 uS (Z15 _) ⟨by omega,by omega,by simp⟩ ?_
 rintro j ⟨h0,h1,h2⟩
 by_cases hlt:j<xs.length
 ·obtain⟨b,i,l,E,fr,rfl,hb,hg⟩:=hR.at h0 hlt
  repeat' (first|refine uN ?_|refine uC (hf _) ?_|(refine uP ?_ ?_<;>intro h<;>try exact zx)|fail)
  ·(refine Y1 rfl rfl ?_ ⟨?_,rfl⟩;(next=>(repeat (first|exact Z15 _|apply List.Sublist.cons))))
   obtain⟨e1,e2⟩:=Zp4 h0 hlt h2 (by assumption)
   rw[Z2d e1,e2]
  ·exact Zn (j+1) uS (Z15 _) ⟨by omega,by omega,by rw[U4 h0 hlt,Z65,h2];simp[*]⟩ (by omega)
 ·repeat' (first|refine uN ?_|(refine uP ?_ ?_<;>intro h<;>try exact zx)|fail)
  (refine Y1 rfl rfl ?_ ⟨?_,rfl⟩;(next=>(repeat (first|exact Z15 _|apply List.Sublist.cons))))
  rw[Zad hlt]at h2
  rw[Z16 (by simp[h2])]
theorem Zk7(a:Option Addr)(cap:Nat)(xs:List St)(F:Nat)(cs:List Value)(f:St→Bool)(L:Za)(hR:Rd sc 3 L a xs)(hl:xs.length≤1000000)
  (hf:∀s,HC prog F (.agg ⟨sc s⟩::cs) L (fun v L'=>v=.bool (f s)∧L'=L)):
  HC prog 180 [.slice a xs.length cap,.func (.func F) #[] ⟨cs⟩] L (fun v L'=>v=.bool (xs.any f)∧L'=L):=by
 refine uE func180 ntmps180 ?_
 repeat' (first|refine uN ?_|refine uC (Zst _ _ _ _ _ f _ hR hl hf) ?_|fail)
 (refine Y1 rfl rfl ?_ ⟨?_,rfl⟩;(next=>(repeat (first|exact Z15 _|apply List.Sublist.cons))))
 refine congrArg Value.bool ?_
 cases hx:xs.any f<;>simp
theorem Zog(p:Int)(a:Option Addr)(cap:Nat)(xs:List St)(L:Za)(b E:Nat)(fr:Nat × Nat)(hb:Has L b (.cells ⟨[.slice a xs.length cap]⟩ E fr))(hR:Rd sc 3 L a xs)(hl:xs.length≤1000000):
  HC prog 179 [iv p,pt b 0] L (fun v L'=>v=.bool (Zch xs p)∧L'=L):=by
 refine uE func179 ntmps179 ?_
 repeat' (first|refine uN ?_|refine X7 (qC (Zk7 _ _ _ _ _ (fun s=>decide (s.ph=p)) _ (hR.cons _) hl (fun s=>Zxc s _ p _ Zk))) ?_|(refine uB ?_;intro b)|fail)
 (refine Y1 rfl rfl ?_ ⟨?_,rfl⟩;(next=>(repeat (first|exact Z15 _|apply List.Sublist.cons))))
 rfl
def Zpd(m s:St):St:=if prep s then (if m.ph=0∨m.att<s.att∨(s.att=m.att∧s.ph=4) then s else m) else m
def Zan(xs:List St):St:=xs.foldl Zpd ⟨0,0,0⟩
theorem Zk0(xs:List St)(s:St):Zan (xs++[s])=Zpd (Zan xs) s:=by simp[Zan]
def BI(xs:List St)(m:St)(b:Int × Bool):Prop:=
 (m=⟨0,0,0⟩∧b=(0,true)∧∀s∈xs,prep s=false)∨
 (b=(m.att,false)∧(m.ph=4∧(∃s∈xs,s.ph=4∧s.att=m.att)∨m.ph=5∧∀s∈xs,¬ (s.ph=4∧s.att=m.att))∧∀s∈xs,prep s=true→s.att≤m.att)
theorem bi_step(xs:List St)(m s:St)(b:Int × Bool)(h:BI xs m b):BI (xs++[s]) (Zpd m s) (U0 [s] b.1 b.2):=by
 unfold BI at*
 simp only[U0,Zpd,Z2f,Z3j]
 by_cases hp:prep s=true
 ·have hp':s.ph=4∨s.ph=5:=by simpa[prep] using hp
  rw[Z2d hp,Z2d hp]
  right
  rcases h with⟨rfl,rfl,hall⟩|⟨rfl,hm,hle⟩
  ·simp only[Bool.true_or,Z4d,true_or]
   refine⟨trivial,?_,?_⟩
   ·rcases hp' with h4|h5
    ·exact .inl ⟨h4,s,.inr rfl,h4,rfl⟩
    ·refine .inr ⟨h5,fun x hx h=>?_⟩
     rcases hx with hx|rfl
     ·have:=hall x hx;simp[prep,h.1]at this
     ·omega
   ·intro x hx hpx
    rcases hx with hx|rfl
    ·rw[hall x hx]at hpx;cases hpx
    ·omega
  ·have hm0:m.ph≠0:=by rcases hm with h|h<;>omega
   simp only[Bool.false_or,Z3r]
   by_cases hlt:m.att<s.att
   ·rw[Z2d hlt,Z2d (.inr (.inl hlt))]
    refine⟨rfl,?_,?_⟩
    ·rcases hp' with h4|h5
     ·exact .inl ⟨h4,s,.inr rfl,h4,rfl⟩
     ·refine .inr ⟨h5,fun x hx h=>?_⟩
      rcases hx with hx|rfl
      ·have:=hle x hx (by simp[prep,h.1]);omega
      ·omega
    ·intro x hx hpx
     rcases hx with hx|rfl
     ·have:=hle x hx hpx;omega
     ·omega
   ·rw [Z16 hlt]
    by_cases he:s.att=m.att∧s.ph=4
    ·rw[Z2d (.inr (.inr he))]
     refine⟨by rw[he.1],.inl ⟨he.2,s,.inr rfl,he.2,rfl⟩,?_⟩
     intro x hx hpx
     rcases hx with hx|rfl
     ·have:=hle x hx hpx;omega
     ·omega
    ·rw[Z16 (by simp[hm0,hlt];omega)]
     refine⟨rfl,?_,?_⟩
     ·rcases hm with⟨h4,x,hx,hx2⟩|⟨h5,hno⟩
      ·exact .inl ⟨h4,x,.inl hx,hx2⟩
      ·refine .inr ⟨h5,fun x hx h=>?_⟩
       rcases hx with hx|rfl
       ·exact hno x hx h
       ·exact he ⟨h.2,h.1⟩
     ·intro x hx hpx
      rcases hx with hx|rfl
      ·exact hle x hx hpx
      ·omega
 ·have hp':prep s=false:=by simpa using hp
  have h4:s.ph≠4:=fun e=>by simp[prep,e]at hp
  rw[Z16 hp,Z16 hp]
  rcases h with⟨rfl,rfl,hall⟩|⟨rfl,hm,hle⟩
  ·refine .inl ⟨rfl,rfl,fun x hx=>?_⟩
   rcases hx with hx|rfl
   ·exact hall x hx
   ·exact hp'
  ·refine .inr ⟨rfl,?_,fun x hx hpx=>?_⟩
   ·rcases hm with⟨h4',x,hx,hx2⟩|⟨h5,hno⟩
    ·exact .inl ⟨h4',x,.inl hx,hx2⟩
    ·refine .inr ⟨h5,fun x hx h=>?_⟩
     rcases hx with hx|rfl
     ·exact hno x hx h
     ·exact h4 h.1
   ·rcases hx with hx|rfl
    ·exact hle x hx hpx
    ·rw[hp']at hpx;cases hpx
theorem bi_all(xs:List St):BI xs (Zan xs) (U0 xs 0 true):=by
 have key:∀ys:List St,BI ys.reverse (Zan ys.reverse) (U0 ys.reverse 0 true):=by
  intro ys
  induction ys with
  | nil=>exact .inl ⟨rfl,rfl,by simp⟩
  | cons s ys ih=>
   rw[List.reverse_cons,Zk0,U7]
   exact bi_step _ _ s _ ih
 simpa using key xs.reverse
theorem best_inv(xs:List St):
  (Zan xs=⟨0,0,0⟩∧(U0 xs 0 true)=(0,true)∧xs.all (fun s => !prep s)=true)∨
  ((Zan xs).ph=4∧U0 xs 0 true=((Zan xs).att,false)∧xs.any (fun s=>decide (s.ph=4∧s.att=(Zan xs).att))=true)∨
  ((Zan xs).ph=5∧U0 xs 0 true=((Zan xs).att,false)∧xs.any (fun s=>decide (s.ph=4∧s.att=(Zan xs).att))=false):=by
 rcases bi_all xs with⟨h1,h2,h3⟩|⟨h1,h2|h2,h3⟩
 ·exact .inl ⟨h1,h2,by simpa using h3⟩
 ·refine .inr (.inl ⟨h2.1,h1,?_⟩)
  simp only[Z4l,Z3r]
  exact h2.2
 ·refine .inr (.inr ⟨h2.1,h1,?_⟩)
  rw[Z4y]
  intro x hx
  simpa using h2.2 x hx
theorem Zpq(a:Option Addr)(cap:Nat)(xs:List St)(L:Za)(hR:Rd sc 3 L a xs)(hl:xs.length≤1000000):HC prog 132 [.slice a xs.length cap] L (fun v L'=>v=.tuple ⟨[iv (Yc xs).1,.bool (Yc xs).2]⟩∧L'=L):=by
 refine uE func132 ntmps132 ?_
 repeat' (first|refine uN ?_|(refine uB ?_;intro b)|(refine uP ?_ ?_<;>intro h<;>try exact zx)|fail)
 rename_i b1
 refine Zm (σ:=Int) (fun j=>[(1,pt b1 0),(4,.func (.func 179) #[] ⟨[pt b1 0]⟩),(11,sl b 0 2 2),(12,iv 2),(13,iv j)]) (fun _=>[(b,.cells ⟨[iv 2,iv 3]⟩ 3)]::[(b1,.cells ⟨[.slice a xs.length cap]⟩ 37)]::L)
  (fun j=>0≤j∧j≤2∧(1≤j→Zch xs 2=false)∧(2≤j→Zch xs 3=false)) (fun j=>(2-j).toNat) 0 uS (Z15 _) ⟨by omega,by omega,by omega,by omega⟩ ?_
 rintro j ⟨h0,h1,h2,h3⟩
 have hj:j=0∨j=1∨j=2:=by omega
 rcases hj with rfl|rfl|rfl
 ·repeat' (first|refine uN ?_|refine uC (Zog _ _ _ _ _ _ _ _ (Zb Zk) ((hR.cons _).cons _) hl) ?_|(refine uB ?_;intro b)|(refine uP ?_ ?_<;>intro h<;>try exact zx)|fail)
  ·(refine Wl rfl rfl rfl ?_ ⟨?_,rfl⟩;(next=>(repeat (first|exact Z15 _|apply List.Sublist.cons))))
   simp[Yc, *]
  ·exact Zn 1 uS (Z15 _) ⟨by omega,by omega,fun _=>by assumption,by omega⟩ (by decide)
 ·repeat' (first|refine uN ?_|refine uC (Zog _ _ _ _ _ _ _ _ (Zb Zk) ((hR.cons _).cons _) hl) ?_|(refine uB ?_;intro b)|(refine uP ?_ ?_<;>intro h<;>try exact zx)|fail)
  ·(refine Wl rfl rfl rfl ?_ ⟨?_,rfl⟩;(next=>(repeat (first|exact Z15 _|apply List.Sublist.cons))))
   have e:=h2 (by omega)
   simp[Yc, *]
  ·exact Zn 2 uS (Z15 _) ⟨by omega,by omega,fun _=>h2 (by omega),fun _=>by assumption⟩ (by decide)
 ·have e2:=h2 (by omega)
  have e3:=h3 (by omega)
  repeat' (first|refine uN ?_|(refine uB ?_;intro b)|(refine uP ?_ ?_<;>intro h<;>try exact zx)|fail)
  clear h0 h1 h2 h3
  refine Zm (σ:=Int × St) (fun s=>[(7,pt b 0),(22,.slice a xs.length cap),(23,iv xs.length),(24,iv s.1)]) (fun s=>[(b,.cells ⟨sc s.2⟩ 43)]::L)
   (fun s=>0≤s.1∧s.1≤xs.length∧Zan (xs.take s.1.toNat)=s.2) (fun s=>(xs.length-s.1).toNat) (0,⟨0,0,0⟩) uS (by exact .cons_cons _ (.cons _ (.cons _ (.refl _)))) ⟨by simp,by simp,by simp[Zan]⟩ ?_
  rintro⟨j,m⟩ ⟨j0,j1,hm⟩
  simp only at j0 j1 hm
  by_cases hlt:j<xs.length
  ·obtain⟨bb,i,l,E,fr,rfl,hb,hg⟩:=hR.at j0 hlt
   have e:=Zk0 (xs.take j.toNat) (xs[j.toNat]'(by omega))
   rw[← U4 j0 hlt,hm]at e
   clear hm
   repeat' (first|refine uN ?_|(refine uB ?_;intro b)|(refine uP ?_ ?_<;>intro h<;>try exact zx)|fail)
   all_goals first
    | ((refine Zn (j+1,xs[j.toNat]'(by omega)) ?_ ?_ ?_ ?_;(next=>(repeat (first|exact trivial|refine⟨rfl,?_⟩)));(next=>(repeat (first|exact Z15 _|apply List.Sublist.cons))));(next=>refine⟨?_,?_,?_⟩;(next=>show 0≤j+1;omega);(next=>show j+1≤(xs.length:Int);omega);(next=>show Zan (List.take (j+1).toNat xs)=_;rw[e];simp[Zpd,prep, *];done));(next=>show (xs.length-(j+1)).toNat<(xs.length-j).toNat;omega))
    | ((refine Zn (j+1,m) ?_ ?_ ?_ ?_;(next=>(repeat (first|exact trivial|refine⟨rfl,?_⟩)));(next=>(repeat (first|exact Z15 _|apply List.Sublist.cons))));(next=>refine⟨?_,?_,?_⟩;(next=>show 0≤j+1;omega);(next=>show j+1≤(xs.length:Int);omega);(next=>show Zan (List.take (j+1).toNat xs)=_;rw[e];simp[Zpd,prep, *];done));(next=>show (xs.length-(j+1)).toNat<(xs.length-j).toNat;omega))
  ·rw [Zad hlt]at hm
   have hinv:=best_inv xs
   rw[hm]at hinv
   repeat' (first|refine uN ?_|(refine uB ?_;intro b)|(refine uP ?_ ?_<;>intro h<;>try exact zx)|fail)
   ·(refine Wl rfl rfl rfl ?_ ⟨?_,rfl⟩;(next=>(repeat (first|exact Z15 _|apply List.Sublist.cons))))
    have e4:Yc xs=(5,false):=by
     unfold Yc
     rw[Z16 (by simp[*]),Z16 (by simp[*])]
     rcases hinv with⟨rfl,h5,h6⟩|⟨h4,-,-⟩|⟨h4,-,-⟩
     ·rw[Z16]
      simp only[Z4l,not_exists,not_and,Z3r]
      intro x hx h4
      have:=Z2u.1 h6 x hx
      simp[prep,h4]at this
     ·simp_all
     ·simp_all
    rw[e4]
   ·(refine Wl rfl rfl rfl ?_ ⟨?_,rfl⟩;(next=>(repeat (first|exact Z15 _|apply List.Sublist.cons))))
    have e4:Yc xs=(m.ph,false):=by
     unfold Yc
     rw[Z16 (by simp[*]),Z16 (by simp[*])]
     rcases hinv with⟨rfl,h5,h6⟩|⟨h4,h5,h6⟩|⟨h4,h5,h6⟩
     ·simp_all
     ·rw[h5,Z2d h6,h4]
     ·rw[h5,Z16 (by rw[h6];simp),h4]
    rw[e4]
def Zag(n:Nat):Nat:=if n=0 then 0 else Nat.log2 n+1
theorem blen_le{n k:Nat}:Zag n≤k↔n<2 ^ k:=by
 unfold Zag
 split
 ·rename_i h
  subst h
  simp[Z3p]
 ·rename_i h
  rw[← Nat.log2_lt h]
  omega
theorem Zk1{n k:Nat}(h:2 ^ k≤n):Zag n=Zag (n / 2 ^ k)+k:=by
 have key:∀j,Zag n≤j↔Zag (n / 2 ^ k)+k≤j:=fun j=>by
  constructor
  ·intro h1
   have h2:=blen_le.1 h1
   have h3:k<j:=by
    rcases Z5x k j with h3|h3
    ·exact h3
    ·have:=Z3e (n:=2) (by decide) h3
     omega
   have h4:Zag (n / 2 ^ k)≤j-k:=blen_le.2 (by
    rw[Nat.div_lt_iff_lt_mul (Z3p k),← Nat.pow_add,Nat.sub_add_cancel (by omega)]
    exact h2)
   omega
  ·intro h1
   have h4:Zag (n / 2 ^ k)≤j-k:=by omega
   have h5:=blen_le.1 h4
   rw[Nat.div_lt_iff_lt_mul (Z3p k),← Nat.pow_add,Nat.sub_add_cancel (by omega)]at h5
   exact blen_le.2 h5
 have h1:=(key (Zag n)).1 (Z21 _)
 have h2:=(key (Zag (n / 2 ^ k)+k)).2 (Z21 _)
 omega
theorem tab_ok{l:List UInt8}(h:((List.range 256).all fun i=>Nat.beq (l.getD i 0).toNat (Zag i))=true){i:Nat}(hi:i<256):(l.getD i 0).toNat=Zag i:=
 Z2a (Z2u.1 h i (Z4w.2 hi))
theorem ho_len8{P:Program}(S:Tab P){n:Nat}{ops:List Oper}{Q:Exit→Z9→Za→Prop}{rest:List Oper}{ρ:Z9}{L:Za}{ty:TypeId}{pos:String}{af:Array Edge}{d t:Nat}{l:List UInt8}{k:IntKind}{j:Int}{ti:TyI}{y:Operand}{c:Value}
  (hc:c=bs l)(hy:ev ρ y=some (.int k j))(ht:Yj S.ty t=some ti)(hk:Nat.beq ti.kind 3=true)(hn:Nat.blt d n=true)(hl:Nat.beq l.length 256=true)(htab:((List.range 256).all fun i=>Nat.beq (l.getD i 0).toNat (Zag i))=true)(hj:0≤j∧j<256)
  (h:∀m:Nat,m=Zag j.toNat→m≤8→HO P n ops Q rest ((d,.int .u8 (m:Int))::ρ) L):HO P n ops Q (⟨some d,.index t (.const c) y,ty,pos,af,none⟩::rest) ρ L:=by
 have h1:=h _ rfl (blen_le.2 (by omega))
 rw[← tab_ok htab (i:=j.toNat) (by omega)]at h1
 exact ho_go rfl hn (q_ixT S hc hy ht hk hl hj) h1
theorem Zs1(n:Nat)(hn:n<18446744073709551616)(L:Za):HC prog 286 [.int .u64 n] L (fun v L'=>v=iv (Zag n)∧L'=L):=by
 refine uE func286 ntmps286 ?_
 repeat' (first|refine uN ?_|(refine uP ?_ ?_<;>intro h<;>try exact zx)|fail)
 all_goals try simp only[Int.reduceToNat,Int.reducePow] at*
 all_goals (apply ho_len8 S;(case hc=>exact rfl);(case hy=>exact rfl);(case ht=>exact rfl);(case hk=>exact rfl);(case hn=>exact rfl);(case hl=>exact rfl);(case htab=>decide +kernel);(case hj=>omega);(case' h=>intro m hm hm8))
 all_goals repeat' (first|refine uN ?_|(refine uP ?_ ?_<;>intro h<;>try exact zx)|fail)
 all_goals (refine Y1 rfl rfl ?_ ⟨?_,rfl⟩;(next=>(repeat (first|exact Z15 _|apply List.Sublist.cons))))
 all_goals refine congrArg iv ?_
 all_goals (have e1:∀x,4294967296≤x→Zag x=Zag (x / 4294967296)+32:=fun x hx=>Zk1 (k:=32) hx)
 all_goals (have e2:∀x,65536≤x→Zag x=Zag (x / 65536)+16:=fun x hx=>Zk1 (k:=16) hx)
 all_goals (have e3:∀x,256≤x→Zag x=Zag (x / 256)+8:=fun x hx=>Zk1 (k:=8) hx)
 all_goals first
  | (have g0:=e1 (n) (by omega);have g1:=e2 (n / 4294967296) (by omega);have g2:=e3 (n / 4294967296 / 65536) (by omega);have g9:((n:Int) / 4294967296 / 65536 / 256).toNat=n / 4294967296 / 65536 / 256:=(by omega);rw[g9]at hm;omega)
  | (have g0:=e1 (n) (by omega);have g1:=e2 (n / 4294967296) (by omega);have g9:((n:Int) / 4294967296 / 65536).toNat=n / 4294967296 / 65536:=(by omega);rw[g9]at hm;omega)
  | (have g0:=e1 (n) (by omega);have g1:=e3 (n / 4294967296) (by omega);have g9:((n:Int) / 4294967296 / 256).toNat=n / 4294967296 / 256:=(by omega);rw[g9]at hm;omega)
  | (have g0:=e1 (n) (by omega);have g9:((n:Int) / 4294967296).toNat=n / 4294967296:=(by omega);rw[g9]at hm;omega)
  | (have g0:=e2 (n) (by omega);have g1:=e3 (n / 65536) (by omega);have g9:((n:Int) / 65536 / 256).toNat=n / 65536 / 256:=(by omega);rw[g9]at hm;omega)
  | (have g0:=e2 (n) (by omega);have g9:((n:Int) / 65536).toNat=n / 65536:=(by omega);rw[g9]at hm;omega)
  | (have g0:=e3 (n) (by omega);have g9:((n:Int) / 256).toNat=n / 256:=(by omega);rw[g9]at hm;omega)
  | (have g9:((n:Int)).toNat=n:=(by omega);rw[g9]at hm;omega)
theorem Z0k(n:Nat)(hn:n<18446744073709551616)(L:Za):HC prog 253 [.int .u64 n] L (fun v L'=>v=iv (Zag n)∧L'=L):=by
 refine uE func253 ntmps253 ?_
 repeat' (first|refine uN ?_|refine uC (Zs1 _ hn _) ?_|(refine uP ?_ ?_<;>intro h<;>try exact zx)|fail)
 all_goals (refine Y1 rfl rfl ?_ ⟨?_,rfl⟩;(next=>(repeat (first|exact Z15 _|apply List.Sublist.cons))))
 all_goals rfl
def mx:List Int→Int
 | []=>0
 | x::r=>r.foldl max x
theorem mx_snoc{l:List Int}{y:Int}(h:l≠[]):mx (l++[y])=max (mx l) y:=by
 cases l with
 | nil=>exact absurd rfl h
 | cons x r=>simp[mx]
theorem Z0q(a:Option Addr)(cap:Nat)(xs:List Int)(L:Za)(hR:Rd ic 1 L a xs)(h1:1≤xs.length)(hl:xs.length≤1000000):
  HC prog 119 [.slice a xs.length cap] L (fun v L'=>v=iv (mx xs)∧L'=L):=by
 refine uE func119 ntmps119 ?_
 obtain⟨b,i,l,E,fr,rfl,hb,hg⟩:=hR.at1 (j:=0) (by omega) (by omega)
 repeat' (first|refine uN ?_|(refine uP ?_ ?_<;>intro h<;>try exact zx)|fail)
 refine Zm (σ:=Int × Int) (fun s=>[(0,.slice (some ⟨b,i,none⟩) xs.length cap),(3,iv s.2),(4,iv s.1)]) (fun _=>L) (fun s=>1≤s.1∧s.1≤xs.length∧mx (xs.take s.1.toNat)=s.2) (fun s=>(xs.length-s.1).toNat) (1,xs[Int.toNat 0]) uS (Z15 _) ⟨by simp,by simp;omega,?_⟩ ?_
 ·cases xs with
  | nil=>simp at h1
  | cons x r=>rfl
 clear hb hg
 rintro⟨j,m⟩ ⟨h0,h2,hm⟩
 simp only at h0 h2 hm
 by_cases hlt:j<xs.length
 ·obtain⟨b',i',l',E',fr',e,hb',hg'⟩:=hR.at1 (j:=j) (by omega) hlt
  cases e
  repeat' (first|refine uN ?_|(refine uP ?_ ?_<;>intro h<;>try exact zx)|fail)
  refine Zn (j+1,_) uS (Z15 _) ⟨by show 1≤j+1;omega,by show j+1≤(xs.length:Int);omega,?_⟩ (by show (xs.length-(j+1)).toNat<(xs.length-j).toNat;omega)
  show mx (xs.take (j+1).toNat)=_
  rw[U4 (by omega) hlt,mx_snoc (by intro e;have h5:(xs.take j.toNat).length=0:=(by rw[e];rfl);rw[Z3g]at h5;omega),hm]
 ·repeat' (first|refine uN ?_|(refine uP ?_ ?_<;>intro h<;>try exact zx)|fail)
  (refine Y1 rfl rfl ?_ ⟨?_,rfl⟩;(next=>(repeat (first|exact Z15 _|apply List.Sublist.cons))))
  rw[Zad hlt]at hm
  rw[hm]
theorem Zzo(x:Int)(L:Za):HC prog 118 [iv x] L (fun v L'=>v=.bool (decide (x<0∨1000<x))∧L'=L):=by
 refine uE func118 ntmps118 ?_
 repeat' (first|refine uN ?_|(refine uP ?_ ?_<;>intro h<;>try exact zx)|fail)
 all_goals (refine Y1 rfl rfl ?_ ⟨?_,rfl⟩;(next=>(repeat (first|exact Z15 _|apply List.Sublist.cons))))
 all_goals (refine congrArg Value.bool ?_;first|(refine Eq.symm (Z29 ?_);omega)|(refine Eq.symm (Z3t ?_);omega)|(refine Z5i.2 ?_;omega))
theorem Znn{α:Type}{xs:List α}{f:α→Bool}{j:Int}(h0:0≤j)(hlt:j<xs.length)(hn:(xs.take j.toNat).any f=false)(h:f (xs[j.toNat]'(by omega))=true):xs.any f=true∧(xs.findIdx f:Int)=j:=by
 have hj:j.toNat<xs.length:=by omega
 refine⟨Z4l.2 ⟨_,Z3c hj,h⟩,?_⟩
 have:xs.findIdx f=j.toNat:=by
  rw[List.findIdx_eq hj]
  refine⟨h,fun k hk=>?_⟩
  rw[Z4y]at hn
  have hk':k<(xs.take j.toNat).length:=by simp;omega
  have:=hn _ (Z3c hk')
  rw[List.getElem_take]at this
  simpa using this
 omega
theorem Zp7(a:Option Addr)(cap:Nat)(xs:List Int)(F:Nat)(cs:List Value)(f:Int→Bool)(L:Za)(hR:Rd ic 1 L a xs)(hl:xs.length≤1000000)
  (hf:∀s,HC prog F (iv s::cs) L (fun v L'=>v=.bool (f s)∧L'=L)):
  HC prog 175 [.slice a xs.length cap,.func (.func F) #[] ⟨cs⟩] L (fun v L'=>v=iv (if xs.any f then (xs.findIdx f:Int) else -1)∧L'=L):=by
 refine uE func175 ntmps175 ?_
 repeat' (first|refine uN ?_|(refine uP ?_ ?_<;>intro h<;>try exact zx)|fail)
 refine Zm (σ:=Int) (fun j=>[(0,.slice a xs.length cap),(1,.func (.func F) #[] ⟨cs⟩),(6,.slice a xs.length cap),(7,iv xs.length),(8,iv j)]) (fun _=>L) (fun j=>0≤j∧j≤xs.length∧(xs.take j.toNat).any f=false) (fun j=>(xs.length-j).toNat) 0 uS (Z15 _) ⟨by omega,by omega,by simp⟩ ?_
 rintro j ⟨h0,h1,h2⟩
 by_cases hlt:j<xs.length
 ·obtain⟨b,i,l,E,fr,rfl,hb,hg⟩:=hR.at1 h0 hlt
  repeat' (first|refine uN ?_|refine uC (hf _) ?_|(refine uP ?_ ?_<;>intro h<;>try exact zx)|fail)
  ·(refine Y1 rfl rfl ?_ ⟨?_,rfl⟩;(next=>(repeat (first|exact Z15 _|apply List.Sublist.cons))))
   obtain⟨e1,e2⟩:=Znn h0 hlt h2 (by assumption)
   rw[Z2d e1,e2]
  ·exact Zn (j+1) uS (Z15 _) ⟨by omega,by omega,by rw[U4 h0 hlt,Z65,h2];simp[*]⟩ (by omega)
 ·repeat' (first|refine uN ?_|(refine uP ?_ ?_<;>intro h<;>try exact zx)|fail)
  (refine Y1 rfl rfl ?_ ⟨?_,rfl⟩;(next=>(repeat (first|exact Z15 _|apply List.Sublist.cons))))
  rw[Zad hlt]at h2
  rw[Z16 (by simp[h2])]
theorem Zjq(a:Option Addr)(cap:Nat)(xs:List Int)(F:Nat)(cs:List Value)(f:Int→Bool)(L:Za)(hR:Rd ic 1 L a xs)(hl:xs.length≤1000000)
  (hf:∀s,HC prog F (iv s::cs) L (fun v L'=>v=.bool (f s)∧L'=L)):
  HC prog 117 [.slice a xs.length cap,.func (.func F) #[] ⟨cs⟩] L (fun v L'=>v=.bool (xs.any f)∧L'=L):=by
 refine uE func117 ntmps117 ?_
 repeat' (first|refine uN ?_|refine uC (Zp7 _ _ _ _ _ f _ hR hl hf) ?_|fail)
 (refine Y1 rfl rfl ?_ ⟨?_,rfl⟩;(next=>(repeat (first|exact Z15 _|apply List.Sublist.cons))))
 refine congrArg Value.bool ?_
 cases hx:xs.any f<;>simp
 done
def Zpm(x:Int):Bool:=decide (x<0∨1000<x)
def Ys(ws:List Int):Option Nat:=if ws.length<1∨7<ws.length then some 3 else if ws.any Zpm then some 2 else if mx ws=0 then some 4 else none
theorem Zdp(T:Nat)(E:Nat→Addr)(a:Option Addr)(cap:Nat)(xs:List Int)(L:Za)(hG:Er T E [2,3,4] L)(hR:Rd ic 1 L a xs)(hl:xs.length≤1000000):
  HC prog 62 [.slice a xs.length cap] L (fun v L'=>v=eV T E (Ys xs)∧L'=L):=by
 refine uE func62 ntmps62 ?_
 repeat' (first|refine uN ?_|refine X7 (qC (Zjq _ _ _ _ _ Zpm _ hR hl (fun s=>Zzo s _))) ?_|refine X7 (qC (Z0q _ _ _ _ hR (by omega) hl)) ?_|(refine uP ?_ ?_<;>intro h<;>try exact zx)|fail)
 all_goals (refine Y1 rfl rfl ?_ ⟨?_,rfl⟩;(next=>(repeat (first|exact Z15 _|apply List.Sublist.cons))))
 all_goals (unfold Ys)
 all_goals first
  | (rw[Z2d (by omega)];rfl)
  | (rw[Z16 (by omega),Z2d (by assumption)];rfl)
  | (rw[Z16 (by omega),Z16 (by simp[*]),Z2d (by assumption)];rfl)
  | (rw[Z16 (by omega),Z16 (by simp[*]),Z16 (by assumption)];rfl)
end Go.HL
