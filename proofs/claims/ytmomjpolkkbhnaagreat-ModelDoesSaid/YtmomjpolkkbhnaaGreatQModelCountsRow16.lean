/- slices.rotateCmpFunc at elements of three cells: the walk. -/
import Derived.Deep.CutRange
import Derived.Test.YtmomjpolkkbhnaaGreatQModelCountsRow11
import Derived.Test.YtmomjpolkkbhnaaGreatQModelCountsRow7
set_option linter.unusedSectionVars false
set_option linter.unusedSimpArgs false
set_option linter.unusedVariables false
set_option maxRecDepth 20000
set_option maxHeartbeats 100000000
open Go.Proofs.Tryz
namespace Go.Proofs.YtmomjpolkkbhnaaGreat
namespace Ss
open Go.Shelf Go.RowKit Go.Lib Go.Sort
variable {α:Type} [Inhabited α] {enc:α→List Value}
theorem Bl(k:Nat)(hk2:k=3)(fv:Value)(blk off cap a m b:Nat)(d0 d:Array α)(w0 w:World)(R:RowK enc k w0 blk off d0)(hs:d.size=d0.size)(S:SWK enc k w0 blk off d w)(ham:a<m)(hmb:m<b)(hb:b≤d.size)(hsz:d.size<1099511627776) :
  Calls prog 177 #[.slice (some ⟨blk,off,none⟩) d.size cap,.int .i64 a,.int .i64 m,.int .i64 b,fv] w fun e w'=>
   e=.returned (.tuple #[])∧∃d',SWK enc k w0 blk off d' w'∧d'.size=d.size∧PermIn a b d d'∧∀x,d'[x]! = bZ d a m b x:=by
 have S0:Aside (SWK enc k w0 blk off d w):=S;have HK:=zh hk2;have HS:=zh hs;clear S hk2 hs;go_enter func177,ntmps177;go_wp2;go_loopw [10,11] (fun v10 v11 wr=>∃(i j:Nat) (dk:Array α),0<i∧0<j∧a+i≤m∧m+j≤b∧v10=.int .i64 (i:Nat)∧v11=.int .i64 (j:Nat)∧Aside (SWK enc k w0 blk off dk wr)∧dk.size=d.size∧Hid (PermIn a b d dk)∧Hid (∀x,bZ dk (m-i) m (m+j) x=bZ d a m b x)) (fun v10 v11 _=>(intOf v10).toNat+(intOf v11).toNat)
 case atStart=>exact⟨m-a,b-m,d,jo,jo,jo,jo,ju,ju,S0,rfl,zh (permIn_refl _ _ _),zh (fun x=>by rw[show m-(m-a)=a by omega,show m+(b-m)=b by omega])⟩
 clear S0;obtain⟨i,j,dk,hi0,hj0,him,hjb,rfl,rfl,S1,hds,HP,HX⟩:=hrel;by_cases hij:i=j
 ·subst hij;have hnn:¬((i:Int)≠(i:Int)):=jo;have e1:IntKind.i64.wrap ((m:Int)-(i:Int))=((m-i:Nat):Int):=by rw[IntKind.wrap_i64];omega
  have e2:(m:Int)-(i:Int)=((m-i:Nat):Int):=jo;have c1:=nu k HK.out fv blk off cap (m-i) m i d0 dk w0 wr R (hds.trans HS.out) S1.out jo jo jo;rw[hds]at c1;have C1:=zh c1;clear c1 S1;go_wp2_with fail;try rw[e2]
  refine C1.out.mono ?_;rintro e w2 ⟨rfl,d',S2,h1,h2,h3⟩;have Fin:Hid (SWK enc k w0 blk off d' w2∧d'.size=d.size∧PermIn a b d d'∧∀x,d'[x]! = bZ d a m b x):=zh ⟨S2,jo,permIn_trans _ _ _ _ _ HP.out (permIn_mono _ _ _ _ _ _ jo jo jo h2),fun x=>by rw[h3,JY _ _ _ jo,HX.out]⟩;clear C1 S2 h1 h2 h3 HP HX;go_wp2
  go_end0
  exact⟨rfl,d',Fin.out⟩
 have hnn:(i:Int)≠(j:Int):=jo;by_cases hgt:j<i
 ·have hgi:(j:Int)<(i:Int):=jo;have e2:(m:Int)-(i:Int)=((m-i:Nat):Int):=jo;have c1:=nu k HK.out fv blk off cap (m-i) m j d0 dk w0 wr R (hds.trans HS.out) S1.out jo jo jo;rw[hds]at c1;have C1:=zh c1;clear c1 S1;go_wp2_with fail;try rw[e2]
  refine C1.out.mono ?_;rintro e w2 ⟨rfl,d',S2,h1,h2,h3⟩;have S3:Aside (SWK enc k w0 blk off d' w2):=S2;have P3:Hid (PermIn a b d d'):=zh (permIn_trans _ _ _ _ _ HP.out (permIn_mono _ _ _ _ _ _ jo jo jo h2));have X3:Hid (∀x,bZ d' (m-(i-j)) m (m+j) x=bZ d a m b x):=zh (fun x=>by rw[JW dk d' m i j hgt jo h3,HX.out]);clear C1 S2 h2 h3 HP HX;go_wp2;go_roundw
  case rel=>exact⟨i-j,j,d',jo,jo,jo,jo,ju,ju,S3,jo,P3,X3⟩
  simp[intOf];omega
 have hgi:¬(j:Int)<(i:Int):=jo;have e2:(m:Int)-(i:Int)=((m-i:Nat):Int):=jo;have e3:(m:Int)+(j:Int)-(i:Int)=((m+j-i:Nat):Int):=jo;have c1:=nu k HK.out fv blk off cap (m-i) (m+j-i) i d0 dk w0 wr R (hds.trans HS.out) S1.out jo jo jo;rw[hds]at c1;have C1:=zh c1;clear c1 S1;go_wp2_with fail;try rw[e2]
 try rw[e3]
 refine C1.out.mono ?_;rintro e w2 ⟨rfl,d',S2,h1,h2,h3⟩;have S3:Aside (SWK enc k w0 blk off d' w2):=S2;have P3:Hid (PermIn a b d d'):=zh (permIn_trans _ _ _ _ _ HP.out (permIn_mono _ _ _ _ _ _ jo jo jo h2));have X3:Hid (∀x,bZ d' (m-i) m (m+(j-i)) x=bZ d a m b x):=zh (fun x=>by rw[JX dk d' m i j jo jo h3,HX.out]);clear C1 S2 h2 h3 HP HX;go_wp2;go_roundw
 case rel=>exact⟨i,j-i,d',jo,jo,jo,jo,ju,ju,S3,jo,P3,X3⟩
 simp[intOf];omega
end Ss

namespace Ss
open Go.Shelf Go.RowKit Go.Lib Go.Sort
variable {α:Type} [Inhabited α] {enc:α→List Value} {cf:α→α→Int} {tag:α→Nat}
def iM(enc:α→List Value)(cf:α→α→Int)(tag:α→Nat)(k:Nat)(w0:World)(blk off:Nat)(d:Array α)(a b:Nat)(e:Ending)(w':World):Prop:=
 e=.returned (.tuple #[])∧∃d',SWK enc k w0 blk off d' w'∧d'.size=d.size∧PermIn a b d d'∧Srt cf tag d' a b
set_option maxRecDepth 1000000 in
theorem FH(hW:SWO (ltOf cf))(k:Nat)(hk2:k=3)(g:Nat)(cb:Array Value)(blk off cap a m b:Nat)(hm:m=a+1)(d0 d:Array α)(w0 w:World)(eg:∀args w,(callFunc g args).run prog w=.ok (.enter g args) w)(hC:CmpLays prog g cb enc k cf blk off d0.size w0)
  (R:RowK enc k w0 blk off d0) (hs:d.size=d0.size) (S:SWK enc k w0 blk off d w) (hb:b≤d.size) (hab:a+1<b) (hsz:d.size<1099511627776) (hS2:Srt cf tag d (a+1) b) (hT:∀y,a+1≤y→y<b→tag d[a]!<tag d[y]!) :
  Calls prog 154 #[.slice (some ⟨blk,off,none⟩) d.size cap,.int .i64 a,.int .i64 m,.int .i64 b,.func (.func g) #[] cb] w (iM enc cf tag k w0 blk off d a b):=by
 have zE:∀w,(Go.sizeOf 48).run prog w=.ok k w:=by rw[hk2];exact Tryz.sizeOf48
 have mixed:prog.follows Departure.mixedOrders=true:=jk;have S0:Aside (SWK enc k w0 blk off d w):=S;have HC:Aside _:=hC;have HS:=zh hs;have HS2:=zh hS2;have HT:=zh hT;have e1:(m:Int)-(a:Int)=1:=jo;have e2:((m:Int)-(a:Int)=1)=True:=eq_true e1;have hm1:a+1≤m:=jo;have hm2:m≤a+1:=jo;clear S hk2 hs hC hS2 hT hm;go_enter func154,ntmps154;go_wp2;go_loopw [10,11] (fun vi vj wr=>∃(i j:Nat),m≤i∧i≤j∧j≤b∧vi=.int .i64 (i:Nat)∧vj=.int .i64 (j:Nat)∧Aside (SWK enc k w0 blk off d wr)∧Hid (∀h,a+1≤h→h<i→bef cf tag d[h]! d[a]!)∧Hid (∀h,j≤h→h<b→bef cf tag d[a]! d[h]!)) (fun vi vj _=>(intOf vj).toNat-(intOf vi).toNat)
 case atStart=>exact⟨m,b,zG _,jo,zG _,rfl,rfl,S0,zh (fun h _ _=>jo),zh (fun h _ _=>jo)⟩
 clear S0;obtain⟨i,j,hi,hij,hjb,rfl,rfl,S1,H1,H2⟩:=hrel;by_cases hlt:i<j
 ·have hji:(i:Int)<(j:Int):=jo;have n1:(0:Int)≤((i:Int)+(j:Int))/2:=jo;have n2:((i:Int)+(j:Int))/2<(d.size:Int):=jo;have n3:(((i:Int)+(j:Int))/2).toNat=(i+j)/2:=jo;have n4:(a:Int)<(d.size:Int):=jo;have SG:Aside (∀n os,SWK enc k w0 blk off d (grow (wr.drewN n) os)):=fun n os=>S1.out.grown n os
  have l1:=fun n' os'=>S1.out.ld R HS.out prog ((i+j)/2) jo n' os'
  have l2:=fun n' os'=>S1.out.ld R HS.out prog (a) jo n' os'
  have hcg:=fun n' os'=>S1.out.cmp HC.out HS.out d[(i+j)/2]! d[a]! n' os'
  have F1:Hid (cf d[(i+j)/2]! d[a]!<0→∀h,a+1≤h→h<(i+j)/2+1→bef cf tag d[h]! d[a]!):=zh (fun hc h p1 p2=>HS2.out.step_l hW (y:=(i+j)/2) p1 jo jo (mr hc));have F2:Hid (¬cf d[(i+j)/2]! d[a]!<0→∀h,(i+j)/2≤h→h<b→bef cf tag d[a]! d[h]!):=zh (fun hc h p1 p2=>HS2.out.step_r hW (x:=(i+j)/2) jo p1 p2 (nA (HT.out _ jo jo) hc));obtain⟨xp,hxp⟩:∃x,d[(i+j)/2]! = x:=⟨_,rfl⟩;obtain⟨xq,hxq⟩:∃x,d[a]! = x:=⟨_,rfl⟩;rw[hxp]at l1;rw[hxq]at l2;rw[hxp,hxq]at hcg;rw[hxp,hxq]at F1 F2;have HX:Hid (d[(i+j)/2]! = xp∧d[a]! = xq):=zh ⟨hxp,hxq⟩;clear hxp hxq;clear S1;by_cases hlv:cf xp xq<0
  ·have N1:Hid (∀h,a+1≤h→h<(i+j)/2+1→bef cf tag d[h]! d[a]!):=zh (by rw[HX.out.2];exact F1.out hlv);clear F1 F2;go_wp2_with fail
   go_quiet_grown (first|(go_at_fn g;refine Calls.grown_of (hcg _ _)))
   have S3:Aside (SWK enc k w0 blk off d (grow (wr.drewN nq) osq)):=SG.out nq osq;generalize grow (wr.drewN nq) osq=w3 at S3 ⊢;clear l1 l2 hcg SG;go_wp2;go_roundw
   case rel=>exact⟨(i+j)/2+1,j,jo,jo,jo,ju,rfl,S3,N1,H2⟩
   simp[intOf];omega
  have N2:Hid (∀h,(i+j)/2≤h→h<b→bef cf tag d[a]! d[h]!):=zh (by rw[HX.out.2];exact F2.out hlv);clear F1 F2;go_wp2_with fail
  go_quiet_grown (first|(go_at_fn g;refine Calls.grown_of (hcg _ _)))
  have S3:Aside (SWK enc k w0 blk off d (grow (wr.drewN nq) osq)):=SG.out nq osq;generalize grow (wr.drewN nq) osq=w3 at S3 ⊢;clear l1 l2 hcg SG;go_wp2;go_roundw
  case rel=>exact⟨i,(i+j)/2,jo,jo,jo,rfl,ju,S3,H1,N2⟩
  simp[intOf];omega
 obtain rfl:i=j:=jo;have HF:Hid (∀d1:Array α,(∀x,d1[x]! = shL d a (i-1) x)→Srt cf tag d1 a b):=zh (fun d1 hd=>Hu hW jo hjb HS2.out H1.out H2.out hd);clear H1 H2;go_wp2_with fail;go_loopw [13] (fun vk wr=>∃(x:Nat) (dk:Array α),a≤x∧x+1≤i∧vk=.int .i64 (x:Nat)∧Aside (SWK enc k w0 blk off dk wr)∧dk.size=d.size∧Hid (PermIn a b d dk)∧Hid (∀y,dk[y]! = shL d a x y)) (fun vk _=>i-(intOf vk).toNat)
 case atStart=>exact⟨a,d,zG _,jo,rfl,S1,rfl,zh (permIn_refl _ _ _),zh (fun y=>FD d a y)⟩
 clear S1;obtain⟨x,dk,hax,hxi,rfl,S1,hds,HP,HX⟩:=hrel;by_cases hxl:x+1<i
 ·have hxz:(x:Int)<(i:Int)-1:=jo;have n0:(0:Int)≤(x:Int):=jo;have n1:(0:Int)≤(x:Int)+1:=jo;have n2:(x:Int)+1<(d.size:Int):=jo;have n3:(x:Int)<(d.size:Int):=jo;have n5:((x:Int)+1).toNat=x+1:=jo;have S2:Aside (SWK enc k w0 blk off (swp dk (x) (x+1)) ((wr.drew.setCells blk (off+(x)*k) (enc dk[x+1]!)).setCells blk (off+(x+1)*k) (enc dk[x]!))):=S1.out.swapped R (x) (x+1) jo jo;have l44a:=S1.out.ld1 R (hds.trans HS.out) prog (x) jo;have l44b:=S1.out.ld1 R (hds.trans HS.out) prog (x+1) jo;have s44a:=S1.out.st1 R (hds.trans HS.out) prog (x) jo dk[x+1]!;have s44b:=S1.out.st2 R (hds.trans HS.out) prog (x) (x+1) jo jo dk[x+1]! dk[x]!;have n44a:(enc dk[x]!).length=k:=R.hk _;have n44b:(enc dk[x+1]!).length=k:=R.hk _;have HP2:Hid (PermIn a b d (swp dk x (x+1))):=zh (permIn_trans _ _ _ _ _ HP.out (swp_permIn dk a b x (x+1) jo jo jo jo jo));have HX2:Hid (∀y,(swp dk x (x+1))[y]! = shL d a (x+1) y):=zh (FG hax hds jo HX.out);generalize enc dk[x]! = cI44 at S2 l44a s44b n44a;generalize enc dk[x+1]! = cJ44 at S2 l44b s44a s44b n44b;clear S1 HP HX;go_wp2_with fail
  go_big_region_o
  clear l44a l44b s44a s44b;generalize (wr.drew.setCells blk (off+(x)*k) cJ44).setCells blk (off+(x+1)*k) cI44=w2 at S2 ⊢;go_wp2;go_roundw
  case rel=>exact⟨x+1,swp dk x (x+1),jo,jo,ju,S2,by rw[size_swp];exact hds,HP2,HX2⟩
  simp[intOf];omega
 have hxz:¬(x:Int)<(i:Int)-1:=jo;have Fin:=zh (HF.out dk (by rw[show i-1=x by omega];exact HX.out));go_wp2
 go_end0
 exact⟨rfl,dk,S1.out,hds,HP.out,Fin.out⟩
set_option maxRecDepth 1000000 in
theorem FI(hW:SWO (ltOf cf))(k:Nat)(hk2:k=3)(g:Nat)(cb:Array Value)(blk off cap a m b:Nat)(hm:b=m+1)(d0 d:Array α)(w0 w:World)(eg:∀args w,(callFunc g args).run prog w=.ok (.enter g args) w)(hC:CmpLays prog g cb enc k cf blk off d0.size w0)
  (R:RowK enc k w0 blk off d0) (hs:d.size=d0.size) (S:SWK enc k w0 blk off d w) (hb:b≤d.size) (hab:a+1<m) (hsz:d.size<1099511627776) (hS2:Srt cf tag d a m) (hT:∀y,a≤y→y<m→tag d[y]!<tag d[m]!) :
  Calls prog 154 #[.slice (some ⟨blk,off,none⟩) d.size cap,.int .i64 a,.int .i64 m,.int .i64 b,.func (.func g) #[] cb] w (iM enc cf tag k w0 blk off d a b):=by
 have zE:∀w,(Go.sizeOf 48).run prog w=.ok k w:=by rw[hk2];exact Tryz.sizeOf48
 have mixed:prog.follows Departure.mixedOrders=true:=jk;have S0:Aside (SWK enc k w0 blk off d w):=S;have HC:Aside _:=hC;have HS:=zh hs;have HS2:=zh hS2;have HT:=zh hT;have e1:((m:Int)-(a:Int)=1)=False:=eq_false jo;have e1':((m:Int)-(a:Int)==1)=false:=jm;have e2:(b:Int)-(m:Int)=1:=jo;have hm1:m+1≤b:=jo;have hm2:b≤m+1:=jo;clear S hk2 hs hC hS2 hT hm;go_enter func154,ntmps154;go_wp2;go_loopw [14,15] (fun vi vj wr=>∃(i j:Nat),a≤i∧i≤j∧j≤m∧vi=.int .i64 (i:Nat)∧vj=.int .i64 (j:Nat)∧Aside (SWK enc k w0 blk off d wr)∧Hid (∀h,a≤h→h<i→bef cf tag d[h]! d[m]!)∧Hid (∀h,j≤h→h<m→bef cf tag d[m]! d[h]!)) (fun vi vj _=>(intOf vj).toNat-(intOf vi).toNat)
 case atStart=>exact⟨a,m,zG _,jo,zG _,rfl,rfl,S0,zh (fun h _ _=>jo),zh (fun h _ _=>jo)⟩
 clear S0;obtain⟨i,j,hi,hij,hjb,rfl,rfl,S1,H1,H2⟩:=hrel;by_cases hlt:i<j
 ·have hji:(i:Int)<(j:Int):=jo;have n1:(0:Int)≤((i:Int)+(j:Int))/2:=jo;have n2:((i:Int)+(j:Int))/2<(d.size:Int):=jo;have n3:(((i:Int)+(j:Int))/2).toNat=(i+j)/2:=jo;have n4:(m:Int)<(d.size:Int):=jo;have SG:Aside (∀n os,SWK enc k w0 blk off d (grow (wr.drewN n) os)):=fun n os=>S1.out.grown n os
  have l1:=fun n' os'=>S1.out.ld R HS.out prog (m) jo n' os'
  have l2:=fun n' os'=>S1.out.ld R HS.out prog ((i+j)/2) jo n' os'
  have hcg:=fun n' os'=>S1.out.cmp HC.out HS.out d[m]! d[(i+j)/2]! n' os'
  have F1:Hid (cf d[m]! d[(i+j)/2]!<0→∀h,(i+j)/2≤h→h<m→bef cf tag d[m]! d[h]!):=zh (fun hc h p1 p2=>HS2.out.step_r hW (x:=(i+j)/2) jo p1 p2 (mr hc));have F2:Hid (¬cf d[m]! d[(i+j)/2]!<0→∀h,a≤h→h<(i+j)/2+1→bef cf tag d[h]! d[m]!):=zh (fun hc h p1 p2=>HS2.out.step_l hW (y:=(i+j)/2) p1 jo jo (nA (HT.out _ jo jo) hc));obtain⟨xp,hxp⟩:∃x,d[m]! = x:=⟨_,rfl⟩;obtain⟨xq,hxq⟩:∃x,d[(i+j)/2]! = x:=⟨_,rfl⟩;rw[hxp]at l1;rw[hxq]at l2;rw[hxp,hxq]at hcg;rw[hxp,hxq]at F1 F2;have HX:Hid (d[(i+j)/2]! = xq∧d[m]! = xp):=zh ⟨hxq,hxp⟩;clear hxp hxq;clear S1;by_cases hlv:cf xp xq<0
  ·have N2:Hid (∀h,(i+j)/2≤h→h<m→bef cf tag d[m]! d[h]!):=zh (by rw[HX.out.2];exact F1.out hlv);clear F1 F2;go_wp2_with fail
   go_quiet_grown (first|(go_at_fn g;refine Calls.grown_of (hcg _ _)))
   have S3:Aside (SWK enc k w0 blk off d (grow (wr.drewN nq) osq)):=SG.out nq osq;generalize grow (wr.drewN nq) osq=w3 at S3 ⊢;clear l1 l2 hcg SG;go_wp2;go_roundw
   case rel=>exact⟨i,(i+j)/2,jo,jo,jo,rfl,ju,S3,H1,N2⟩
   simp[intOf];omega
  have hdec:decide (cf xp xq<0)=false:=zN hlv;have N1:Hid (∀h,a≤h→h<(i+j)/2+1→bef cf tag d[h]! d[m]!):=zh (by rw[HX.out.2];exact F2.out hlv);clear F1 F2;go_wp2_with fail
  go_quiet_grown (first|(go_at_fn g;refine Calls.grown_of (hcg _ _)))
  have S3:Aside (SWK enc k w0 blk off d (grow (wr.drewN nq) osq)):=SG.out nq osq;generalize grow (wr.drewN nq) osq=w3 at S3 ⊢;clear l1 l2 hcg SG;go_wp2;go_roundw
  case rel=>exact⟨(i+j)/2+1,j,jo,jo,jo,ju,rfl,S3,N1,H2⟩
  simp[intOf];omega
 obtain rfl:i=j:=jo;have HF:Hid (∀d1:Array α,(∀x,d1[x]! = shR d m i x)→Srt cf tag d1 a b):=zh (fun d1 hd=>by rw[show b=m+1 by omega];exact xA hW hi hjb HS2.out H1.out H2.out hd);clear H1 H2;go_wp2_with fail;go_loopw [17] (fun vk wr=>∃(x:Nat) (dk:Array α),i≤x∧x≤m∧vk=.int .i64 (x:Nat)∧Aside (SWK enc k w0 blk off dk wr)∧dk.size=d.size∧Hid (PermIn a b d dk)∧Hid (∀y,dk[y]! = shR d m x y)) (fun vk _=>(intOf vk).toNat)
 case atStart=>exact⟨m,d,hjb,zG _,rfl,S1,rfl,zh (permIn_refl _ _ _),zh (fun y=>wA d m y)⟩
 clear S1;obtain⟨x',dk,hix,hxm,rfl,S1,hds,HP,HX⟩:=hrel;by_cases hxl:i<x'
 ·obtain⟨x,rfl⟩:∃x,x'=x+1:=⟨x'-1,jo⟩;have hxz:(i:Int)<(x:Int)+1:=jo;have n0:(0:Int)≤(x:Int):=jo;have n1:(0:Int)≤(x:Int)+1:=jo;have n2:(x:Int)+1<(d.size:Int):=jo;have n3:(x:Int)<(d.size:Int):=jo;have n5:((x:Int)+1).toNat=x+1:=jo;have S2:Aside (SWK enc k w0 blk off (swp dk (x+1) (x)) ((wr.drew.setCells blk (off+(x+1)*k) (enc dk[x]!)).setCells blk (off+(x)*k) (enc dk[x+1]!))):=S1.out.swapped R (x+1) (x) jo jo;have l44a:=S1.out.ld1 R (hds.trans HS.out) prog (x+1) jo;have l44b:=S1.out.ld1 R (hds.trans HS.out) prog (x) jo;have s44a:=S1.out.st1 R (hds.trans HS.out) prog (x+1) jo dk[x]!;have s44b:=S1.out.st2 R (hds.trans HS.out) prog (x+1) (x) jo jo dk[x]! dk[x+1]!;have n44a:(enc dk[x+1]!).length=k:=R.hk _;have n44b:(enc dk[x]!).length=k:=R.hk _;have HP2:Hid (PermIn a b d (swp dk (x+1) x)):=zh (permIn_trans _ _ _ _ _ HP.out (swp_permIn dk a b (x+1) x jo jo jo jo jo));have HX2:Hid (∀y,(swp dk (x+1) x)[y]! = shR d m x y):=zh (wC hxm hds jo HX.out);generalize enc dk[x+1]! = cI44 at S2 l44a s44b n44a;generalize enc dk[x]! = cJ44 at S2 l44b s44a s44b n44b;clear S1 HP HX;go_wp2_with fail
  go_big_region_o
  clear l44a l44b s44a s44b;generalize (wr.drew.setCells blk (off+(x+1)*k) cJ44).setCells blk (off+(x)*k) cI44=w2 at S2 ⊢;go_wp2;go_roundw
  case rel=>exact⟨x,swp dk (x+1) x,jo,jo,by first|rfl|go_num|(congr 1;omega),S2,by rw[size_swp];exact hds,HP2,HX2⟩
  first|(simp[intOf];done)|(simp[intOf];omega)
 have hxz:¬(i:Int)<(x':Int):=jo;have Fin:=zh (HF.out dk (by rw[show i=x' by omega];exact HX.out));go_wp2
 go_end0
 exact⟨rfl,dk,S1.out,hds,HP.out,Fin.out⟩
end Ss

namespace Ss
open Go.Shelf Go.RowKit Go.Lib Go.Sort
variable {α:Type} [Inhabited α] {enc:α→List Value} {cf:α→α→Int} {tag:α→Nat}
structure MIn (enc:α→List Value) (cf:α→α→Int) (tag:α→Nat) (k:Nat) (w0:World) (blk off:Nat) (d0 d:Array α) (a m b:Nat) (w:World):Prop where
 hs:d.size=d0.size
 S:SWK enc k w0 blk off d w
 hb:b≤d.size
 s1:Srt cf tag d a m
 s2:Srt cf tag d m b
 tg:Tg tag d a m b
set_option maxRecDepth 1000000 in
theorem FJ(hW:SWO (ltOf cf))(k:Nat)(hk2:k=3)(g:Nat)(cb:Array Value)(blk off cap a m b:Nat)(d0 d:Array α)(w0 w:World)(eg:∀args w,(callFunc g args).run prog w=.ok (.enter g args) w)(hC:CmpLays prog g cb enc k cf blk off d0.size w0)
  (R:RowK enc k w0 blk off d0) (hI:MIn enc cf tag k w0 blk off d0 d a m b w) (ham:a+2≤m) (hmb:m+2≤b) (hsz:d.size<1099511627776)
  (ih:∀(a' m' b':Nat) (d':Array α) (w':World),b'-a'<b-a→a'<m'→m'<b'→MIn enc cf tag k w0 blk off d0 d' a' m' b' w' →
   Calls prog 154 #[.slice (some ⟨blk,off,none⟩) d'.size cap,.int .i64 a',.int .i64 m',.int .i64 b',.func (.func g) #[] cb] w' (iM enc cf tag k w0 blk off d' a' b')) :
  Calls prog 154 #[.slice (some ⟨blk,off,none⟩) d.size cap,.int .i64 a,.int .i64 m,.int .i64 b,.func (.func g) #[] cb] w (iM enc cf tag k w0 blk off d a b):=by
 have zE:∀w,(Go.sizeOf 48).run prog w=.ok k w:=by rw[hk2];exact Tryz.sizeOf48
 have mixed:prog.follows Departure.mixedOrders=true:=jk;have S0:Aside (SWK enc k w0 blk off d w):=hI.S;have HC:Aside _:=hC;have HS:=zh hI.hs;have hb:=hI.hb;have Q1:=zh hI.s1;have Q2:=zh hI.s2;have QT:=zh hI.tg;have HK:=zh hk2;have IH:=zh ih;have e1:((m:Int)-(a:Int)=1)=False:=eq_false jo;have e2:((b:Int)-(m:Int)=1)=False:=eq_false jo;have e1':((m:Int)-(a:Int)==1)=false:=jm;have e2':((b:Int)-(m:Int)==1)=false:=jm;obtain⟨mid,hmid⟩:∃mid,mid=(a+b)/2:=⟨_,rfl⟩;have hm1:2*mid≤a+b:=jo;have hm2:a+b≤2*mid+1:=jo;have hmz:((a:Int)+(b:Int))/2=(mid:Int):=jo;clear hk2 hC hI ih hmid;go_enter func154,ntmps154
 go_upto_if 140 with(fail);go_cut [20,21]from 138 to 146 (fun v20 v21 wx=>∃lo hi:Nat,v20=.int .i64 (lo:Nat)∧v21=.int .i64 (hi:Nat)∧w=wx∧Hid ((lo+b=mid+m∧hi=mid∧mid<m)∨(lo=a∧hi=m∧m≤mid)))
 case first=>
  by_cases hgt:mid<m
  ·have hgz:(mid:Int)<(m:Int):=jo;go_wp2_with fail;go_meet;exact⟨mid+m-b,mid,ju,ju,rfl,zh (.inl ⟨jo,rfl,hgt⟩)⟩
  have hgz:¬(mid:Int)<(m:Int):=jo;go_wp2_with fail;go_meet;exact⟨a,m,ju,ju,rfl,zh (.inr ⟨rfl,rfl,jo⟩)⟩
 case rest=>
 obtain⟨lo,hi,rfl,rfl,rfl,HLH⟩:=hcut;obtain⟨hl1,hl2,hl3,hl4,hl5⟩:a≤lo∧lo≤hi∧hi≤m∧hi≤mid∧mid+m≤lo+b:=by rcases HLH.out with⟨q1,q2,q3⟩|⟨q1,q2,q3⟩<;>omega
 go_wp2_with fail;go_loopw [20,21] (fun vi vj wr=>∃(s r:Nat),lo≤s∧s≤r∧r≤hi∧vi=.int .i64 (s:Nat)∧vj=.int .i64 (r:Nat)∧Aside (SWK enc k w0 blk off d wr)∧Hid (∀c,lo≤c→c<s→bef cf tag d[c]! d[mid+m-1-c]!)∧Hid (∀c,r≤c→c<hi→bef cf tag d[mid+m-1-c]! d[c]!)) (fun vi vj _=>(intOf vj).toNat-(intOf vi).toNat)
 case atStart=>exact⟨lo,hi,jo,jo,jo,ju,ju,S0,zh (fun h _ _=>jo),zh (fun h _ _=>jo)⟩
 clear S0;obtain⟨s,r,hs1,hsr,hr2,rfl,rfl,S1,H1,H2⟩:=hrel;by_cases hlt:s<r
 ·have hji:(s:Int)<(r:Int):=jo;obtain⟨c0,hc0⟩:∃c0,c0=(s+r)/2:=⟨_,rfl⟩;have hc1:2*c0≤s+r:=jo;have hc2:s+r≤2*c0+1:=jo;have hcz:((s:Int)+(r:Int))/2=(c0:Int):=jo;obtain⟨P,hP⟩:∃P,P=mid+m-1-c0:=⟨_,rfl⟩;have hp1:P+c0+1=mid+m:=jo;have hPz:(mid:Int)+(m:Int)-1-(c0:Int)=(P:Int):=jo;have hPw:IntKind.i64.wrap (P:Int)=(P:Int):=by rw[IntKind.wrap_i64];omega
  have n5:(P:Int)<(d.size:Int):=jo;have n6:(c0:Int)<(d.size:Int):=jo;have SG:Aside (∀n os,SWK enc k w0 blk off d (grow (wr.drewN n) os)):=fun n os=>S1.out.grown n os
  have l1:=fun n' os'=>S1.out.ld R HS.out prog (P) jo n' os'
  have l2:=fun n' os'=>S1.out.ld R HS.out prog (c0) jo n' os'
  have hcg:=fun n' os'=>S1.out.cmp HC.out HS.out d[P]! d[c0]! n' os'
  have F1:Hid (cf d[P]! d[c0]!<0→∀c,c0≤c→c<hi→bef cf tag d[mid+m-1-c]! d[c]!):=zh (fun hc c p1 p2=>Jb hW Q1.out Q2.out (c:=c0) (p:=mid+m-1) jo jo (by rw[←hP];exact hc) c p1 jo jo);have F2:Hid (¬cf d[P]! d[c0]!<0→∀c,lo≤c→c<c0+1→bef cf tag d[c]! d[mid+m-1-c]!):=zh (fun hc c p1 p2=>Ja hW Q1.out Q2.out QT.out (c:=c0) (p:=mid+m-1) jo jo jo (by rw[←hP];exact hc) c jo jo jo);obtain⟨xp,hxp⟩:∃x,d[P]! = x:=⟨_,rfl⟩;obtain⟨xq,hxq⟩:∃x,d[c0]! = x:=⟨_,rfl⟩;rw[hxp]at l1;rw[hxq]at l2;rw[hxp,hxq]at hcg F1 F2;clear hxp hxq S1 hc0 hP;by_cases hlv:cf xp xq<0
  ·have hdec:decide (cf xp xq<0)=true:=zO hlv;have N:=zh (F1.out hlv);clear F1 F2;go_wp2_with fail
   go_quiet_grown (first|(go_at_fn g;refine Calls.grown_of (hcg _ _)))
   have S3:Aside (SWK enc k w0 blk off d (grow (wr.drewN nq) osq)):=SG.out nq osq;generalize grow (wr.drewN nq) osq=w3 at S3 ⊢;clear l1 l2 hcg SG;go_wp2;go_roundw
   case rel=>exact⟨s,c0,jo,jo,jo,rfl,by first|rfl|go_num,S3,H1,N⟩
   simp[intOf];omega
  have hdec:decide (cf xp xq<0)=false:=zN hlv;have N:=zh (F2.out hlv);clear F1 F2;go_wp2_with fail
  go_quiet_grown (first|(go_at_fn g;refine Calls.grown_of (hcg _ _)))
  have S3:Aside (SWK enc k w0 blk off d (grow (wr.drewN nq) osq)):=SG.out nq osq;generalize grow (wr.drewN nq) osq=w3 at S3 ⊢;clear l1 l2 hcg SG;go_wp2;go_roundw
  case rel=>exact⟨c0+1,r,jo,jo,jo,by first|rfl|go_num,rfl,S3,N,H2⟩
  simp[intOf];omega
 obtain rfl:s=r:=jo;obtain⟨e,he⟩:∃e,e=mid+m-s:=⟨_,rfl⟩;have hez:(mid:Int)+(m:Int)-(s:Int)=(e:Int):=jo;have hse:mid+m=s+e:=jo
 have HSP:Hid (∀d1:Array α,(∀x,d1[x]! = bZ d s m e x)→(Srt cf tag d1 a s∧Srt cf tag d1 s mid∧Tg tag d1 a s mid)∧(Srt cf tag d1 mid e∧Srt cf tag d1 e b∧Tg tag d1 mid e b)∧(∀x y,a≤x→x<mid→mid≤y→y<b→bef cf tag d1[x]! d1[y]!)):=zh (fun d1 hd=>Db hW jo jo jo jo jo jo hse Q1.out Q2.out QT.out
  (by
   by_cases h:s=lo
   ·rcases HLH.out with⟨q1,q2,q3⟩|⟨q1,q2,q3⟩<;>first|exact .inl jo|exact .inr (.inl jo)
   have h1:=H1.out (s-1) jo jo;rw[show mid+m-1-(s-1)=e by omega]at h1
   exact .inr (.inr h1))
  (by
   by_cases h:s=hi
   ·rcases HLH.out with⟨q1,q2,q3⟩|⟨q1,q2,q3⟩<;>first|exact .inl jo|exact .inr (.inl jo)
   have h1:=H2.out s jo jo;rw[show mid+m-1-s=e-1 by omega]at h1
   exact .inr (.inr h1)) hd)
 have hsa:a≤s:=jo;have hsm:s≤m:=jo;have hsmid:s≤mid:=jo;have hme:m≤e:=jo;have heb:e≤b:=jo;have hmide:mid≤e:=jo;clear H1 H2 Q1 Q2 QT hs1 hsr hr2 hlt he hse HLH hl1 hl2 hl3 hl4 hl5;have hslt:¬(s:Int)<(s:Int):=jo
 go_upto_region 39 with(fail);go_cut [185]from 178 to 185 (fun v wx=>v=.bool (decide (s<m∧m<e))∧wr=wx)
 case first=>
  by_cases z1:((s:Nat):Int)<((m:Nat):Int)
  ·by_cases z2:((m:Nat):Int)<((e:Nat):Int)
   all_goals
    go_wp2_with fail;go_meet
    first|exact⟨congrArg Value.bool (zO jo).symm,rfl⟩|exact⟨congrArg Value.bool (zN jo).symm,rfl⟩
  go_wp2_with fail;go_meet;exact⟨congrArg Value.bool (zN jo).symm,rfl⟩
 case rest=>
 obtain⟨rfl,rfl⟩:=hcut
 go_upto_if 185 with(fail);go_cut []from 178 to 191 (fun wx=>∃d1:Array α,Aside (SWK enc k w0 blk off d1 wx)∧Hid (d1.size=d.size)∧Hid (PermIn a b d d1)∧Hid ((Srt cf tag d1 a s∧Srt cf tag d1 s mid∧Tg tag d1 a s mid)∧(Srt cf tag d1 mid e∧Srt cf tag d1 e b∧Tg tag d1 mid e b)∧(∀x y,a≤x→x<mid→mid≤y→y<b→bef cf tag d1[x]! d1[y]!)))
 case first=>
  by_cases hrot:s<m∧m<e
  ·rw[zO hrot];have RT:=zh (Bl k HK.out (.func (.func g) #[] cb) blk off cap s m e d0 d w0 wr R HS.out S1.out hrot.1 hrot.2 jo hsz);clear S1 hrot;go_wp2_with fail;refine RT.out.mono ?_;rintro ev w2 ⟨rfl,d1,S2,hd1,hP1,hX1⟩;have P1:Hid (PermIn a b d d1):=zh (permIn_mono _ _ _ _ _ _ hsa heb hb hP1);have SP:=zh (HSP.out d1 hX1);have D1:=zh hd1;have S1:Aside (SWK enc k w0 blk off d1 w2):=S2;clear RT hP1 hX1 HSP hd1 S2;go_wp2_with fail;go_meet;exact⟨d1,S1,D1,P1,SP⟩
  rw[zN hrot];have SP:=zh (HSP.out d (JZ d s m e jo hsm hme));clear hrot;go_wp2_with fail;go_meet;exact⟨d,S1,zh rfl,zh (permIn_refl _ _ _),SP⟩
 case rest=>
 obtain⟨d1,S1,D1,P1,SP⟩:=hcut;clear HSP hslt
 go_upto_region 41 with(fail);go_cut [199]from 192 to 199 (fun v wx=>v=.bool (decide (a<s∧s<mid))∧wc=wx)
 case first=>
  by_cases z1:((a:Nat):Int)<((s:Nat):Int)
  ·by_cases z2:((s:Nat):Int)<((mid:Nat):Int)
   all_goals
    go_wp2_with fail;go_meet
    first|exact⟨congrArg Value.bool (zO jo).symm,rfl⟩|exact⟨congrArg Value.bool (zN jo).symm,rfl⟩
  go_wp2_with fail;go_meet;exact⟨congrArg Value.bool (zN jo).symm,rfl⟩
 case rest=>
 obtain⟨rfl,rfl⟩:=hcut
 go_upto_if 199 with(fail);go_cut []from 192 to 205 (fun wx=>∃d2:Array α,Aside (SWK enc k w0 blk off d2 wx)∧Hid (d2.size=d.size)∧Hid (PermIn a mid d1 d2∧Srt cf tag d2 a mid))
 case first=>
  by_cases hc1:a<s∧s<mid
  ·rw[zO hc1];have c1:=IH.out a s mid d1 _ jo hc1.1 hc1.2 ⟨D1.out.trans HS.out,S1.out,by have:=D1.out;omega,SP.out.1.1,SP.out.1.2.1,SP.out.1.2.2⟩;rw[D1.out]at c1;have C1:=zh c1;clear c1 S1 hc1;go_wp2_with fail;refine C1.out.mono ?_;rintro ev w5 ⟨rfl,d2,S2,hd2,hP2,hS2⟩;have S5:Aside (SWK enc k w0 blk off d2 w5):=S2;have D2:Hid (d2.size=d.size):=zh (hd2.trans D1.out);have P2:Hid (PermIn a mid d1 d2∧Srt cf tag d2 a mid):=zh ⟨hP2,hS2⟩;clear C1 S2 hd2 hP2 hS2;go_wp2_with fail;go_meet;exact⟨d2,S5,D2,P2⟩
  rw[zN hc1]
  have P2:Hid (PermIn a mid d1 d1∧Srt cf tag d1 a mid):=zh ⟨permIn_refl _ _ _,by
   by_cases h:s=a
   ·have:=SP.out.1.2.1;rwa[h]at this
   have:=SP.out.1.1;rwa[show s=mid by omega]at this⟩
  clear hc1;go_wp2_with fail;go_meet;exact⟨d1,S1,D1,P2⟩
 case rest=>
 obtain⟨d2,S5,D2,P2⟩:=hcut;clear S1;by_cases hc2:mid<e∧e<b
 ·obtain⟨y1,y2⟩:=hc2;have v1:(mid:Int)<(e:Int):=jo;have v2:(e:Int)<(b:Int):=jo;have kp:∀x,mid≤x→x<b→d2[x]! = d1[x]!:=fun x hx _=>P2.out.1.2.1 x (.inr hx)
  have c2:=IH.out mid e b d2 _ jo y1 y2 ⟨D2.out.trans HS.out,S5.out,by have:=D2.out;omega,SP.out.2.1.1.keep (fun x h1 h2=>kp x h1 jo),SP.out.2.1.2.1.keep (fun x h1 h2=>kp x jo h2),SP.out.2.1.2.2.keep kp⟩;rw[D2.out]at c2;have C2:=zh c2;clear c2 S5 y1 y2 kp;go_wp2_with fail
  all_goals(
   refine C2.out.mono ?_;rintro ev w6 ⟨rfl,d3,S3,hd3,hP3,hS3⟩;have Fin:Hid (SWK enc k w0 blk off d3 w6∧d3.size=d.size∧PermIn a b d d3∧Srt cf tag d3 a b):=zh ⟨S3,hd3.trans D2.out,permIn_trans _ _ _ _ _ P1.out (permIn_trans _ _ _ _ _ (permIn_mono _ _ _ _ _ _ jo jo (by have:=D1.out;omega) P2.out.1) (permIn_mono _ _ _ _ _ _ jo jo (by have:=D2.out;omega) hP3)),wD jo jo (by have:=D1.out;omega) SP.out.2.2 P2.out.1 P2.out.2 hP3 hS3⟩;clear C2 S3 hd3 hP3 hS3 D1 D2 P1 P2 SP;go_wp2
   go_end0
   exact⟨rfl,d3,Fin.out⟩)
 have Fin:Hid (d2.size=d.size∧PermIn a b d d2∧Srt cf tag d2 a b):=zh ⟨D2.out,permIn_trans _ _ _ _ _ P1.out (permIn_mono _ _ _ _ _ _ jo jo (by have:=D1.out;omega) P2.out.1),wD jo jo (by have:=D1.out;omega) SP.out.2.2 P2.out.1 P2.out.2 (permIn_refl _ _ _) (by
  have kp:∀x,mid≤x→x<b→d2[x]! = d1[x]!:=fun x hx _=>P2.out.1.2.1 x (.inr hx)
  by_cases h:e=mid
  ·have:=SP.out.2.1.2.1.keep (fun x h1 h2=>kp x jo h2);rwa[h]at this
  have:=SP.out.2.1.1.keep (fun x h1 h2=>kp x h1 jo);rwa[show e=b by omega]at this)⟩
 clear D1 D2 P1 P2 SP;by_cases h:mid<e
 ·have v1:(mid:Int)<(e:Int):=jo;have v2:¬(e:Int)<(b:Int):=jo;clear h hc2;go_wp2;all_goals go_end0
  all_goals exact⟨rfl,d2,S5.out,Fin.out⟩
 have v1:¬(mid:Int)<(e:Int):=jo;clear h hc2;go_wp2;all_goals go_end0
 all_goals exact⟨rfl,d2,S5.out,Fin.out⟩
theorem Hv(hW:SWO (ltOf cf))(k:Nat)(hk2:k=3)(g:Nat)(cb:Array Value)(blk off cap:Nat)(d0:Array α)(w0:World)(eg:∀args w,(callFunc g args).run prog w=.ok (.enter g args) w)(hC:CmpLays prog g cb enc k cf blk off d0.size w0)
  (R:RowK enc k w0 blk off d0) (hsz:d0.size<1099511627776):∀(n a m b:Nat) (d:Array α) (w:World),b-a≤n→a<m→m<b→MIn enc cf tag k w0 blk off d0 d a m b w →
   Calls prog 154 #[.slice (some ⟨blk,off,none⟩) d.size cap,.int .i64 a,.int .i64 m,.int .i64 b,.func (.func g) #[] cb] w (iM enc cf tag k w0 blk off d a b):=by
 intro n
 induction n with
 | zero=>intro a m b d w h1 h2 h3;omega
 | succ n ih=>
  intro a m b d w h1 h2 h3 hI;have hds:=hI.hs;by_cases hm:m=a+1
  ·exact FH hW k hk2 g cb blk off cap a m b hm d0 d w0 w eg hC R hI.hs hI.S hI.hb jo jo (by rw[←hm];exact hI.s2) (fun y p1 p2=>hI.tg a y jo h2 jo p2)
  by_cases hb:b=m+1
  ·exact FI hW k hk2 g cb blk off cap a m b hb d0 d w0 w eg hC R hI.hs hI.S hI.hb jo jo hI.s1 (fun y p1 p2=>hI.tg y m p1 p2 (zG _) h3)
  exact FJ hW k hk2 g cb blk off cap a m b d0 d w0 w eg hC R hI jo jo jo (fun a' m' b' d' w' q1 q2 q3 q4=>ih a' m' b' d' w' jo q2 q3 q4)
end Ss

namespace Cr
def on1(x:Nat):Nat:=if x%2=1 then(x/2) ^^^ 3988292384 else x/2
def tab(x:Nat):Nat:=on1 (on1 (on1 (on1 (on1 (on1 (on1 (on1 x)))))))
def on(s:Nat)(c:UInt8):Nat:=tab (s ^^^ c.toNat)
def run(s:Nat)(l:List UInt8):Nat:=l.foldl on s
def cZ(x:Nat):Nat:=x ^^^ 4294967295
def crc(l:List UInt8):Nat:=cZ (run 4294967295 l)
theorem IL(a b:Nat):on1 (a ^^^ b)=on1 a ^^^ on1 b:=by
 have hm:(a ^^^ b)%2=(a%2) ^^^ (b%2):=Nat.xor_mod_two_pow (n:=1);have hd:(a ^^^ b)/2=(a/2) ^^^ (b/2):=Nat.xor_div_two_pow (n:=1);unfold on1;rw[hm,hd];rcases Nat.mod_two_eq_zero_or_one a with ha|ha<;>rcases Nat.mod_two_eq_zero_or_one b with hb|hb<;>rw[ha,hb]<;>simp only[Nat.xor_self,Nat.xor_zero,Nat.zero_xor,if_true,if_false,Nat.zero_ne_one]
 ·rw[Nat.xor_assoc]
 ·rw[Nat.xor_assoc,Nat.xor_assoc,Nat.xor_comm 3988292384]
 rw[Nat.xor_assoc,←Nat.xor_assoc 3988292384,Nat.xor_comm 3988292384,Nat.xor_assoc,Nat.xor_self,Nat.xor_zero]
theorem IM(y:Nat):on1 (2*y)=y:=by
 unfold on1;rw[if_neg jo];omega
theorem gU{x:Nat}(h:x<2 ^ 32):on1 x<2 ^ 32:=by
 unfold on1
 split
 ·exact Nat.xor_lt_two_pow jo jo
 omega
theorem IP(a b:Nat):tab (a ^^^ b)=tab a ^^^ tab b:=by unfold tab;simp only[IL]
theorem yD{x:Nat}(h:x<2 ^ 32):tab x<2 ^ 32:=gU (gU (gU (gU (gU (gU (gU (gU h)))))))
theorem IQ(k:Nat):tab (256*k)=k:=by
 have e:256*k=2*(2*(2*(2*(2*(2*(2*(2*k))))))):=jo;rw[e];unfold tab;simp only[IM]
theorem xJ(a b:Nat):(a ^^^ b)%256=(a%256) ^^^ (b%256):=Nat.xor_mod_two_pow (n:=8)
theorem xK(a b:Nat):(a ^^^ b)/256=(a/256) ^^^ (b/256):=Nat.xor_div_two_pow (n:=8)
theorem Dx(n:Nat):(n%256) ^^^ (256*(n/256))=n:=by
 have hm:((n%256) ^^^ (256*(n/256)))%256=n%256:=by
  rw[xJ,Nat.mul_mod_right,Nat.xor_zero,Nat.mod_mod]
 have hd:((n%256) ^^^ (256*(n/256)))/256=n/256:=by
  rw[xK,Nat.mul_div_cancel_left _ jo,Nat.div_eq_of_lt (Nat.mod_lt _ jo),Nat.zero_xor]
 omega
theorem Fe(s:Nat)(c:UInt8):on s c=tab ((s%256) ^^^ c.toNat) ^^^ (s/256):=by
 have hc:c.toNat<256:=c.toNat_lt;have h1:(s ^^^ c.toNat)%256=(s%256) ^^^ c.toNat:=by rw[xJ,Nat.mod_eq_of_lt hc]
 have h2:(s ^^^ c.toNat)/256=s/256:=by rw[xK,Nat.div_eq_of_lt hc,Nat.xor_zero]
 have h3:=Dx (s ^^^ c.toNat);unfold on;rw[←h3,IP,IQ,h1,h2]
theorem KR{s:Nat}(h:s<2 ^ 32)(c:UInt8):on s c<2 ^ 32:=yD (Nat.xor_lt_two_pow h (by have:=c.toNat_lt;omega))
theorem nD{s:Nat}(h:s<2 ^ 32)(l:List UInt8):run s l<2 ^ 32:=by
 induction l generalizing s with
 | nil=>exact h
 | cons c l ih=>exact ih (KR h c)
theorem wK(s:Nat)(l:List UInt8)(c:UInt8):run s (l ++ [c])=on (run s l) c:=by unfold run;rw[List.foldl_append];rfl
theorem qL{x:Nat}(h:x<2 ^ 32):cZ x<2 ^ 32:=Nat.xor_lt_two_pow h (by omega)
theorem yE(l:List UInt8):crc l<2 ^ 32:=qL (nD (by omega) l)
def ai:List UInt8→Nat
 | []=>0
 | c::l=>c.toNat ^^^ (256*ai l)
def le4(n:Nat):List UInt8:=[UInt8.ofNat n,UInt8.ofNat (n/256),UInt8.ofNat (n/65536),UInt8.ofNat (n/16777216)]
def ons:Nat→Nat→Nat
 | 0,x=>x
 | n+1,x=>on1 (ons n x)
theorem IR(x:Nat):ons 8 x=tab x:=rfl
theorem yF(n:Nat){x:Nat}(h:x<2 ^ 32):ons n x<2 ^ 32:=by
 induction n with
 | zero=>exact h
 | succ n ih=>exact gU ih
end Cr
end Go.Proofs.YtmomjpolkkbhnaaGreat
