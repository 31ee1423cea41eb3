/- slices.swapRangeCmpFunc at elements of three cells: the walk. -/
import Derived.Sort.WalkB2
import Derived.Sort.WalkB12
import Derived.Deep.LoopGhost
import Derived.Lib.Hide
import Derived.Test.YtmomjpolkkbhnaaGreatQModelPagesRow14
import Derived.Test.YtmomjpolkkbhnaaGreatQModelPagesRow0
import Derived.Test.YtmomjpolkkbhnaaGreatQModelPagesRow9
set_option linter.unusedSectionVars false
set_option linter.unusedSimpArgs false
set_option linter.unusedVariables false
set_option maxRecDepth 20000
section
namespace Go.Proofs.YtmomjpolkkbhnaaGreat.Ss
open Go.Shelf Go.RowKit Go.Lib Go.Sort
variable {α:Type} [Inhabited α] {enc : α→List Value}
set_option maxHeartbeats 400000 in
theorem swapRange_any (k:Nat) (hk2:k=3) (fv:Value) (blk off cap a b n:Nat) (d0 d:Array α) (w0 w:World) (R:RowK enc k w0 blk off d0) (hs:d.size=d0.size) (S:SWK enc k w0 blk off d w) (hab:a+n≤b) (hb:b+n≤d.size) (hsz:d.size<1099511627776) :
  Calls Tryz.prog 199 #[.slice (some ⟨blk,off,none⟩) d.size cap,.int .i64 a,.int .i64 b,.int .i64 n,fv] w fun e w' =>
   e=.returned (.tuple #[])∧∃ d',SWK enc k w0 blk off d' w'∧d'.size=d.size∧PermIn a (b+n) d d'∧∀ x,d'[x]! = swpR d a b n x:=by
 have zE:∀ w,(Go.sizeOf 48).run Tryz.prog w=.ok k w:=by rw [hk2]; exact Tryz.sizeOf48
 have mixed:Tryz.prog.follows Departure.mixedOrders=true:=by kernel_rfl
 have S0:Aside (SWK enc k w0 blk off d w):=S
 clear S hk2
 go_enter Tryz.func199,Tryz.ntmps199
 go_wp2
 go_loopw [10] (fun i wr=>∃ (j:Nat) (dk:Array α),j≤n∧i=.int .i64 (j:Nat)∧Aside (SWK enc k w0 blk off dk wr)∧dk.size=d.size∧Hid (PermIn a (b+n) d dk)∧Hid (∀ x,dk[x]! = swpR d a b j x)) (fun i _=>n - (intOf i).toNat)
 case atStart=>exact ⟨0,d,Nat.zero_le _,rfl,S0,rfl,zh (permIn_refl _ _ _),zh (fun x=>(swpR_zero d a b x).symm)⟩
 case round =>
  clear S0
  obtain ⟨j,dk,hj,rfl,S1,hds,HP,HX⟩:=hrel
  by_cases hlt:j<n
  ·have hji:(j:Int)<(n:Int):=by omega
   have S2:Aside (SWK enc k w0 blk off (swp dk (a+j) (b+j)) ((wr.drew.setCells blk (off+(a+j) * k) (enc dk[b+j]!)).setCells blk (off+(b+j) * k) (enc dk[a+j]!))):=S1.out.swapped R (a+j) (b+j) (by omega) (by omega)
   have l44a:=S1.out.ld1 R (by omega) Tryz.prog (a+j) (by omega)
   have l44b:=S1.out.ld1 R (by omega) Tryz.prog (b+j) (by omega)
   have s44a:=S1.out.st1 R (by omega) Tryz.prog (a+j) (by omega) dk[b+j]!
   have s44b:=S1.out.st2 R (by omega) Tryz.prog (a+j) (b+j) (by omega) (by omega) dk[b+j]! dk[a+j]!
   have n44a:(enc dk[a+j]!).length=k:=R.hk _
   have n44b:(enc dk[b+j]!).length=k:=R.hk _
   have HP2:Hid (PermIn a (b+n) d (swp dk (a+j) (b+j))):=zh (permIn_trans _ _ _ _ _ HP.out (swp_permIn dk a (b+n) (a+j) (b+j) (by omega) (by omega) (by omega) (by omega) (by omega)))
   have HX2:=zh (swpR_step d dk a b j (by omega) hds (by omega) HX.out)
   generalize enc dk[a+j]! = cI44 at S2 l44a s44b n44a
   generalize enc dk[b+j]! = cJ44 at S2 l44b s44a s44b n44b
   have ea44:(((a:Int)+(j:Int))).toNat=a+j:=by omega
   have ra44:IntKind.i64.wrap ((a:Int)+(j:Int))=(a:Int)+(j:Int):=by rw [IntKind.wrap_i64]; omega
   have rb44:IntKind.i64.wrap ((b:Int)+(j:Int))=(b:Int)+(j:Int):=by rw [IntKind.wrap_i64]; omega
   have pa44:(0:Int)≤(a:Int)+(j:Int):=by omega
   have pb44:(0:Int)≤(b:Int)+(j:Int):=by omega
   have ba44:(a:Int)+(j:Int)<(d.size:Int):=by omega
   have bb44:(b:Int)+(j:Int)<(d.size:Int):=by omega
   have eb44:(((b:Int)+(j:Int))).toNat=b+j:=by omega
   clear S1 HP HX
   go_wp2_with fail
   go_big_region_o
   clear l44a l44b s44a s44b
   generalize (wr.drew.setCells blk (off+(a+j) * k) cJ44).setCells blk (off+(b+j) * k) cI44=w2 at S2 ⊢
   go_wp2
   go_roundw
   case rel=>exact ⟨j+1,swp dk (a+j) (b+j),by omega,by go_num,S2,by rw [size_swp]; exact hds,HP2,HX2⟩
   case measure=>simp [intOf]; omega
  ·obtain rfl:j=n:=by omega
   go_wp2
   go_end0
   exact ⟨rfl,dk,S1.out,hds,HP.out,HX.out⟩
end Go.Proofs.YtmomjpolkkbhnaaGreat.Ss
end

section
namespace Go.Proofs.YtmomjpolkkbhnaaGreat.Ss
open Go.Shelf Go.RowKit Go.Lib Go.Sort
variable {α:Type} [Inhabited α] {enc : α→List Value}
set_option maxHeartbeats 400000 in
theorem rotate_any (k:Nat) (hk2:k=3) (fv:Value) (blk off cap a m b:Nat) (d0 d:Array α) (w0 w:World) (R:RowK enc k w0 blk off d0) (hs:d.size=d0.size) (S:SWK enc k w0 blk off d w) (ham:a<m) (hmb:m<b) (hb:b≤d.size) (hsz:d.size<1099511627776) :
  Calls Tryz.prog 177 #[.slice (some ⟨blk,off,none⟩) d.size cap,.int .i64 a,.int .i64 m,.int .i64 b,fv] w fun e w' =>
   e=.returned (.tuple #[])∧∃ d',SWK enc k w0 blk off d' w'∧d'.size=d.size∧PermIn a b d d'∧∀ x,d'[x]! = rotR d a m b x:=by
 have S0:Aside (SWK enc k w0 blk off d w):=S
 have HK:=zh hk2
 have HS:=zh hs
 clear S hk2 hs
 go_enter Tryz.func177,Tryz.ntmps177
 go_wp2
 go_loopw [10,11] (fun v10 v11 wr=>∃ (i j:Nat) (dk:Array α),0<i∧0<j∧a+i≤m∧m+j≤b∧v10=.int .i64 (i:Nat)∧v11=.int .i64 (j:Nat)∧Aside (SWK enc k w0 blk off dk wr)∧dk.size=d.size∧Hid (PermIn a b d dk)∧Hid (∀ x,rotR dk (m - i) m (m+j) x=rotR d a m b x)) (fun v10 v11 _=>(intOf v10).toNat+(intOf v11).toNat)
 case atStart=>exact ⟨m - a,b - m,d,by omega,by omega,by omega,by omega,by go_num,by go_num,S0,rfl,zh (permIn_refl _ _ _),zh (fun x=>by rw [show m - (m - a)=a by omega,show m+(b - m)=b by omega])⟩
 case round =>
  clear S0
  obtain ⟨i,j,dk,hi0,hj0,him,hjb,rfl,rfl,S1,hds,HP,HX⟩:=hrel
  by_cases hij:i=j
  ·subst hij
   have hnn:¬ ((i:Int)≠(i:Int)):=by omega
   have e1:IntKind.i64.wrap ((m:Int) - (i:Int))=((m - i:Nat):Int):=by rw [IntKind.wrap_i64]; omega
   have e2:(m:Int) - (i:Int)=((m - i:Nat):Int):=by omega
   have c1:=swapRange_any k HK.out fv blk off cap (m - i) m i d0 dk w0 wr R (hds.trans HS.out) S1.out (by omega) (by omega) (by omega)
   rw [hds] at c1
   have C1:=zh c1
   clear c1 S1
   go_wp2_with fail
   try rw [e2]
   refine C1.out.mono ?_
   rintro e w2 ⟨rfl,d',S2,h1,h2,h3⟩
   have Fin:Hid (SWK enc k w0 blk off d' w2∧d'.size=d.size∧PermIn a b d d'∧∀ x,d'[x]! = rotR d a m b x):=zh ⟨S2,by omega,permIn_trans _ _ _ _ _ HP.out (permIn_mono _ _ _ _ _ _ (by omega) (by omega) (by omega) h2),fun x=>by rw [h3,rot_eq _ _ _ (by omega),HX.out]⟩
   clear C1 S2 h1 h2 h3 HP HX
   go_wp2
   go_end0
   exact ⟨rfl,d',Fin.out⟩
  ·have hnn:(i:Int)≠(j:Int):=by omega
   by_cases hgt:j<i
   ·have hgi:(j:Int)<(i:Int):=by omega
    have e2:(m:Int) - (i:Int)=((m - i:Nat):Int):=by omega
    have c1:=swapRange_any k HK.out fv blk off cap (m - i) m j d0 dk w0 wr R (hds.trans HS.out) S1.out (by omega) (by omega) (by omega)
    rw [hds] at c1
    have C1:=zh c1
    clear c1 S1
    go_wp2_with fail
    try rw [e2]
    refine C1.out.mono ?_
    rintro e w2 ⟨rfl,d',S2,h1,h2,h3⟩
    have S3:Aside (SWK enc k w0 blk off d' w2):=S2
    have P3:Hid (PermIn a b d d'):=zh (permIn_trans _ _ _ _ _ HP.out (permIn_mono _ _ _ _ _ _ (by omega) (by omega) (by omega) h2))
    have X3:Hid (∀ x,rotR d' (m - (i - j)) m (m+j) x=rotR d a m b x):=zh (fun x=>by rw [rot_gt dk d' m i j hgt (by omega) h3,HX.out])
    clear C1 S2 h2 h3 HP HX
    go_wp2
    go_roundw
    case rel=>exact ⟨i - j,j,d',by omega,by omega,by omega,by omega,by go_num,by go_num,S3,by omega,P3,X3⟩
    case measure=>simp [intOf]; omega
   ·have hgi:¬ (j:Int)<(i:Int):=by omega
    have e2:(m:Int) - (i:Int)=((m - i:Nat):Int):=by omega
    have e3:(m:Int)+(j:Int) - (i:Int)=((m+j - i:Nat):Int):=by omega
    have c1:=swapRange_any k HK.out fv blk off cap (m - i) (m+j - i) i d0 dk w0 wr R (hds.trans HS.out) S1.out (by omega) (by omega) (by omega)
    rw [hds] at c1
    have C1:=zh c1
    clear c1 S1
    go_wp2_with fail
    try rw [e2]
    try rw [e3]
    refine C1.out.mono ?_
    rintro e w2 ⟨rfl,d',S2,h1,h2,h3⟩
    have S3:Aside (SWK enc k w0 blk off d' w2):=S2
    have P3:Hid (PermIn a b d d'):=zh (permIn_trans _ _ _ _ _ HP.out (permIn_mono _ _ _ _ _ _ (by omega) (by omega) (by omega) h2))
    have X3:Hid (∀ x,rotR d' (m - i) m (m+(j - i)) x=rotR d a m b x):=zh (fun x=>by rw [rot_lt dk d' m i j (by omega) (by omega) h3,HX.out])
    clear C1 S2 h2 h3 HP HX
    go_wp2
    go_roundw
    case rel=>exact ⟨i,j - i,d',by omega,by omega,by omega,by omega,by go_num,by go_num,S3,by omega,P3,X3⟩
    case measure=>simp [intOf]; omega
end Go.Proofs.YtmomjpolkkbhnaaGreat.Ss
end

section
namespace Go.Proofs.YtmomjpolkkbhnaaGreat.Ss
open Go.Shelf Go.RowKit Go.Lib Go.Sort
variable {α:Type} [Inhabited α] {enc : α→List Value} {cf : α→α→Int} {tag : α→Nat}
def MPost (enc : α→List Value) (cf : α→α→Int) (tag : α→Nat) (k:Nat) (w0:World) (blk off:Nat) (d:Array α) (a b:Nat) (e:Ending) (w':World):Prop :=
 e=.returned (.tuple #[])∧∃ d',SWK enc k w0 blk off d' w'∧d'.size=d.size∧PermIn a b d d'∧Srt cf tag d' a b
set_option maxHeartbeats 2000000 in
set_option maxRecDepth 1000000 in
theorem symL_any (hW:SWO (ltOf cf)) (k:Nat) (hk2:k=3) (g:Nat) (cb:Array Value) (blk off cap a m b:Nat) (hm:m=a+1) (d0 d:Array α) (w0 w:World) (eg:∀ args w,(callFunc g args).run Tryz.prog w=.ok (.enter g args) w) (hC:CmpLays Tryz.prog g cb enc k cf blk off d0.size w0)
  (R:RowK enc k w0 blk off d0) (hs:d.size=d0.size) (S:SWK enc k w0 blk off d w) (hb:b≤d.size) (hab:a+1<b) (hsz:d.size<1099511627776) (hS2:Srt cf tag d (a+1) b) (hT:∀ y,a+1≤y→y<b→tag d[a]!<tag d[y]!) :
  Calls Tryz.prog 154 #[.slice (some ⟨blk,off,none⟩) d.size cap,.int .i64 a,.int .i64 m,.int .i64 b,.func (.func g) #[] cb] w (MPost enc cf tag k w0 blk off d a b):=by
 have zE:∀ w,(Go.sizeOf 48).run Tryz.prog w=.ok k w:=by rw [hk2]; exact Tryz.sizeOf48
 have mixed:Tryz.prog.follows Departure.mixedOrders=true:=by kernel_rfl
 have S0:Aside (SWK enc k w0 blk off d w):=S
 have HC:Aside _:=hC
 have HS:=zh hs
 have HS2:=zh hS2
 have HT:=zh hT
 have e1:(m:Int) - (a:Int)=1:=by omega
 have e2:((m:Int) - (a:Int)=1)=True:=eq_true e1
 have hm1:a+1≤m:=by omega
 have hm2:m≤a+1:=by omega
 clear S hk2 hs hC hS2 hT hm
 go_enter Tryz.func154,Tryz.ntmps154
 go_wp2
 go_loopw [10,11] (fun vi vj wr=>∃ (i j:Nat),m≤i∧i≤j∧j≤b∧vi=.int .i64 (i:Nat)∧vj=.int .i64 (j:Nat)∧Aside (SWK enc k w0 blk off d wr)∧Hid (∀ h,a+1≤h→h<i→bef cf tag d[h]! d[a]!)∧Hid (∀ h,j≤h→h<b→bef cf tag d[a]! d[h]!)) (fun vi vj _=>(intOf vj).toNat - (intOf vi).toNat)
 case atStart=>exact ⟨m,b,zG _,by omega,zG _,rfl,rfl,S0,zh (fun h _ _=>by omega),zh (fun h _ _=>by omega)⟩
 case round =>
  clear S0
  obtain ⟨i,j,hi,hij,hjb,rfl,rfl,S1,H1,H2⟩:=hrel
  by_cases hlt:i<j
  ·have hji:(i:Int)<(j:Int):=by omega
   have n1:(0:Int)≤((i:Int)+(j:Int)) / 2:=by omega
   have n2:((i:Int)+(j:Int)) / 2<(d.size:Int):=by omega
   have n3:(((i:Int)+(j:Int)) / 2).toNat=(i+j) / 2:=by omega
   have n4:(a:Int)<(d.size:Int):=by omega
   have SG:Aside (∀ n os,SWK enc k w0 blk off d (grow (wr.drewN n) os)):=fun n os=>S1.out.grown n os
   have l1:=fun n' os'=>S1.out.ld R HS.out Tryz.prog ((i+j) / 2) (by omega) n' os'
   have l2:=fun n' os'=>S1.out.ld R HS.out Tryz.prog (a) (by omega) n' os'
   have hcg:=fun n' os'=>S1.out.cmp HC.out HS.out d[(i+j) / 2]! d[a]! n' os'
   have F1:Hid (cf d[(i+j) / 2]! d[a]!<0→∀ h,a+1≤h→h<(i+j) / 2+1→bef cf tag d[h]! d[a]!):=zh (fun hc h p1 p2=>HS2.out.step_l hW (y:=(i+j) / 2) p1 (by omega) (by omega) (bef_lt hc))
   have F2:Hid (¬ cf d[(i+j) / 2]! d[a]!<0→∀ h,(i+j) / 2≤h→h<b→bef cf tag d[a]! d[h]!):=zh (fun hc h p1 p2=>HS2.out.step_r hW (x:=(i+j) / 2) (by omega) p1 p2 (bef_ge (HT.out _ (by omega) (by omega)) hc))
   obtain ⟨xp,hxp⟩:∃ x,d[(i+j) / 2]! = x:=⟨_,rfl⟩
   obtain ⟨xq,hxq⟩:∃ x,d[a]! = x:=⟨_,rfl⟩
   rw [hxp] at l1
   rw [hxq] at l2
   rw [hxp,hxq] at hcg
   rw [hxp,hxq] at F1 F2
   have HX:Hid (d[(i+j) / 2]! = xp∧d[a]! = xq):=zh ⟨hxp,hxq⟩
   clear hxp hxq
   clear S1
   by_cases hlv:cf xp xq<0
   ·have N1:Hid (∀ h,a+1≤h→h<(i+j) / 2+1→bef cf tag d[h]! d[a]!):=zh (by rw [HX.out.2]; exact F1.out hlv)
    clear F1 F2
    go_wp2_with fail
    go_quiet_grown (first | (go_at_fn g; refine Calls.grown_of (hcg _ _)))
    have S3:Aside (SWK enc k w0 blk off d (grow (wr.drewN nq) osq)):=SG.out nq osq
    generalize grow (wr.drewN nq) osq=w3 at S3 ⊢
    clear l1 l2 hcg SG
    go_wp2
    go_roundw
    case rel=>exact ⟨(i+j) / 2+1,j,by omega,by omega,by omega,by go_num,rfl,S3,N1,H2⟩
    case measure=>simp [intOf]; omega
   ·have N2:Hid (∀ h,(i+j) / 2≤h→h<b→bef cf tag d[a]! d[h]!):=zh (by rw [HX.out.2]; exact F2.out hlv)
    clear F1 F2
    go_wp2_with fail
    go_quiet_grown (first | (go_at_fn g; refine Calls.grown_of (hcg _ _)))
    have S3:Aside (SWK enc k w0 blk off d (grow (wr.drewN nq) osq)):=SG.out nq osq
    generalize grow (wr.drewN nq) osq=w3 at S3 ⊢
    clear l1 l2 hcg SG
    go_wp2
    go_roundw
    case rel=>exact ⟨i,(i+j) / 2,by omega,by omega,by omega,rfl,by go_num,S3,H1,N2⟩
    case measure=>simp [intOf]; omega
  ·obtain rfl:i=j:=by omega
   have HF:Hid (∀ d1:Array α,(∀ x,d1[x]! = shL d a (i - 1) x)→Srt cf tag d1 a b):=zh (fun d1 hd=>shL_srt hW (by omega) hjb HS2.out H1.out H2.out hd)
   clear H1 H2
   go_wp2_with fail
   go_loopw [13] (fun vk wr=>∃ (x:Nat) (dk:Array α),a≤x∧x+1≤i∧vk=.int .i64 (x:Nat)∧Aside (SWK enc k w0 blk off dk wr)∧dk.size=d.size∧Hid (PermIn a b d dk)∧Hid (∀ y,dk[y]! = shL d a x y)) (fun vk _=>i - (intOf vk).toNat)
   case atStart=>exact ⟨a,d,zG _,by omega,rfl,S1,rfl,zh (permIn_refl _ _ _),zh (fun y=>shL_zero d a y)⟩
   case round =>
    clear S1
    obtain ⟨x,dk,hax,hxi,rfl,S1,hds,HP,HX⟩:=hrel
    by_cases hxl:x+1<i
    ·have hxz:(x:Int)<(i:Int) - 1:=by omega
     have n0:(0:Int)≤(x:Int):=by omega
     have n1:(0:Int)≤(x:Int)+1:=by omega
     have n2:(x:Int)+1<(d.size:Int):=by omega
     have n3:(x:Int)<(d.size:Int):=by omega
     have n5:((x:Int)+1).toNat=x+1:=by omega
     have S2:Aside (SWK enc k w0 blk off (swp dk (x) (x+1)) ((wr.drew.setCells blk (off+(x) * k) (enc dk[x+1]!)).setCells blk (off+(x+1) * k) (enc dk[x]!))):=S1.out.swapped R (x) (x+1) (by omega) (by omega)
     have l44a:=S1.out.ld1 R (hds.trans HS.out) Tryz.prog (x) (by omega)
     have l44b:=S1.out.ld1 R (hds.trans HS.out) Tryz.prog (x+1) (by omega)
     have s44a:=S1.out.st1 R (hds.trans HS.out) Tryz.prog (x) (by omega) dk[x+1]!
     have s44b:=S1.out.st2 R (hds.trans HS.out) Tryz.prog (x) (x+1) (by omega) (by omega) dk[x+1]! dk[x]!
     have n44a:(enc dk[x]!).length=k:=R.hk _
     have n44b:(enc dk[x+1]!).length=k:=R.hk _
     have HP2:Hid (PermIn a b d (swp dk x (x+1))):=zh (permIn_trans _ _ _ _ _ HP.out (swp_permIn dk a b x (x+1) (by omega) (by omega) (by omega) (by omega) (by omega)))
     have HX2:Hid (∀ y,(swp dk x (x+1))[y]! = shL d a (x+1) y):=zh (shL_step hax hds (by omega) HX.out)
     generalize enc dk[x]! = cI44 at S2 l44a s44b n44a
     generalize enc dk[x+1]! = cJ44 at S2 l44b s44a s44b n44b
     clear S1 HP HX
     go_wp2_with fail
     go_big_region_o
     clear l44a l44b s44a s44b
     generalize (wr.drew.setCells blk (off+(x) * k) cJ44).setCells blk (off+(x+1) * k) cI44=w2 at S2 ⊢
     go_wp2
     go_roundw
     case rel=>exact ⟨x+1,swp dk x (x+1),by omega,by omega,by go_num,S2,by rw [size_swp]; exact hds,HP2,HX2⟩
     case measure=>simp [intOf]; omega
    ·have hxz:¬ (x:Int)<(i:Int) - 1:=by omega
     have Fin:=zh (HF.out dk (by rw [show i - 1=x by omega]; exact HX.out))
     go_wp2
     go_end0
     exact ⟨rfl,dk,S1.out,hds,HP.out,Fin.out⟩
set_option maxHeartbeats 2000000 in
set_option maxRecDepth 1000000 in
theorem symR_any (hW:SWO (ltOf cf)) (k:Nat) (hk2:k=3) (g:Nat) (cb:Array Value) (blk off cap a m b:Nat) (hm:b=m+1) (d0 d:Array α) (w0 w:World) (eg:∀ args w,(callFunc g args).run Tryz.prog w=.ok (.enter g args) w) (hC:CmpLays Tryz.prog g cb enc k cf blk off d0.size w0)
  (R:RowK enc k w0 blk off d0) (hs:d.size=d0.size) (S:SWK enc k w0 blk off d w) (hb:b≤d.size) (hab:a+1<m) (hsz:d.size<1099511627776) (hS2:Srt cf tag d a m) (hT:∀ y,a≤y→y<m→tag d[y]!<tag d[m]!) :
  Calls Tryz.prog 154 #[.slice (some ⟨blk,off,none⟩) d.size cap,.int .i64 a,.int .i64 m,.int .i64 b,.func (.func g) #[] cb] w (MPost enc cf tag k w0 blk off d a b):=by
 have zE:∀ w,(Go.sizeOf 48).run Tryz.prog w=.ok k w:=by rw [hk2]; exact Tryz.sizeOf48
 have mixed:Tryz.prog.follows Departure.mixedOrders=true:=by kernel_rfl
 have S0:Aside (SWK enc k w0 blk off d w):=S
 have HC:Aside _:=hC
 have HS:=zh hs
 have HS2:=zh hS2
 have HT:=zh hT
 have e1:((m:Int) - (a:Int)=1)=False:=eq_false (by omega)
 have e1':((m:Int) - (a:Int) == 1)=false:=by simp; omega
 have e2:(b:Int) - (m:Int)=1:=by omega
 have hm1:m+1≤b:=by omega
 have hm2:b≤m+1:=by omega
 clear S hk2 hs hC hS2 hT hm
 go_enter Tryz.func154,Tryz.ntmps154
 go_wp2
 go_loopw [14,15] (fun vi vj wr=>∃ (i j:Nat),a≤i∧i≤j∧j≤m∧vi=.int .i64 (i:Nat)∧vj=.int .i64 (j:Nat)∧Aside (SWK enc k w0 blk off d wr)∧Hid (∀ h,a≤h→h<i→bef cf tag d[h]! d[m]!)∧Hid (∀ h,j≤h→h<m→bef cf tag d[m]! d[h]!)) (fun vi vj _=>(intOf vj).toNat - (intOf vi).toNat)
 case atStart=>exact ⟨a,m,zG _,by omega,zG _,rfl,rfl,S0,zh (fun h _ _=>by omega),zh (fun h _ _=>by omega)⟩
 case round =>
  clear S0
  obtain ⟨i,j,hi,hij,hjb,rfl,rfl,S1,H1,H2⟩:=hrel
  by_cases hlt:i<j
  ·have hji:(i:Int)<(j:Int):=by omega
   have n1:(0:Int)≤((i:Int)+(j:Int)) / 2:=by omega
   have n2:((i:Int)+(j:Int)) / 2<(d.size:Int):=by omega
   have n3:(((i:Int)+(j:Int)) / 2).toNat=(i+j) / 2:=by omega
   have n4:(m:Int)<(d.size:Int):=by omega
   have SG:Aside (∀ n os,SWK enc k w0 blk off d (grow (wr.drewN n) os)):=fun n os=>S1.out.grown n os
   have l1:=fun n' os'=>S1.out.ld R HS.out Tryz.prog (m) (by omega) n' os'
   have l2:=fun n' os'=>S1.out.ld R HS.out Tryz.prog ((i+j) / 2) (by omega) n' os'
   have hcg:=fun n' os'=>S1.out.cmp HC.out HS.out d[m]! d[(i+j) / 2]! n' os'
   have F1:Hid (cf d[m]! d[(i+j) / 2]!<0→∀ h,(i+j) / 2≤h→h<m→bef cf tag d[m]! d[h]!):=zh (fun hc h p1 p2=>HS2.out.step_r hW (x:=(i+j) / 2) (by omega) p1 p2 (bef_lt hc))
   have F2:Hid (¬ cf d[m]! d[(i+j) / 2]!<0→∀ h,a≤h→h<(i+j) / 2+1→bef cf tag d[h]! d[m]!):=zh (fun hc h p1 p2=>HS2.out.step_l hW (y:=(i+j) / 2) p1 (by omega) (by omega) (bef_ge (HT.out _ (by omega) (by omega)) hc))
   obtain ⟨xp,hxp⟩:∃ x,d[m]! = x:=⟨_,rfl⟩
   obtain ⟨xq,hxq⟩:∃ x,d[(i+j) / 2]! = x:=⟨_,rfl⟩
   rw [hxp] at l1
   rw [hxq] at l2
   rw [hxp,hxq] at hcg
   rw [hxp,hxq] at F1 F2
   have HX:Hid (d[(i+j) / 2]! = xq∧d[m]! = xp):=zh ⟨hxq,hxp⟩
   clear hxp hxq
   clear S1
   by_cases hlv:cf xp xq<0
   ·have N2:Hid (∀ h,(i+j) / 2≤h→h<m→bef cf tag d[m]! d[h]!):=zh (by rw [HX.out.2]; exact F1.out hlv)
    clear F1 F2
    go_wp2_with fail
    go_quiet_grown (first | (go_at_fn g; refine Calls.grown_of (hcg _ _)))
    have S3:Aside (SWK enc k w0 blk off d (grow (wr.drewN nq) osq)):=SG.out nq osq
    generalize grow (wr.drewN nq) osq=w3 at S3 ⊢
    clear l1 l2 hcg SG
    go_wp2
    go_roundw
    case rel=>exact ⟨i,(i+j) / 2,by omega,by omega,by omega,rfl,by go_num,S3,H1,N2⟩
    case measure=>simp [intOf]; omega
   ·have hdec:decide (cf xp xq<0)=false:=decide_eq_false hlv
    have N1:Hid (∀ h,a≤h→h<(i+j) / 2+1→bef cf tag d[h]! d[m]!):=zh (by rw [HX.out.2]; exact F2.out hlv)
    clear F1 F2
    go_wp2_with fail
    go_quiet_grown (first | (go_at_fn g; refine Calls.grown_of (hcg _ _)))
    have S3:Aside (SWK enc k w0 blk off d (grow (wr.drewN nq) osq)):=SG.out nq osq
    generalize grow (wr.drewN nq) osq=w3 at S3 ⊢
    clear l1 l2 hcg SG
    go_wp2
    go_roundw
    case rel=>exact ⟨(i+j) / 2+1,j,by omega,by omega,by omega,by go_num,rfl,S3,N1,H2⟩
    case measure=>simp [intOf]; omega
  ·obtain rfl:i=j:=by omega
   have HF:Hid (∀ d1:Array α,(∀ x,d1[x]! = shR d m i x)→Srt cf tag d1 a b):=zh (fun d1 hd=>by rw [show b=m+1 by omega]; exact shR_srt hW hi hjb HS2.out H1.out H2.out hd)
   clear H1 H2
   go_wp2_with fail
   go_loopw [17] (fun vk wr=>∃ (x:Nat) (dk:Array α),i≤x∧x≤m∧vk=.int .i64 (x:Nat)∧Aside (SWK enc k w0 blk off dk wr)∧dk.size=d.size∧Hid (PermIn a b d dk)∧Hid (∀ y,dk[y]! = shR d m x y)) (fun vk _=>(intOf vk).toNat)
   case atStart=>exact ⟨m,d,hjb,zG _,rfl,S1,rfl,zh (permIn_refl _ _ _),zh (fun y=>shR_zero d m y)⟩
   case round =>
    clear S1
    obtain ⟨x',dk,hix,hxm,rfl,S1,hds,HP,HX⟩:=hrel
    by_cases hxl:i<x'
    ·obtain ⟨x,rfl⟩:∃ x,x'=x+1:=⟨x' - 1,by omega⟩
     have hxz:(i:Int)<(x:Int)+1:=by omega
     have n0:(0:Int)≤(x:Int):=by omega
     have n1:(0:Int)≤(x:Int)+1:=by omega
     have n2:(x:Int)+1<(d.size:Int):=by omega
     have n3:(x:Int)<(d.size:Int):=by omega
     have n5:((x:Int)+1).toNat=x+1:=by omega
     have S2:Aside (SWK enc k w0 blk off (swp dk (x+1) (x)) ((wr.drew.setCells blk (off+(x+1) * k) (enc dk[x]!)).setCells blk (off+(x) * k) (enc dk[x+1]!))):=S1.out.swapped R (x+1) (x) (by omega) (by omega)
     have l44a:=S1.out.ld1 R (hds.trans HS.out) Tryz.prog (x+1) (by omega)
     have l44b:=S1.out.ld1 R (hds.trans HS.out) Tryz.prog (x) (by omega)
     have s44a:=S1.out.st1 R (hds.trans HS.out) Tryz.prog (x+1) (by omega) dk[x]!
     have s44b:=S1.out.st2 R (hds.trans HS.out) Tryz.prog (x+1) (x) (by omega) (by omega) dk[x]! dk[x+1]!
     have n44a:(enc dk[x+1]!).length=k:=R.hk _
     have n44b:(enc dk[x]!).length=k:=R.hk _
     have HP2:Hid (PermIn a b d (swp dk (x+1) x)):=zh (permIn_trans _ _ _ _ _ HP.out (swp_permIn dk a b (x+1) x (by omega) (by omega) (by omega) (by omega) (by omega)))
     have HX2:Hid (∀ y,(swp dk (x+1) x)[y]! = shR d m x y):=zh (shR_step hxm hds (by omega) HX.out)
     generalize enc dk[x+1]! = cI44 at S2 l44a s44b n44a
     generalize enc dk[x]! = cJ44 at S2 l44b s44a s44b n44b
     clear S1 HP HX
     go_wp2_with fail
     go_big_region_o
     clear l44a l44b s44a s44b
     generalize (wr.drew.setCells blk (off+(x+1) * k) cJ44).setCells blk (off+(x) * k) cI44=w2 at S2 ⊢
     go_wp2
     go_roundw
     case rel=>exact ⟨x,swp dk (x+1) x,by omega,by omega,by first | rfl | go_num | (congr 1; omega),S2,by rw [size_swp]; exact hds,HP2,HX2⟩
     case measure=>first | (simp [intOf]; done) | (simp [intOf]; omega)
    ·have hxz:¬ (i:Int)<(x':Int):=by omega
     have Fin:=zh (HF.out dk (by rw [show i=x' by omega]; exact HX.out))
     go_wp2
     go_end0
     exact ⟨rfl,dk,S1.out,hds,HP.out,Fin.out⟩
end Go.Proofs.YtmomjpolkkbhnaaGreat.Ss
end

section
namespace Go.Proofs.YtmomjpolkkbhnaaGreat.Cr
open Go.RowKit
set_option maxHeartbeats 1600000 in
theorem on_any (s:Nat) (q:UInt8) (w:World) (hs:s<2 ^ 32):Calls Tryz.prog 174 #[.int .u32 (s:Int),.int .u8 (q.toNat:Int)] w fun e w'=>e=.returned (.int .u32 (on s q:Nat))∧w=w':=by
 have hq:=q.toNat_lt
 have hxb:=xor_bits s q.toNat hs (by omega)
 have hz:s ^^^ q.toNat<2 ^ 32:=Nat.xor_lt_two_pow hs (by omega)
 have Ho:Hid (on s q=ons 8 (s ^^^ q.toNat)):=zh rfl
 generalize on s q=r at *
 generalize s ^^^ q.toNat=z at *
 have hs0:(0:Int)≤(s:Int):=by omega
 have hs1:(s:Int)≤4294967295:=by omega
 have hq1:(q.toNat:Int)<256:=by omega
 go_enter Tryz.func174,Tryz.ntmps174
 go_wp2_with fail
 clear hxb
 go_loop [0,5] (fun x n=>∃ m:Nat,m≤8∧n=.int .i64 m∧x=.int .u32 (ons m z:Nat)) (fun _ n=>8 - (intOf n).toNat)
 case atStart=>exact ⟨0,by omega,rfl,rfl⟩
 case round =>
  obtain ⟨m,hm,rfl,rfl⟩:=hrel
  have hx:=ons_lt m hz
  have Hs:Hid (ons (m+1) z=on1 (ons m z)):=zh rfl
  have H8:Hid (m=8→ons m z=r):=zh (fun e=>by rw [e,Ho.out])
  generalize ons m z=x at *
  have hx0:(0:Int)≤(x:Int):=by omega
  have hx1:(x:Int)≤4294967295:=by omega
  by_cases hm8:m<8
  ·have hmi:(m:Int)<8:=by omega
   rcases Nat.mod_two_eq_zero_or_one x with h2 | h2
   ·have hb:(x:Int) % 2=0:=by omega
    have Fin:Hid (on1 x=x / 2):=zh (by unfold on1; rw [if_neg (by omega)])
    clear h2
    go_wp2
    go_round
    case rel=>exact ⟨m+1,by omega,by go_num,by rw [Hs.out,Fin.out,half]⟩
    case measure=>simp [intOf]; omega
   ·have hb:(x:Int) % 2=1:=by omega
    have hxb:bits .xor .u32 ((x:Int) / 2) 3988292384=((on1 x:Nat):Int):=by
     rw [← half,show (3988292384:Int)=((3988292384:Nat):Int) from rfl,xor_bits _ _ (by omega) (by omega)]
     unfold on1; rw [if_pos h2]
    clear h2
    go_wp2
    go_round
    case rel=>exact ⟨m+1,by omega,by go_num,by rw [Hs.out]⟩
    case measure=>simp [intOf]; omega
  ·obtain rfl:m=8:=by omega
   have e8:=H8.out rfl
   have H9:=zh e8
   clear e8
   go_wp2
   go_ret
   rw [H9.out]
   exact ⟨rfl,rfl⟩
set_option maxHeartbeats 1600000 in
theorem rnext_any (s:Nat) (A:Option Addr) (n c:Nat) (L:List UInt8) (w:World) (hs:s<2 ^ 32) (hR:Reads w w.heap.size 1 A n (bv L)) (hn:n≤140737488351232) :
  Calls Tryz.prog 148 #[.int .u32 (s:Int),.slice A n c] w fun e w'=>e=.returned (.int .u32 (nots (run (nots s) L):Nat))∧w=w':=by
 have hln:L.length=n:=by have:=hR.1; rw [bv_len] at this; omega
 have Hln:=zh hln
 have HR:=zh hR
 have hs0:(0:Int)≤(s:Int):=by omega
 have hs1:(s:Int)≤4294967295:=by omega
 have hns:=nots_lt hs
 have hnb:=not_bits s hs
 have hsg:IntKind.u32.signed=false:=rfl
 clear hR hln
 go_enter Tryz.func148,Tryz.ntmps148
 go_wp2_with fail
 clear hnb
 go_loop [0,5] (fun x i=>∃ k:Nat,k≤n∧i=.int .i64 k∧x=.int .u32 (run (nots s) (L.take k):Nat)) (fun _ i=>n - (intOf i).toNat)
 case atStart=>exact ⟨0,Nat.zero_le _,rfl,rfl⟩
 case round =>
  obtain ⟨k,hk,rfl,rfl⟩:=hrel
  have hx:=run_lt hns (L.take k)
  by_cases hlt:k<n
  ·have hkl:k<L.length:=by rw [Hln.out]; exact hlt
   obtain ⟨b,o,hl,rfl,hbl,hcell⟩:=HR.out.at_map hlt
   have hts:run (nots s) (L.take (k+1))=on (run (nots s) (L.take k)) L[k]:=by
    rw [List.take_succ_eq_append_getElem hkl,run_snoc]
   have Hts:=zh hts
   clear hts
   generalize run (nots s) (L.take k)=x at *
   generalize L[k]=q at *
   have c1:=on_any x q w hx
   go_wp2_with fail
   refine c1.mono ?_
   rintro e w' ⟨rfl,rfl⟩
   clear c1
   go_wp2
   go_round
   case rel=>exact ⟨k+1,by omega,by go_num,by rw [Hts.out]⟩
   case measure=>simp [intOf]; omega
  ·obtain rfl:k=n:=by omega
   have Fin:Hid (L.take k=L):=zh (List.take_of_length_le (by rw [Hln.out]; exact zG _))
   have hnb:=not_bits _ hx
   rw [Fin.out] at hx hnb ⊢
   generalize hxx:run (nots s) L=x at *
   have Hx:=zh hxx
   clear hxx
   go_wp2
   go_ret
   rw [Hx.out]
   exact ⟨rfl,rfl⟩
theorem of_any (A:Option Addr) (n c:Nat) (L:List UInt8) (w:World) (hR:Reads w w.heap.size 1 A n (bv L)) (hn:n≤140737488351232) :
  Calls Tryz.prog 122 #[.slice A n c] w fun e w'=>e=.returned (.int .u32 (crc L:Nat))∧w=w':=by
 have c1:=rnext_any 0 A n c L w (by omega) hR hn
 rw [nots_zero] at c1
 have hcr:crc L=nots (run 4294967295 L):=rfl
 rw [← hcr] at c1
 generalize crc L=r at *
 clear hcr hR
 go_enter Tryz.func122,Tryz.ntmps122
 go_wp2_with fail
 refine c1.mono ?_
 rintro e w' ⟨rfl,rfl⟩
 clear c1
 go_wp2
 go_ret
 exact ⟨rfl,rfl⟩
end Go.Proofs.YtmomjpolkkbhnaaGreat.Cr
end

section
namespace Go.Proofs.YtmomjpolkkbhnaaGreat.Ph
open Go Go.RowKit
def Tr (_ _:World):Prop:=True
section
variable {P:Program} {ops:Array Oper} {md:Region.Mode} {C:World→Prop} {Q:Act→World→Prop} {S:Nat→Option RSpec} {n g:Nat} {K:Array Bool→Act→(World→Prop)→Prop}
def updI (I:World→Prop):Option (World→Prop)→World→Prop
 | none=>I
 | some p=>p
def Fixed (P:Program) (C:World→Prop) (o:Oper) (a:Act) (c:Value):Prop :=
 ∀ w,C w→(execOp a.eval o).run P w=.ok (.value c) w∨((execOp a.eval o).run P w=.ok .skip w∧c=undef)
def Gives (P:Program) (C:World→Prop) (I:World→Prop) (o:Oper) (a:Act) (s:RSpec):Prop :=
 ∀ w,C w→I w→growUpon P Tr w (fun v w'=>C w'∧∃ x,v=s.f x∧s.Φ x w') ((execOp a.eval o).run P w)
def stepI (P:Program) (ops:Array Oper) (C:World→Prop) (S:Nat→Option RSpec) (i:Nat) (o:Oper) (K:Act→(World→Prop)→Prop) (a:Act) (I:World→Prop):Prop :=
 if Region.wanted o (yielded ops a.tmps)=true then
  match S i with
  | none=>∃ c,Fixed P C o a c∧K (a.put o.dst c) I
  | some s=>Gives P C I o a s∧∀ x,K (a.put o.dst (s.f x)) (s.Φ x)
 else K (a.put o.dst undef) I
def SatI (C:World→Prop) (I:World→Prop):Prop:=∃ w,C w∧I w
def FinI (C:World→Prop) (Q:Act→World→Prop) (a:Act) (I:World→Prop):Prop:=∀ w,C w→I w→Q a w
def TAnyI (P:Program) (md:Region.Mode) (ops:Array Oper) (C:World→Prop) (S:Nat→Option RSpec) (n:Nat) (K:Array Bool→Act→(World→Prop)→Prop):Nat→Array Bool→Act→(World→Prop)→Prop
 | 0,listed,a,I=>SatI C I→K listed a I
 | fuel+1,listed,a,I=>SatI C I→(Region.ready md ops listed≠[] ∧
  ∀ i∈Region.ready md ops listed,i<n∧∀ o,ops[i]?=some o→stepI P ops C S i o (TAnyI P md ops C S n K fuel (listed.setIfInBounds i true)) a I)
def wpPh (P:Program) (ops:Array Oper) (C:World→Prop) (S:Nat→Option RSpec) (Q:Act→World→Prop):List Oper→Nat→Act→(World→Prop)→Prop
 | [],_,a,I=>FinI C Q a I
 | o :: rest,k,a,I=>stepI P ops C S k o (wpPh P ops C S Q rest (k+1)) a I
theorem wpAny_of_I {Q':Exit→Act→World→Prop} (hK:∀ listed a I w,K listed a I→C w→I w→wpAny P md ops Q' g listed a w) :
  ∀ (fuel:Nat) (listed:Array Bool) (a:Act) (I:World→Prop) (w:World),C w→I w→TAnyI P md ops C S n K fuel listed a I→wpAny P md ops Q' (fuel+g) listed a w
 | 0,_,a,I,w,hC,hI,h=>by rw [Nat.zero_add]; exact hK _ _ _ _ (h ⟨w,hC,hI⟩) hC hI
 | fuel+1,listed,a,I,w,hC,hI,h=>by
  rw [show fuel+1+g=(fuel+g)+1 by omega]
  have h:=h ⟨w,hC,hI⟩
  refine ⟨fun h0=>absurd h0 h.1,fun i hi=>?_⟩
  unfold wpOp
  obtain ⟨_,o,ho,_⟩:=mem_ready.1 hi
  simp only [ho]
  have hs:=(h.2 i hi).2 o ho
  unfold stepI at hs
  split
  ·rename_i hw
   rw [if_pos hw] at hs
   left
   split at hs
   ·rename_i hSi
    obtain ⟨c,h1,h2⟩:=hs
    rcases h1 w hC with hr | ⟨hr,rfl⟩
    ·unfold Oper.wp; rw [hr]
     exact wpAny_of_I hK fuel _ _ I w hC hI h2
    ·unfold Oper.wp; rw [hr]
     exact wpAny_of_I hK fuel _ _ I w hC hI h2
   ·rename_i s hSi
    refine wp_of_gives ?_ (hs.1 w hC hI)
    rintro v w' _ ⟨hC',x,rfl,hx⟩
    exact wpAny_of_I hK fuel _ _ _ w' hC' hx (hs.2 x)
  ·rename_i hw
   rw [if_neg hw] at hs
   exact wpAny_of_I hK fuel _ _ I w hC hI hs
inductive Head (P:Program) (ops:Array Oper) (C:World→Prop) (S:Nat→Option RSpec) (i:Nat) (o:Oper) (a:Act) (I:World→Prop):(V:Type)→(V→Value)→(V→Option (World→Prop))→Prop
 | skip (h:Region.wanted o (yielded ops a.tmps)=false):Head P ops C S i o a I Unit (fun _=>undef) (fun _=>none)
 | fixed (h:Region.wanted o (yielded ops a.tmps)=true) (hs:S i=none) (c:Value) (hf:Fixed P C o a c):Head P ops C S i o a I Unit (fun _=>c) (fun _=>none)
 | gives (h:Region.wanted o (yielded ops a.tmps)=true) (s:RSpec) (hs:S i=some s) (hg:Gives P C I o a s):Head P ops C S i o a I s.α s.f (fun x=>some (s.Φ x))
section
variable {i:Nat} {o:Oper} {a a':Act} {I I':World→Prop} {V V':Type} {f:V→Value} {p:V→Option (World→Prop)} {f':V'→Value} {p':V'→Option (World→Prop)}
theorem Head.step (h:Head P ops C S i o a I V f p) {K:Act→(World→Prop)→Prop} (hk:∀ x,K (a.put o.dst (f x)) (updI I (p x))):stepI P ops C S i o K a I:=by
 cases h with
 | skip h=>unfold stepI; rw [if_neg (by rw [h]; decide)]; exact hk ()
 | fixed h hs c hf=>unfold stepI; rw [if_pos h]; simp only [hs]; exact ⟨c,hf,hk ()⟩
 | gives h s hs hg=>unfold stepI; rw [if_pos h]; simp only [hs]; exact ⟨hg,hk⟩
theorem head_of_step {K:Act→(World→Prop)→Prop} (h:stepI P ops C S i o K a I) :
  ∃ (V:Type) (f:V→Value) (p:V→Option (World→Prop)),Head P ops C S i o a I V f p∧∀ x,K (a.put o.dst (f x)) (updI I (p x)):=by
 unfold stepI at h
 by_cases hw:Region.wanted o (yielded ops a.tmps)=true
 ·rw [if_pos hw] at h
  split at h
  ·rename_i hs
   obtain ⟨c,h1,h2⟩:=h
   exact ⟨_,_,_,.fixed hw hs c h1,fun _=>h2⟩
  ·rename_i s hs
   exact ⟨_,_,_,.gives hw s hs h.1,h.2⟩
 ·rw [if_neg hw] at h
  exact ⟨_,_,_,.skip (by simpa using hw),fun _=>h⟩
theorem Head.same (h:Head P ops C S i o a I V f p) (he:execOp a'.eval o=execOp a.eval o) (hw:Region.wanted o (yielded ops a'.tmps)=Region.wanted o (yielded ops a.tmps)) (hI:S i=none∨I'=I):Head P ops C S i o a' I' V f p:=by
 cases h with
 | skip h=>exact .skip (by rw [hw]; exact h)
 | fixed h hs c hf=>exact .fixed (by rw [hw]; exact h) hs c (fun w hC=>by rw [he]; exact hf w hC)
 | gives h s hs hg =>
  rcases hI with hI | rfl
  ·rw [hI] at hs; cases hs
  ·exact .gives (by rw [hw]; exact h) s hs (fun w hC hI=>by rw [he]; exact hg w hC hI)
theorem Head.quiet (h:Head P ops C S i o a I V f p) (hs:S i=none) (x:V):p x=none:=by
 cases h with
 | skip h=>rfl
 | fixed h hs c hf=>rfl
 | gives h s hs' hg=>rw [hs] at hs'; cases hs'
theorem Head.one (h:Head P ops C S i o a I V f p) (h':Head P ops C S i o a I V' f' p') (hs:SatI C I) (x:V):∃ x',f' x'=f x∧p' x'=p x:=by
 obtain ⟨w,hC,hI⟩:=hs
 cases h with
 | skip h =>
  cases h' with
  | skip h'=>exact ⟨(),rfl,rfl⟩
  | fixed h' _ _ _=>rw [h] at h'; cases h'
  | gives h' _ _ _=>rw [h] at h'; cases h'
 | fixed h hs c hf =>
  cases h' with
  | skip h'=>rw [h] at h'; cases h'
  | fixed h' hs' c' hf' =>
   refine ⟨(),?_,rfl⟩
   show c'=c
   rcases hf w hC with h1 | ⟨h1,rfl⟩ <;> rcases hf' w hC with h2 | ⟨h2,rfl⟩
   ·rw [h1] at h2; injection h2 with h2; injection h2 with h2; exact h2.symm
   ·rw [h1] at h2; injection h2 with h2; cases h2
   ·rw [h1] at h2; injection h2 with h2; cases h2
   ·rfl
  | gives h' s hs' hg'=>rw [hs] at hs'; cases hs'
 | gives h s hs hg =>
  cases h' with
  | skip h'=>rw [h] at h'; cases h'
  | fixed h' hs' c' hf'=>rw [hs] at hs'; cases hs'
  | gives h' s' hs' hg' =>
   rw [hs] at hs'
   injection hs' with hs'
   subst hs'
   exact ⟨x,rfl,rfl⟩
theorem Head.sat (h:Head P ops C S i o a I V f p) (hs:SatI C I):∃ x,SatI C (updI I (p x)):=by
 cases h with
 | skip h=>exact ⟨(),hs⟩
 | fixed h _ c hf=>exact ⟨(),hs⟩
 | gives h s hsi hg =>
  obtain ⟨w,hC,hI⟩:=hs
  have h1:=hg w hC hI
  have key:∀ (v:Value) (w':World),(C w'∧∃ x,v=s.f x∧s.Φ x w')→∃ x,SatI C (updI I (some (s.Φ x))):=by
   rintro v w' ⟨hC',x,_,hx⟩
   exact ⟨x,w',hC',hx⟩
  generalize (execOp a.eval o).run P w=r at h1
  cases r with
  | ok n w' =>
   cases n <;> simp only [growUpon] at h1
   case value u=>exact key _ _ h1.2
   case skip=>exact key _ _ h1.2
   case enter f args =>
    obtain ⟨e,w'',_,⟨v,_,_,hr⟩,_⟩:=h1 []
    exact key v w'' hr
  | halt x w'=>simp only [growUpon] at h1
theorem updI_comm {p q:Option (World→Prop)} (h:p=none∨q=none):updI (updI I p) q=updI (updI I q) p:=by
 rcases h with rfl | rfl
 ·cases q <;> rfl
 ·cases p <;> rfl
end
inductive Waits (md:Region.Mode) (ops:Array Oper):Nat→Nat→Prop
 | one {j:Nat} {oj:Oper} (hj:ops[j]?=some oj) (e:Edge) (he:e∈oj.after) (hb:Region.binds md e=true):Waits md ops j e.on
 | more {j i:Nat} {oj:Oper} (hj:ops[j]?=some oj) (e:Edge) (he:e∈oj.after) (hb:Region.binds md e=true) (h:Waits md ops e.on i):Waits md ops j i
theorem Waits.listed {j i:Nat} {listed:Array Bool} (h:Waits md ops j i) (inv:HeadInv md ops n listed):listed.getD j false=true→listed.getD i false=true:=by
 induction h with
 | one hj e he hb=>exact fun hl=>inv.closed _ _ hj hl e he hb
 | more hj e he hb _ ih=>exact fun hl=>ih (inv.closed _ _ hj hl e he hb)
theorem Waits.ready {j i:Nat} {listed:Array Bool} (h:Waits md ops j i) (inv:HeadInv md ops n listed) (hr:j∈Region.ready md ops listed):listed.getD i false=true:=by
 obtain ⟨_,o,ho,hall⟩:=mem_ready.1 hr
 cases h with
 | one hj e he hb =>
  rw [ho] at hj
  injection hj with hj
  subst hj
  exact hall e he hb
 | more hj e he hb h =>
  rw [ho] at hj
  injection hj with hj
  subst hj
  exact h.listed inv (hall e he hb)
theorem Waits.not {j i:Nat} {listed:Array Bool} (h:Waits md ops j i) (inv:HeadInv md ops n listed) (hr:j∈Region.ready md ops listed) (hi:i∈Region.ready md ops listed):False:=by
 have h1:=h.ready inv hr
 have h0:=(mem_ready.1 hi).1
 rcases Nat.lt_or_ge i listed.size with h' | h'
 ·simp [h'] at h0 h1; rw [h0] at h1; cases h1
 ·simp [Array.getElem?_eq_none h'] at h1
def Turns (md:Region.Mode) (ops:Array Oper) (S:Nat→Option RSpec):Prop:=∀ (i j:Nat) (oi oj:Oper),ops[i]?=some oi→ops[j]?=some oj→i≠j→S i=none∨S j=none∨Waits md ops j i∨Waits md ops i j
theorem TAnyI_first {i:Nat} {oi:Oper} (hi:ops[i]?=some oi) (hsel:∀ (j:Nat) (o:Oper) cs b,ops[j]?=some o→o.op≠.select cs b) (hT:Turns md ops S)
  (hs:Region.sinkB md ops n=true) (hc:Region.chainB md ops n=true) (hn:n<ops.size) (hin:i<n) (hdone:∀ listed a I,K listed a I→∀ j∈Region.ready md ops listed,n≤j)
  {V:Type} {f:V→Value} {p:V→Option (World→Prop)} :
  ∀ (fuel:Nat) (listed:Array Bool) (a:Act) (I:World→Prop),HeadInv md ops n listed →
   (∀ j oj,ops[j]?=some oj→j≠i→listed.getD j true=false→(∀ e∈oj.after,Region.binds md e=true→e.on≠i)→oi.apart ops oj=true) →
   i∈Region.ready md ops listed→Head P ops C S i oi a I V f p →
   (∀ x,TAnyI P md ops C S n K fuel (listed.setIfInBounds i true) (a.put oi.dst (f x)) (updI I (p x)))→TAnyI P md ops C S n K (fuel+1) listed a I:=by
 intro fuel
 induction fuel with
 | zero =>
  intro listed a I inv _ hr hy H hsat
  have hun:=(mem_ready.1 hr).1
  refine ⟨fun h=>(by rw [h] at hr; cases hr),fun j hj=>?_⟩
  have hjn:j<n:=by
   rcases Nat.lt_or_ge j n with h | h
   ·exact h
   ·exact absurd hj (tail_waits hs hc hn inv _ i rfl hin hun j h)
  refine ⟨hjn,fun oj hoj=>?_⟩
  by_cases hji:j=i
  ·subst hji
   rw [hi] at hoj
   injection hoj with hoj
   subst hoj
   exact hy.step H
  ·obtain ⟨x,hx⟩:=hy.sat hsat
   have:=hdone _ _ _ (H x hx) j (ready_mono hj hji)
   omega
 | succ fuel ih =>
  intro listed a I inv hfree hr hy H hsat
  have hun0:=(mem_ready.1 hr).1
  refine ⟨fun h=>(by rw [h] at hr; cases hr),fun j hj=>?_⟩
  have hjn:j<n:=by
   rcases Nat.lt_or_ge j n with h | h
   ·exact h
   ·exact absurd hj (tail_waits hs hc hn inv _ i rfl hin hun0 j h)
  refine ⟨hjn,fun oj hoj=>?_⟩
  by_cases hji:j=i
  ·subst hji
   rw [hi] at hoj
   injection hoj with hoj
   subst hoj
   exact hy.step H
  ·obtain ⟨hjun,oj',hoj',hall⟩:=mem_ready.1 hj
   rw [hoj] at hoj'
   injection hoj' with hoj'
   subst hoj'
   have hnot:∀ e∈oj.after,Region.binds md e=true→e.on≠i:=fun e he hb heq=>by
    have h1:=hall e he hb
    have h0:=(mem_ready.1 hr).1
    rw [heq] at h1
    rcases Nat.lt_or_ge i listed.size with h' | h'
    ·simp [h'] at h0 h1; rw [h0] at h1; cases h1
    ·simp [Array.getElem?_eq_none h'] at h1
   have hnot2:∀ e∈oi.after,Region.binds md e=true→e.on≠j:=fun e he hb heq=>by
    obtain ⟨h0,o2,ho2,hall2⟩:=mem_ready.1 hr
    rw [hi] at ho2
    injection ho2 with ho2
    subst ho2
    have h1:=hall2 e he hb
    rw [heq] at h1
    rcases Nat.lt_or_ge j listed.size with h' | h'
    ·simp [h'] at hjun h1; rw [hjun] at h1; cases h1
    ·simp [Array.getElem?_eq_none h'] at h1
   have hturn:S i=none∨S j=none:=by
    rcases hT i j oi oj hi hoj (Ne.symm hji) with h | h | h | h
    ·exact .inl h
    ·exact .inr h
    ·exact (h.not inv hj hr).elim
    ·exact (h.not inv hr hj).elim
   have hap:=hfree j oj hoj hji hjun hnot
   obtain ⟨a1,a2,a3⟩:=Oper.apart_spec hap
   have hsi:∀ cs b,oi.op≠.select cs b:=fun cs b=>hsel i oi cs b hi
   have hsj:∀ cs b,oj.op≠.select cs b:=fun cs b=>hsel j oj cs b hoj
   obtain ⟨x0,hx0⟩:=hy.sat hsat
   have hix:∀ x,S j=none∨updI I (p x)=I:=fun x=>by
    rcases hturn with h | h
    ·rw [hy.quiet h x]; exact .inr rfl
    ·exact .inl h
   obtain ⟨Vj,fj,pj,hj0,_⟩:=head_of_step (((H x0 hx0).2 j (ready_mono hj hji)).2 oj hoj)
   have hja:Head P ops C S j oj a I Vj fj pj:=hj0.same (execOp_put oj hsj a oi.dst _ a1).symm (wanted_put oj a oi.dst _ a1).symm ((hix x0).imp id Eq.symm)
   have hjH:∀ x,Head P ops C S j oj (a.put oi.dst (f x)) (updI I (p x)) Vj fj pj:=fun x =>
    hja.same (execOp_put oj hsj a oi.dst _ a1) (wanted_put oj a oi.dst _ a1) (hix x)
   have hjy:∀ y,S i=none∨updI I (pj y)=I:=fun y=>by
    rcases hturn with h | h
    ·exact .inl h
    ·rw [hja.quiet h y]; exact .inr rfl
   have hcomm:∀ x y,updI (updI I (p x)) (pj y)=updI (updI I (pj y)) (p x):=fun x y=>by
    refine updI_comm ?_
    rcases hturn with h | h
    ·exact .inl (hy.quiet h x)
    ·exact .inr (hja.quiet h y)
   refine hja.step fun y=>?_
   refine ih (listed.setIfInBounds j true) (a.put oj.dst (fj y)) (updI I (pj y)) (inv.set hj hjn) ?_ (ready_mono hr (Ne.symm hji)) ?_ ?_
   ·intro k ok hk hki hun hno
    refine hfree k ok hk hki ?_ hno
    by_cases hjk:j=k
    ·subst hjk; exact hjun
    ·rw [getD_set_ne true hjk] at hun; exact hun
   ·exact hy.same (execOp_put oi hsi a oj.dst _ a3) (wanted_put oi a oj.dst _ a3) (hjy y)
   ·intro x
    rw [← hcomm x y,← Act.put_comm a (f x) (fj y) a2,Array.setIfInBounds_comm _ _ hji]
    have hb:SatI C (updI I (p x))→TAnyI P md ops C S n K fuel ((listed.setIfInBounds i true).setIfInBounds j true) ((a.put oi.dst (f x)).put oj.dst (fj y)) (updI (updI I (p x)) (pj y)):=by
     intro hsx
     obtain ⟨V',f',p',h',hk'⟩:=head_of_step (((H x hsx).2 j (ready_mono hj hji)).2 oj hoj)
     obtain ⟨y',e1,e2⟩:=(hjH x).one h' hsx y
     rw [← e1,← e2]
     exact hk' y'
    have hback:SatI C (updI (updI I (p x)) (pj y))→SatI C (updI I (p x)):=fun hs=>by
     rcases hturn with h | h
     ·rw [hy.quiet h x]; exact hsat
     ·rw [hja.quiet h y] at hs; exact hs
    cases fuel with
    | zero=>exact fun hs=>hb (hback hs) hs
    | succ fuel=>exact fun hs=>hb (hback hs) hs
theorem TAnyI_lex (hsel:Region.noSelect ops=true) (hT:Turns md ops S) (hs:Region.sinkB md ops n=true) (hc:Region.chainB md ops n=true) (hn:n<ops.size) :
  ∀ (l:List Oper) (k:Nat) (listed:Array Bool) (a:Act) (I:World→Prop),HeadInv md ops n listed→(∀ j,j<l.length→l[j]?=ops[k+j]?)→k+l.length=n →
  Region.lexHead md ops g l.length k listed=true→wpPh P ops C S Q l k a I →
  TAnyI P md ops C S n (fun listed' a' I'=>Region.seqB md ops g n listed'=true∧FinI C Q a' I') l.length listed a I
 | [],k,listed,a,I,_,_,hk,hB,h=>fun _=>by
  have:k=n:=by simpa using hk
  subst this
  exact ⟨by simpa [Region.lexHead] using hB,h⟩
 | o :: l,k,listed,a,I,inv,hl,hk,hB,h=>by
  have h0:ops[k]?=some o:=by simpa using (hl 0 (by simp)).symm
  simp only [List.length_cons,Region.lexHead,Bool.and_eq_true] at hB
  obtain ⟨⟨hr,hf⟩,hB'⟩:=hB
  have hkn:k<n:=by simp only [List.length_cons] at hk; omega
  have hr':k∈Region.ready md ops listed:=by simpa using hr
  obtain ⟨V,f,p,hh,hk'⟩:=head_of_step (show stepI P ops C S k o (wpPh P ops C S Q l (k+1)) a I from h)
  exact TAnyI_first h0 (Region.noSelect_spec hsel) hT hs hc hn hkn (fun listed' a' I' hL=>seqB_ready hL.1) l.length listed a I inv (Region.free_spec h0 hf) hr' hh
   (fun x=>TAnyI_lex hsel hT hs hc hn l (k+1) _ _ _ (inv.set hr' hkn) (fun j hj=>by have:=hl (j+1) (by simp; omega); simpa [Nat.add_assoc,Nat.add_comm 1 j] using this) (by simp only [List.length_cons] at hk; omega) hB' (hk' x))
structure PhAt (P:Program) (ops:Array Oper) (C:World→Prop) (S:Nat→Option RSpec) (Q:Act→World→Prop) (l:List Oper) (k:Nat) (a:Act) (I:World→Prop):Prop where
 out:wpPh P ops C S Q l k a I
theorem wp_region_ph_tail {id:Nat} {Q':Exit→Act→World→Prop} {a:Act} {w:World} {l:List Oper} (n:Nat) (S:Nat→Option RSpec) (C:World→Prop) (I:World→Prop)
  (hm:P.follows .mixedOrders=true) (hB:Region.lexTailB .any l.toArray n=true) (hT:Turns .any l.toArray S) (hC:C { w with drawn:=w.drawn+1 }) (hI:I { w with drawn:=w.drawn+1 })
  (h:PhAt P l.toArray C S (fun a w=>wpList P l.toArray Q' (l.drop n) a w) (l.take n) 0 a I):(Code.region id l.toArray true).wp P Q' a w:=by
 simp only [Region.lexTailB,Bool.and_eq_true,decide_eq_true_eq] at hB
 obtain ⟨⟨⟨⟨hsel,hn⟩,hs⟩,hc⟩,hlex⟩:=hB
 have hn':n<l.length:=by simpa using hn
 have htl:(l.take n).length=n:=by simp; omega
 have hdl:(l.drop n).length=l.toArray.size - n:=by simp
 have inv0:HeadInv .any l.toArray n (Array.replicate l.toArray.size false) :=
  ⟨by simp,fun j oj _ hl=>(by rw [getD_replicate_false] at hl; cases hl),fun t _ ht=>getD_in (by simpa using ht) (getD_replicate_false _ _)⟩
 have H:=TAnyI_lex (C:=C) (md:=.any) (g:=l.toArray.size - n) hsel hT hs hc hn (l.take n) 0 _ a I inv0 (fun j hj=>by
  have hj':j<n:=by rw [htl] at hj; exact hj
  simp [hj']) (by simpa using htl) (by rw [htl]; exact hlex) h.out
 refine wp_region_any hm ?_
 have:=wpAny_of_I (Q':=Q') (g:=l.toArray.size - n) (fun listed a' I' w' hL hC' hI'=>by
  have:=wpAny_of_seq (md:=.any) (Q':=Q') (l.drop n) n listed a' w' (fun j=>by simp [List.getElem?_drop]) (by rw [hdl]; exact hL.1) (hL.2 w' hC' hI')
  rwa [hdl] at this) _ _ _ _ _ hC hI H
 rw [htl,show n+(l.toArray.size - n)=l.toArray.size by omega] at this
 exact this
section
variable {o:Oper} {rest:List Oper} {k j:Nat} {a:Act} {I:World→Prop}
theorem ph_fix (k':Nat) (c:Value) (hk:k+1=k') (hs:S k=none) (hw:Region.wanted o (yielded ops a.tmps)=true)
  (hf:∀ w,C w→(execOp a.eval o).run P w=.ok (.value c) w) (h:PhAt P ops C S Q rest k' (a.put o.dst c) I):PhAt P ops C S Q (o :: rest) k a I:=by
 subst hk
 refine ⟨?_⟩
 show stepI P ops C S k o _ a I
 unfold stepI
 rw [if_pos hw]
 simp only [hs]
 exact ⟨c,fun w hC=>.inl (hf w hC),h.out⟩
theorem ph_give (k':Nat) (s:RSpec) (hk:k+1=k') (hs:S k=some s) (hw:Region.wanted o (yielded ops a.tmps)=true)
  (hg:∀ w,C w→I w→growUpon P Tr w (fun v w'=>C w'∧∃ x,v=s.f x∧s.Φ x w') ((execOp a.eval o).run P w)) (h:∀ x,PhAt P ops C S Q rest k' (a.put o.dst (s.f x)) (s.Φ x)):PhAt P ops C S Q (o :: rest) k a I:=by
 subst hk
 refine ⟨?_⟩
 show stepI P ops C S k o _ a I
 unfold stepI
 rw [if_pos hw]
 simp only [hs]
 exact ⟨hg,fun x=>(h x).out⟩
theorem ph_nil (h:∀ w,C w→I w→Q a w):PhAt P ops C S Q [] k a I:=⟨h⟩
end
def waitsB (md:Region.Mode) (ops:Array Oper):Nat→Nat→Nat→Bool
 | 0,_,_=>false
 | fuel+1,j,i=>match ops[j]? with
  | some oj=>oj.after.any fun e=>Region.binds md e && (e.on == i || waitsB md ops fuel e.on i)
  | none=>false
theorem waits_of {fuel j i:Nat} (h:waitsB md ops fuel j i=true):Waits md ops j i:=by
 induction fuel generalizing j with
 | zero=>cases h
 | succ fuel ih =>
  unfold waitsB at h
  split at h
  ·rename_i oj hj
   obtain ⟨e,he,hb⟩:=Array.any_eq_true'.1 h
   simp only [Bool.and_eq_true,Bool.or_eq_true,beq_iff_eq] at hb
   obtain ⟨h1,h2 | h2⟩:=hb
   ·subst h2; exact .one hj e he h1
   ·exact .more hj e he h1 (ih h2)
  ·cases h
def turnsB (md:Region.Mode) (ops:Array Oper) (l:List Nat):Bool :=
 l.all fun i=>l.all fun j=>i == j || waitsB md ops 8 j i || waitsB md ops 8 i j
theorem turns_of {l:List (Nat × RSpec)} (h:turnsB md ops (l.map (·.1))=true):Turns md ops (specOf l):=by
 have hin:∀ i,specOf l i≠none→i∈l.map (·.1):=by
  intro i
  clear h
  induction l with
  | nil=>intro h; exact absurd rfl h
  | cons x l ih =>
   intro h
   obtain ⟨k,s⟩:=x
   unfold specOf at h
   split at h
   ·rename_i e; subst e; simp
   ·exact List.mem_cons_of_mem _ (ih h)
 intro i j oi oj hi hj hij
 by_cases h1:specOf l i=none
 ·exact .inl h1
 by_cases h2:specOf l j=none
 ·exact .inr (.inl h2)
 have h3:=List.all_eq_true.1 (List.all_eq_true.1 h i (hin i h1)) j (hin j h2)
 simp only [Bool.or_eq_true,beq_iff_eq] at h3
 rcases h3 with (h3 | h3) | h3
 ·exact absurd h3 hij
 ·exact .inr (.inr (.inl (waits_of h3)))
 ·exact .inr (.inr (.inr (waits_of h3)))
end
end Go.Proofs.YtmomjpolkkbhnaaGreat.Ph
end
