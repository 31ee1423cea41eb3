/- slices.symMergeCmpFunc at elements of three cells: whole (printed by gen_ssd.py). -/
import Derived.Deep.CutRange
import Derived.Test.YtmomjpolkkbhnaaGreatQModelPagesRow15
import Derived.Test.YtmomjpolkkbhnaaGreatQModelPagesRow0
set_option linter.unusedSectionVars false
set_option linter.unusedSimpArgs false
set_option linter.unusedVariables false
set_option maxRecDepth 20000
namespace Go.Proofs.YtmomjpolkkbhnaaGreat.Ss
open Go.Shelf Go.RowKit Go.Lib Go.Sort
variable {α:Type} [Inhabited α] {enc : α→List Value} {cf : α→α→Int} {tag : α→Nat}
structure MIn (enc : α→List Value) (cf : α→α→Int) (tag : α→Nat) (k:Nat) (w0:World) (blk off:Nat) (d0 d:Array α) (a m b:Nat) (w:World):Prop where
 hs:d.size=d0.size
 S:SWK enc k w0 blk off d w
 hb:b≤d.size
 s1:Srt cf tag d a m
 s2:Srt cf tag d m b
 tg:Tg tag d a m b
set_option maxHeartbeats 4000000 in
set_option maxRecDepth 1000000 in
theorem sym_step (hW:SWO (ltOf cf)) (k:Nat) (hk2:k=3) (g:Nat) (cb:Array Value) (blk off cap a m b:Nat) (d0 d:Array α) (w0 w:World) (eg:∀ args w,(callFunc g args).run Tryz.prog w=.ok (.enter g args) w) (hC:CmpLays Tryz.prog g cb enc k cf blk off d0.size w0)
  (R:RowK enc k w0 blk off d0) (hI:MIn enc cf tag k w0 blk off d0 d a m b w) (ham:a+2≤m) (hmb:m+2≤b) (hsz:d.size<1099511627776)
  (ih:∀ (a' m' b':Nat) (d':Array α) (w':World),b' - a'<b - a→a'<m'→m'<b'→MIn enc cf tag k w0 blk off d0 d' a' m' b' w' →
   Calls Tryz.prog 154 #[.slice (some ⟨blk,off,none⟩) d'.size cap,.int .i64 a',.int .i64 m',.int .i64 b',.func (.func g) #[] cb] w' (MPost enc cf tag k w0 blk off d' a' b')) :
  Calls Tryz.prog 154 #[.slice (some ⟨blk,off,none⟩) d.size cap,.int .i64 a,.int .i64 m,.int .i64 b,.func (.func g) #[] cb] w (MPost enc cf tag k w0 blk off d a b):=by
 have zE:∀ w,(Go.sizeOf 48).run Tryz.prog w=.ok k w:=by rw [hk2]; exact Tryz.sizeOf48
 have mixed:Tryz.prog.follows Departure.mixedOrders=true:=by kernel_rfl
 have S0:Aside (SWK enc k w0 blk off d w):=hI.S
 have HC:Aside _:=hC
 have HS:=zh hI.hs
 have hb:=hI.hb
 have Q1:=zh hI.s1
 have Q2:=zh hI.s2
 have QT:=zh hI.tg
 have HK:=zh hk2
 have IH:=zh ih
 have e1:((m:Int) - (a:Int)=1)=False:=eq_false (by omega)
 have e2:((b:Int) - (m:Int)=1)=False:=eq_false (by omega)
 have e1':((m:Int) - (a:Int) == 1)=false:=by simp; omega
 have e2':((b:Int) - (m:Int) == 1)=false:=by simp; omega
 obtain ⟨mid,hmid⟩:∃ mid,mid=(a+b) / 2:=⟨_,rfl⟩
 have hm1 : 2 * mid≤a+b:=by omega
 have hm2:a+b≤2 * mid+1:=by omega
 have hmz:((a:Int)+(b:Int)) / 2=(mid:Int):=by omega
 clear hk2 hC hI ih hmid
 go_enter Tryz.func154,Tryz.ntmps154
 go_upto_if 140 with (fail)
 go_cut [20,21] from 138 to 146 (fun v20 v21 wx=>∃ lo hi:Nat,v20=.int .i64 (lo:Nat)∧v21=.int .i64 (hi:Nat)∧w=wx∧Hid ((lo+b=mid+m∧hi=mid∧mid<m)∨(lo=a∧hi=m∧m≤mid)))
 case first =>
  by_cases hgt:mid<m
  ·have hgz:(mid:Int)<(m:Int):=by omega
   go_wp2_with fail
   go_meet
   exact ⟨mid+m - b,mid,by go_num,by go_num,rfl,zh (.inl ⟨by omega,rfl,hgt⟩)⟩
  ·have hgz:¬ (mid:Int)<(m:Int):=by omega
   go_wp2_with fail
   go_meet
   exact ⟨a,m,by go_num,by go_num,rfl,zh (.inr ⟨rfl,rfl,by omega⟩)⟩
 case rest =>
 obtain ⟨lo,hi,rfl,rfl,rfl,HLH⟩:=hcut
 obtain ⟨hl1,hl2,hl3,hl4,hl5⟩:a≤lo∧lo≤hi∧hi≤m∧hi≤mid∧mid+m≤lo+b:=by rcases HLH.out with ⟨q1,q2,q3⟩ | ⟨q1,q2,q3⟩ <;> omega
 go_wp2_with fail
 go_loopw [20,21] (fun vi vj wr=>∃ (s r:Nat),lo≤s∧s≤r∧r≤hi∧vi=.int .i64 (s:Nat)∧vj=.int .i64 (r:Nat)∧Aside (SWK enc k w0 blk off d wr)∧Hid (∀ c,lo≤c→c<s→bef cf tag d[c]! d[mid+m - 1 - c]!)∧Hid (∀ c,r≤c→c<hi→bef cf tag d[mid+m - 1 - c]! d[c]!)) (fun vi vj _=>(intOf vj).toNat - (intOf vi).toNat)
 case atStart=>exact ⟨lo,hi,by omega,by omega,by omega,by go_num,by go_num,S0,zh (fun h _ _=>by omega),zh (fun h _ _=>by omega)⟩
 case round =>
  clear S0
  obtain ⟨s,r,hs1,hsr,hr2,rfl,rfl,S1,H1,H2⟩:=hrel
  by_cases hlt:s<r
  ·have hji:(s:Int)<(r:Int):=by omega
   obtain ⟨c0,hc0⟩:∃ c0,c0=(s+r) / 2:=⟨_,rfl⟩
   have hc1 : 2 * c0≤s+r:=by omega
   have hc2:s+r≤2 * c0+1:=by omega
   have hcz:((s:Int)+(r:Int)) / 2=(c0:Int):=by omega
   obtain ⟨P,hP⟩:∃ P,P=mid+m - 1 - c0:=⟨_,rfl⟩
   have hp1:P+c0+1=mid+m:=by omega
   have hPz:(mid:Int)+(m:Int) - 1 - (c0:Int)=(P:Int):=by omega
   have hPw:IntKind.i64.wrap (P:Int)=(P:Int):=by rw [IntKind.wrap_i64]; omega
   have n5:(P:Int)<(d.size:Int):=by omega
   have n6:(c0:Int)<(d.size:Int):=by omega
   have SG:Aside (∀ n os,SWK enc k w0 blk off d (grow (wr.drewN n) os)):=fun n os=>S1.out.grown n os
   have l1:=fun n' os'=>S1.out.ld R HS.out Tryz.prog (P) (by omega) n' os'
   have l2:=fun n' os'=>S1.out.ld R HS.out Tryz.prog (c0) (by omega) n' os'
   have hcg:=fun n' os'=>S1.out.cmp HC.out HS.out d[P]! d[c0]! n' os'
   have F1:Hid (cf d[P]! d[c0]!<0→∀ c,c0≤c→c<hi→bef cf tag d[mid+m - 1 - c]! d[c]!):=zh (fun hc c p1 p2=>sym_hi hW Q1.out Q2.out (c:=c0) (p:=mid+m - 1) (by omega) (by omega) (by rw [← hP]; exact hc) c p1 (by omega) (by omega))
   have F2:Hid (¬ cf d[P]! d[c0]!<0→∀ c,lo≤c→c<c0+1→bef cf tag d[c]! d[mid+m - 1 - c]!):=zh (fun hc c p1 p2=>sym_lo hW Q1.out Q2.out QT.out (c:=c0) (p:=mid+m - 1) (by omega) (by omega) (by omega) (by rw [← hP]; exact hc) c (by omega) (by omega) (by omega))
   obtain ⟨xp,hxp⟩:∃ x,d[P]! = x:=⟨_,rfl⟩
   obtain ⟨xq,hxq⟩:∃ x,d[c0]! = x:=⟨_,rfl⟩
   rw [hxp] at l1
   rw [hxq] at l2
   rw [hxp,hxq] at hcg F1 F2
   clear hxp hxq S1 hc0 hP
   by_cases hlv:cf xp xq<0
   ·have hdec:decide (cf xp xq<0)=true:=decide_eq_true hlv
    have N:=zh (F1.out hlv)
    clear F1 F2
    go_wp2_with fail
    go_quiet_grown (first | (go_at_fn g; refine Calls.grown_of (hcg _ _)))
    have S3:Aside (SWK enc k w0 blk off d (grow (wr.drewN nq) osq)):=SG.out nq osq
    generalize grow (wr.drewN nq) osq=w3 at S3 ⊢
    clear l1 l2 hcg SG
    go_wp2
    go_roundw
    case rel=>exact ⟨s,c0,by omega,by omega,by omega,rfl,by first | rfl | go_num,S3,H1,N⟩
    case measure=>simp [intOf]; omega
   ·have hdec:decide (cf xp xq<0)=false:=decide_eq_false hlv
    have N:=zh (F2.out hlv)
    clear F1 F2
    go_wp2_with fail
    go_quiet_grown (first | (go_at_fn g; refine Calls.grown_of (hcg _ _)))
    have S3:Aside (SWK enc k w0 blk off d (grow (wr.drewN nq) osq)):=SG.out nq osq
    generalize grow (wr.drewN nq) osq=w3 at S3 ⊢
    clear l1 l2 hcg SG
    go_wp2
    go_roundw
    case rel=>exact ⟨c0+1,r,by omega,by omega,by omega,by first | rfl | go_num,rfl,S3,N,H2⟩
    case measure=>simp [intOf]; omega
  ·obtain rfl:s=r:=by omega
   obtain ⟨e,he⟩:∃ e,e=mid+m - s:=⟨_,rfl⟩
   have hez:(mid:Int)+(m:Int) - (s:Int)=(e:Int):=by omega
   have hse:mid+m=s+e:=by omega
   have HSP:Hid (∀ d1:Array α,(∀ x,d1[x]! = rotR d s m e x)→(Srt cf tag d1 a s∧Srt cf tag d1 s mid∧Tg tag d1 a s mid)∧(Srt cf tag d1 mid e∧Srt cf tag d1 e b∧Tg tag d1 mid e b)∧(∀ x y,a≤x→x<mid→mid≤y→y<b→bef cf tag d1[x]! d1[y]!)):=zh (fun d1 hd=>sym_split hW (by omega) (by omega) (by omega) (by omega) (by omega) (by omega) hse Q1.out Q2.out QT.out
    (by
     by_cases h:s=lo
     ·rcases HLH.out with ⟨q1,q2,q3⟩ | ⟨q1,q2,q3⟩ <;> first | exact .inl (by omega) | exact .inr (.inl (by omega))
     ·have h1:=H1.out (s - 1) (by omega) (by omega)
      rw [show mid+m - 1 - (s - 1)=e by omega] at h1
      exact .inr (.inr h1))
    (by
     by_cases h:s=hi
     ·rcases HLH.out with ⟨q1,q2,q3⟩ | ⟨q1,q2,q3⟩ <;> first | exact .inl (by omega) | exact .inr (.inl (by omega))
     ·have h1:=H2.out s (by omega) (by omega)
      rw [show mid+m - 1 - s=e - 1 by omega] at h1
      exact .inr (.inr h1)) hd)
   have hsa:a≤s:=by omega
   have hsm:s≤m:=by omega
   have hsmid:s≤mid:=by omega
   have hme:m≤e:=by omega
   have heb:e≤b:=by omega
   have hmide:mid≤e:=by omega
   clear H1 H2 Q1 Q2 QT hs1 hsr hr2 hlt he hse HLH hl1 hl2 hl3 hl4 hl5
   have hslt:¬ (s:Int)<(s:Int):=by omega
   go_upto_region 39 with (fail)
   go_cut [185] from 178 to 185 (fun v wx=>v=.bool (decide (s<m∧m<e))∧wr=wx)
   case first =>
    by_cases z1:((s:Nat):Int)<((m:Nat):Int)
    ·by_cases z2:((m:Nat):Int)<((e:Nat):Int)
     all_goals
      go_wp2_with fail
      go_meet
      first | exact ⟨congrArg Value.bool (decide_eq_true (by omega)).symm,rfl⟩ | exact ⟨congrArg Value.bool (decide_eq_false (by omega)).symm,rfl⟩
    ·go_wp2_with fail
     go_meet
     exact ⟨congrArg Value.bool (decide_eq_false (by omega)).symm,rfl⟩
   case rest =>
   obtain ⟨rfl,rfl⟩:=hcut
   go_upto_if 185 with (fail)
   go_cut [] from 178 to 191 (fun wx=>∃ d1:Array α,Aside (SWK enc k w0 blk off d1 wx)∧Hid (d1.size=d.size)∧Hid (PermIn a b d d1)∧Hid ((Srt cf tag d1 a s∧Srt cf tag d1 s mid∧Tg tag d1 a s mid)∧(Srt cf tag d1 mid e∧Srt cf tag d1 e b∧Tg tag d1 mid e b)∧(∀ x y,a≤x→x<mid→mid≤y→y<b→bef cf tag d1[x]! d1[y]!)))
   case first =>
    by_cases hrot:s<m∧m<e
    ·rw [decide_eq_true hrot]
     have RT:=zh (rotate_any k HK.out (.func (.func g) #[] cb) blk off cap s m e d0 d w0 wr R HS.out S1.out hrot.1 hrot.2 (by omega) hsz)
     clear S1 hrot
     go_wp2_with fail
     refine RT.out.mono ?_
     rintro ev w2 ⟨rfl,d1,S2,hd1,hP1,hX1⟩
     have P1:Hid (PermIn a b d d1):=zh (permIn_mono _ _ _ _ _ _ hsa heb hb hP1)
     have SP:=zh (HSP.out d1 hX1)
     have D1:=zh hd1
     have S1:Aside (SWK enc k w0 blk off d1 w2):=S2
     clear RT hP1 hX1 HSP hd1 S2
     go_wp2_with fail
     go_meet
     exact ⟨d1,S1,D1,P1,SP⟩
    ·rw [decide_eq_false hrot]
     have SP:=zh (HSP.out d (rot_id d s m e (by omega) hsm hme))
     clear hrot
     go_wp2_with fail
     go_meet
     exact ⟨d,S1,zh rfl,zh (permIn_refl _ _ _),SP⟩
   case rest =>
   obtain ⟨d1,S1,D1,P1,SP⟩:=hcut
   clear HSP hslt
   go_upto_region 41 with (fail)
   go_cut [199] from 192 to 199 (fun v wx=>v=.bool (decide (a<s∧s<mid))∧wc=wx)
   case first =>
    by_cases z1:((a:Nat):Int)<((s:Nat):Int)
    ·by_cases z2:((s:Nat):Int)<((mid:Nat):Int)
     all_goals
      go_wp2_with fail
      go_meet
      first | exact ⟨congrArg Value.bool (decide_eq_true (by omega)).symm,rfl⟩ | exact ⟨congrArg Value.bool (decide_eq_false (by omega)).symm,rfl⟩
    ·go_wp2_with fail
     go_meet
     exact ⟨congrArg Value.bool (decide_eq_false (by omega)).symm,rfl⟩
   case rest =>
   obtain ⟨rfl,rfl⟩:=hcut
   go_upto_if 199 with (fail)
   go_cut [] from 192 to 205 (fun wx=>∃ d2:Array α,Aside (SWK enc k w0 blk off d2 wx)∧Hid (d2.size=d.size)∧Hid (PermIn a mid d1 d2∧Srt cf tag d2 a mid))
   case first =>
    by_cases hc1:a<s∧s<mid
    ·rw [decide_eq_true hc1]
     have c1:=IH.out a s mid d1 _ (by omega) hc1.1 hc1.2 ⟨D1.out.trans HS.out,S1.out,by have:=D1.out; omega,SP.out.1.1,SP.out.1.2.1,SP.out.1.2.2⟩
     rw [D1.out] at c1
     have C1:=zh c1
     clear c1 S1 hc1
     go_wp2_with fail
     refine C1.out.mono ?_
     rintro ev w5 ⟨rfl,d2,S2,hd2,hP2,hS2⟩
     have S5:Aside (SWK enc k w0 blk off d2 w5):=S2
     have D2:Hid (d2.size=d.size):=zh (hd2.trans D1.out)
     have P2:Hid (PermIn a mid d1 d2∧Srt cf tag d2 a mid):=zh ⟨hP2,hS2⟩
     clear C1 S2 hd2 hP2 hS2
     go_wp2_with fail
     go_meet
     exact ⟨d2,S5,D2,P2⟩
    ·rw [decide_eq_false hc1]
     have P2:Hid (PermIn a mid d1 d1∧Srt cf tag d1 a mid):=zh ⟨permIn_refl _ _ _,by
      by_cases h:s=a
      ·have:=SP.out.1.2.1; rwa [h] at this
      ·have:=SP.out.1.1; rwa [show s=mid by omega] at this⟩
     clear hc1
     go_wp2_with fail
     go_meet
     exact ⟨d1,S1,D1,P2⟩
   case rest =>
   obtain ⟨d2,S5,D2,P2⟩:=hcut
   clear S1
   by_cases hc2:mid<e∧e<b
   ·obtain ⟨y1,y2⟩:=hc2
    have v1:(mid:Int)<(e:Int):=by omega
    have v2:(e:Int)<(b:Int):=by omega
    have kp:∀ x,mid≤x→x<b→d2[x]! = d1[x]!:=fun x hx _=>P2.out.1.2.1 x (.inr hx)
    have c2:=IH.out mid e b d2 _ (by omega) y1 y2 ⟨D2.out.trans HS.out,S5.out,by have:=D2.out; omega,SP.out.2.1.1.keep (fun x h1 h2=>kp x h1 (by omega)),SP.out.2.1.2.1.keep (fun x h1 h2=>kp x (by omega) h2),SP.out.2.1.2.2.keep kp⟩
    rw [D2.out] at c2
    have C2:=zh c2
    clear c2 S5 y1 y2 kp
    go_wp2_with fail
    all_goals (
     refine C2.out.mono ?_
     rintro ev w6 ⟨rfl,d3,S3,hd3,hP3,hS3⟩
     have Fin:Hid (SWK enc k w0 blk off d3 w6∧d3.size=d.size∧PermIn a b d d3∧Srt cf tag d3 a b):=zh ⟨S3,hd3.trans D2.out,permIn_trans _ _ _ _ _ P1.out (permIn_trans _ _ _ _ _ (permIn_mono _ _ _ _ _ _ (by omega) (by omega) (by have:=D1.out; omega) P2.out.1) (permIn_mono _ _ _ _ _ _ (by omega) (by omega) (by have:=D2.out; omega) hP3)),sym_done (by omega) (by omega) (by have:=D1.out; omega) SP.out.2.2 P2.out.1 P2.out.2 hP3 hS3⟩
     clear C2 S3 hd3 hP3 hS3 D1 D2 P1 P2 SP
     go_wp2
     go_end0
     exact ⟨rfl,d3,Fin.out⟩)
   ·have Fin:Hid (d2.size=d.size∧PermIn a b d d2∧Srt cf tag d2 a b):=zh ⟨D2.out,permIn_trans _ _ _ _ _ P1.out (permIn_mono _ _ _ _ _ _ (by omega) (by omega) (by have:=D1.out; omega) P2.out.1),sym_done (by omega) (by omega) (by have:=D1.out; omega) SP.out.2.2 P2.out.1 P2.out.2 (permIn_refl _ _ _) (by
     have kp:∀ x,mid≤x→x<b→d2[x]! = d1[x]!:=fun x hx _=>P2.out.1.2.1 x (.inr hx)
     by_cases h:e=mid
     ·have:=SP.out.2.1.2.1.keep (fun x h1 h2=>kp x (by omega) h2); rwa [h] at this
     ·have:=SP.out.2.1.1.keep (fun x h1 h2=>kp x h1 (by omega)); rwa [show e=b by omega] at this)⟩
    clear D1 D2 P1 P2 SP
    by_cases h:mid<e
    ·have v1:(mid:Int)<(e:Int):=by omega
     have v2:¬ (e:Int)<(b:Int):=by omega
     clear h hc2
     go_wp2
     all_goals go_end0
     all_goals exact ⟨rfl,d2,S5.out,Fin.out⟩
    ·have v1:¬ (mid:Int)<(e:Int):=by omega
     clear h hc2
     go_wp2
     all_goals go_end0
     all_goals exact ⟨rfl,d2,S5.out,Fin.out⟩
theorem sym_any (hW:SWO (ltOf cf)) (k:Nat) (hk2:k=3) (g:Nat) (cb:Array Value) (blk off cap:Nat) (d0:Array α) (w0:World) (eg:∀ args w,(callFunc g args).run Tryz.prog w=.ok (.enter g args) w) (hC:CmpLays Tryz.prog g cb enc k cf blk off d0.size w0)
  (R:RowK enc k w0 blk off d0) (hsz:d0.size<1099511627776):∀ (n a m b:Nat) (d:Array α) (w:World),b - a≤n→a<m→m<b→MIn enc cf tag k w0 blk off d0 d a m b w →
   Calls Tryz.prog 154 #[.slice (some ⟨blk,off,none⟩) d.size cap,.int .i64 a,.int .i64 m,.int .i64 b,.func (.func g) #[] cb] w (MPost enc cf tag k w0 blk off d a b):=by
 intro n
 induction n with
 | zero=>intro a m b d w h1 h2 h3; omega
 | succ n ih =>
  intro a m b d w h1 h2 h3 hI
  have hds:=hI.hs
  by_cases hm:m=a+1
  ·exact symL_any hW k hk2 g cb blk off cap a m b hm d0 d w0 w eg hC R hI.hs hI.S hI.hb (by omega) (by omega) (by rw [← hm]; exact hI.s2) (fun y p1 p2=>hI.tg a y (by omega) h2 (by omega) p2)
  ·by_cases hb:b=m+1
   ·exact symR_any hW k hk2 g cb blk off cap a m b hb d0 d w0 w eg hC R hI.hs hI.S hI.hb (by omega) (by omega) hI.s1 (fun y p1 p2=>hI.tg y m p1 p2 (zG _) h3)
   ·exact sym_step hW k hk2 g cb blk off cap a m b d0 d w0 w eg hC R hI (by omega) (by omega) (by omega) (fun a' m' b' d' w' q1 q2 q3 q4=>ih a' m' b' d' w' (by omega) q2 q3 q4)
end Go.Proofs.YtmomjpolkkbhnaaGreat.Ss


