/- slices.insertionSortCmpFunc at elements of three cells, stable: the walk. -/
import Derived.Test.YtmomjpolkkbhnaaGreatQModelPagesRow16
import Derived.Test.YtmomjpolkkbhnaaGreatQModelPagesRow17
import Derived.Test.YtmomjpolkkbhnaaGreatQModelPagesRow0
set_option linter.unusedSectionVars false
set_option linter.unusedSimpArgs false
set_option linter.unusedVariables false
set_option maxRecDepth 20000
namespace Go.Proofs.YtmomjpolkkbhnaaGreat.Ss
open Go.Shelf Go.RowKit Go.Lib Go.Sort
variable {α:Type} [Inhabited α] {enc : α→List Value} {cf : α→α→Int} {tag : α→Nat}
set_option maxHeartbeats 4000000 in
set_option maxRecDepth 1000000 in
theorem insertion_any (hW:SWO (ltOf cf)) (k:Nat) (hk2:k=3) (g:Nat) (cb:Array Value) (blk off cap a b:Nat) (d0 d:Array α) (w0 w:World) (eg:∀ args w,(callFunc g args).run Tryz.prog w=.ok (.enter g args) w) (hC:CmpLays Tryz.prog g cb enc k cf blk off d0.size w0)
  (R:RowK enc k w0 blk off d0) (hs:d.size=d0.size) (S:SWK enc k w0 blk off d w) (hab:a≤b) (hb:b≤d.size) (hsz:d.size<1099511627776) (hT:∀ x y,a≤x→x<y→y<b→tag d[x]!<tag d[y]!) :
  Calls Tryz.prog 153 #[.slice (some ⟨blk,off,none⟩) d.size cap,.int .i64 a,.int .i64 b,.func (.func g) #[] cb] w (MPost enc cf tag k w0 blk off d a b):=by
 have zE:∀ w,(Go.sizeOf 48).run Tryz.prog w=.ok k w:=by rw [hk2]; exact Tryz.sizeOf48
 have mixed:Tryz.prog.follows Departure.mixedOrders=true:=by kernel_rfl
 have S0:Aside (SWK enc k w0 blk off d w):=S
 have HC:Aside _:=hC
 have HS:=zh hs
 have HT:=zh hT
 clear S hk2 hs hC hT
 go_enter Tryz.func153,Tryz.ntmps153
 go_wp2
 go_loopw [8] (fun vi wr=>∃ (i:Nat) (dk:Array α),a<i∧(i≤b∨i≤a+1)∧vi=.int .i64 (i:Nat)∧Aside (SWK enc k w0 blk off dk wr)∧dk.size=d.size∧Hid (PermIn a b d dk)∧Hid (Srt cf tag dk a i)∧Hid (∀ x,i≤x→dk[x]! = d[x]!)) (fun vi _=>b - (intOf vi).toNat)
 case atStart=>exact ⟨a+1,d,by omega,by omega,by go_num,S0,rfl,zh (permIn_refl _ _ _),zh (Srt.one _ (zG _)),zh (fun _ _=>rfl)⟩
 case round =>
  clear S0
  obtain ⟨i,dk,hai,hib,rfl,S1,hds,HP,HZ,HX⟩:=hrel
  by_cases hlt:i<b
  ·have hltz:(i:Int)<(b:Int):=by omega
   have TK:Hid (∀ h,a≤h→h<i→tag dk[h]!<tag dk[i]!):=zh (fun h h1 h2=>by
    have e:=HX.out i (zG _)
    rw [e]
    exact permIn_all d dk a i (fun z=>tag z<tag d[i]!) (by omega) (permIn_upto HP.out (by omega) HX.out (by omega) hb) (fun x p1 p2=>HT.out x i p1 p2 hlt) h h1 h2)
   go_wp2
   go_loopw [9] (fun vj wr=>∃ (j:Nat) (dj:Array α),a≤j∧j≤i∧vj=.int .i64 (j:Nat)∧Aside (SWK enc k w0 blk off dj wr)∧dj.size=d.size∧Hid (PermIn a b d dj)∧Hid (∀ x,dj[x]! = shR dk i j x)∧Hid (∀ h,j≤h→h<i→bef cf tag dk[i]! dk[h]!)) (fun vj _=>(intOf vj).toNat)
   case atStart=>exact ⟨i,dk,by omega,zG _,rfl,S1,hds,HP,zh (fun x=>shR_zero dk i x),zh (fun h _ _=>by omega)⟩
   case round =>
    clear S1
    obtain ⟨j,dj,haj,hji,rfl,S1,hdj,HPj,HXj,HG⟩:=hrel
    have OUT:Hid ((j≤a∨¬ cf dk[i]! dk[j - 1]!<0)→Srt cf tag dj a (i+1)∧∀ x,i+1≤x→dj[x]! = d[x]!):=zh (fun hst=>⟨ins_srt hW haj hji HZ.out TK.out HXj.out HG.out hst,fun x hx=>by
     rw [HXj.out]
     unfold shR
     rw [if_neg (by omega),if_neg (by omega)]
     exact HX.out x (by omega)⟩)
    by_cases hja:a<j
    ·obtain ⟨jp,rfl⟩:∃ jp,j=jp+1:=⟨j - 1,by omega⟩
     have hjaz:(a:Int)<(jp:Int)+1:=by omega
     have hwp:IntKind.i64.wrap (jp:Int)=(jp:Int):=by rw [IntKind.wrap_i64]; omega
     have n0:(0:Int)≤(jp:Int):=by omega
     have n1:(0:Int)≤(jp:Int)+1:=by omega
     have n2:(jp:Int)+1<(d.size:Int):=by omega
     have n3:(jp:Int)<(d.size:Int):=by omega
     have n5:((jp:Int)+1).toNat=jp+1:=by omega
     have ej:dj[jp+1]! = dk[i]!:=by
      rw [HXj.out]; unfold shR; rw [if_neg (by omega),if_pos rfl]
     have ep:dj[jp]! = dk[jp]!:=by
      rw [HXj.out]; unfold shR; rw [if_neg (by omega),if_neg (by omega)]
     have SG:Aside (∀ n os,SWK enc k w0 blk off dj (grow (wr.drewN n) os)):=fun n os=>S1.out.grown n os
     have l1:=fun n' os'=>S1.out.ld R (hdj.trans HS.out) Tryz.prog (jp+1) (by omega) n' os'
     have l2:=fun n' os'=>S1.out.ld R (hdj.trans HS.out) Tryz.prog (jp) (by omega) n' os'
     have hcg:=fun n' os'=>S1.out.cmp HC.out (hdj.trans HS.out) dj[jp+1]! dj[jp]! n' os'
     rw [ej] at l1
     rw [ep] at l2
     rw [ej,ep] at hcg
     have E:=zh (And.intro ej ep)
     clear ej ep
     have OUT2:Hid (¬ cf dk[i]! dk[jp]!<0→Srt cf tag dj a (i+1)∧∀ x,i+1≤x→dj[x]! = d[x]!):=zh (fun h=>OUT.out (.inr (by simpa using h)))
     have IN2:Hid (cf dk[i]! dk[jp]!<0→∀ h,jp≤h→h<i→bef cf tag dk[i]! dk[h]!):=zh (fun hc h p1 p2=>by
      by_cases e:h=jp
      ·rw [e]; exact bef_lt hc
      ·exact HG.out h (by omega) p2)
     obtain ⟨xp,hxp⟩:∃ x,dk[i]! = x:=⟨_,rfl⟩
     obtain ⟨xq,hxq⟩:∃ x,dk[jp]! = x:=⟨_,rfl⟩
     rw [hxp] at l1
     rw [hxq] at l2
     rw [hxp,hxq] at hcg
     have HXX:Hid (dk[i]! = xp∧dk[jp]! = xq):=zh ⟨hxp,hxq⟩
     clear hxp hxq OUT HG S1
     by_cases hlv:cf xp xq<0
     ·have G2:Hid (∀ h,jp≤h→h<i→bef cf tag dk[i]! dk[h]!):=zh (IN2.out (by rw [HXX.out.1,HXX.out.2]; exact hlv))
      clear OUT2 IN2
      go_wp2_with fail
      go_quiet_grown (first | (go_at_fn g; refine Calls.grown_of (hcg _ _)))
      have S3:Aside (SWK enc k w0 blk off dj (grow (wr.drewN nq) osq)):=SG.out nq osq
      generalize grow (wr.drewN nq) osq=w3 at S3 ⊢
      clear l1 l2 hcg SG
      have S2:Aside (SWK enc k w0 blk off (swp dj (jp+1) (jp)) ((w3.drew.setCells blk (off+(jp+1) * k) (enc dj[jp]!)).setCells blk (off+(jp) * k) (enc dj[jp+1]!))):=S3.out.swapped R (jp+1) (jp) (by omega) (by omega)
      have l44a:=S3.out.ld1 R (hdj.trans HS.out) Tryz.prog (jp+1) (by omega)
      have l44b:=S3.out.ld1 R (hdj.trans HS.out) Tryz.prog (jp) (by omega)
      have s44a:=S3.out.st1 R (hdj.trans HS.out) Tryz.prog (jp+1) (by omega) dj[jp]!
      have s44b:=S3.out.st2 R (hdj.trans HS.out) Tryz.prog (jp+1) (jp) (by omega) (by omega) dj[jp]! dj[jp+1]!
      have n44a:(enc dj[jp+1]!).length=k:=R.hk _
      have n44b:(enc dj[jp]!).length=k:=R.hk _
      have HP2:Hid (PermIn a b d (swp dj (jp+1) jp)):=zh (permIn_trans _ _ _ _ _ HPj.out (swp_permIn dj a b (jp+1) jp (by omega) (by omega) (by omega) (by omega) (by omega)))
      have HX2:Hid (∀ y,(swp dj (jp+1) jp)[y]! = shR dk i jp y):=zh (shR_step hji (by omega) (by omega) HXj.out)
      generalize enc dj[jp+1]! = cI44 at S2 l44a s44b n44a
      generalize enc dj[jp]! = cJ44 at S2 l44b s44a s44b n44b
      clear S3 HPj HXj
      go_wp2_with fail
      go_big_region_o
      clear l44a l44b s44a s44b
      generalize (w3.drew.setCells blk (off+(jp+1) * k) cJ44).setCells blk (off+(jp) * k) cI44=w2 at S2 ⊢
      go_wp2
      go_roundw
      case rel=>exact ⟨jp,swp dj (jp+1) jp,by omega,by omega,by first | rfl | go_num | (congr 1; omega),S2,by rw [size_swp]; exact hdj,HP2,HX2,G2⟩
      case measure=>first | (simp [intOf]; done) | (simp [intOf]; omega)
     ·have hdec:decide (cf xp xq<0)=false:=decide_eq_false hlv
      have O2:=zh (OUT2.out (by rw [HXX.out.1,HXX.out.2]; exact hlv))
      clear OUT2 IN2
      go_wp2_with fail
      go_quiet_grown (first | (go_at_fn g; refine Calls.grown_of (hcg _ _)))
      have S3:Aside (SWK enc k w0 blk off dj (grow (wr.drewN nq) osq)):=SG.out nq osq
      generalize grow (wr.drewN nq) osq=w3 at S3 ⊢
      clear l1 l2 hcg SG
      go_wp2
      go_roundw
      case rel=>exact ⟨i+1,dj,by omega,by omega,by go_num,S3,hdj,HPj,zh O2.out.1,zh O2.out.2⟩
      case measure=>simp [intOf]; omega
    ·have hjaz:decide ((j:Int) > (a:Int))=false:=decide_eq_false (by omega)
     have hjaz':¬ (a:Int)<(j:Int):=by omega
     have O2:=zh (OUT.out (.inl (by omega)))
     have SD:Aside (SWK enc k w0 blk off dj wr.drew):=by
      have:=S1.out.grown 1 #[]
      rwa [grow_empty] at this
     clear OUT S1
     go_wp2_with fail
     go_big_region_o
     generalize wr.drew=w3 at SD ⊢
     go_wp2
     go_roundw
     case rel=>exact ⟨i+1,dj,by omega,by omega,by go_num,SD,hdj,HPj,zh O2.out.1,zh O2.out.2⟩
     case measure=>simp [intOf]; omega
  ·have hltz:¬ (i:Int)<(b:Int):=by omega
   have Fin:=zh (HZ.out.sub (zG _) (show b≤i by omega))
   go_wp2
   go_end0
   exact ⟨rfl,dk,S1.out,hds,HP.out,Fin.out⟩
end Go.Proofs.YtmomjpolkkbhnaaGreat.Ss


