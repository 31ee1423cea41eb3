/- AlertAsks: the law's walk (printed by gen_alz.py). -/
import Derived.Test.YtlfpfkallgkjdaaGreatAlQnPk
import Derived.Test.YtlfpfkallgkjdaaGreatGiLPk
import Derived.Test.YtlfpfkallgkjdaaGreatQAlertRunsRow0
import Derived.Test.YtlfpfkallgkjdaaGreatQAlertRunsRow4
set_option linter.unusedSimpArgs false
set_option linter.unusedVariables false
set_option maxRecDepth 40000
namespace Go.Proofs.YtlfpfkallgkjdaaGreat.Al
open Go.RowKit Go.Maps Ut Tk Qy Qp Ev Mv
set_option maxHeartbeats 12800000 in
theorem asks_any (A:Option Addr) (n c:Nat) (L:List Opr) (t:Int) (F:Option Addr) (fn fc:Nat) (fs:List Fl) (w:World) (hO:OpsAt w A n c L) (hF:FlAt w w.heap.size F fn fc fs) :
  Calls Tryz.prog 4 #[.slice A n c,.agg #[.int .i64 t,.slice F fn fc]] w fun e w'=>e=.returned (.bool true)∧Below w.heap.size w w':=by
 have hb1:Below w.heap.size w (w.alloc (.cells #[.int .i64 t,.slice F fn fc] 33)):=(Below.refl _ _).alloc (zG _) _
 have HE1:=zh (Blk.new w 33 #[.int .i64 t,.slice F fn fc])
 have HB1:=zh hb1
 have HO:=zh hO
 have HF:=zh hF
 clear hb1 hO hF
 go_enter Tryz.func4,Tryz.ntmps4
 go_upto_region 1 with (fail)
 generalize w.alloc (.cells #[.int .i64 t,.slice F fn fc] 33)=w1 at *
 have e0:=HE1.out.cell 0
 have e1:=HE1.out.cell 1
 simp only [zA,zB,zC] at e0 e1
 have c1:=zh (Gi.lightP_any t F fn fc fs w1 (let h:=flgrow HF.out HB1.out; ⟨h.rd,h.len,h.few⟩))
 go_wp2_with fail
 refine c1.out.mono ?_
 rintro e w2 ⟨⟨lb,rfl,_⟩,hb2⟩
 have HB2:=zh (HB1.out.trans (hb2.mono HB1.out.size))
 have HE2:=zh (HE1.out.below hb2 HE1.out.lt)
 clear hb2 c1 e0 e1
 cases lb with
 | false =>
  have CA:=zh (awake_any w2)
  go_wp2_with fail
  refine CA.out.mono ?_
  rintro e w3 ⟨rfl,hb3⟩
  have HB3:=zh (HB2.out.trans (hb3.mono HB2.out.size))
  clear hb3
  go_wp2
  go_ret
  exact ⟨rfl,HB3.out⟩
 | true =>
  have CB:=zh (behind_any A n c L w2 (HO.out.below HB2.out))
  go_wp2_with fail
  refine CB.out.mono ?_
  rintro e w3 ⟨Bb,K,l,rfl,hK,hl30,hS,hb3⟩
  obtain ⟨X2,A2,n2,c2,O2,g1,g2,g3,g4⟩:=hS.ex
  have hl2:=hS.few
  have hn2:n2=l.length:=by rw [← g3.ln,g4.len]
  subst hn2
  have HB3:=zh (HB2.out.trans (hb3.mono HB2.out.size))
  have HE3:=zh (HE2.out.below hb3 HE2.out.lt)
  have HG:=zh g1
  have HA:=zh g2
  have HR:=zh g3
  have HI:=zh g4
  have hsub:=ask_sub fs g2.ok
  have hk1:=near_few fs hl2
  have hk2:=ask_few fs hl2
  have hfl:∀ wx,Below w3.heap.size w3 wx→FlAt wx wx.heap.size F fn fc fs:=fun wx hb=>flgrow HF.out (HB3.out.trans (hb.mono HB3.out.size))
  have CN:Hid (∀ wx,Below w3.heap.size w3 wx→Calls Tryz.prog 16 #[.pointer (some ⟨X2,0,none⟩),.agg #[.int .i64 t,.slice F fn fc]] wx (NumsP wx (NearV fs l))):=zh (fun wx hb=>near_n (HA.out.new_below hb) hl2 t F fn fc fs (hfl wx hb))
  have CA:Hid (∀ wx,Below w3.heap.size w3 wx→Calls Tryz.prog 17 #[.pointer (some ⟨X2,0,none⟩),.agg #[.int .i64 t,.slice F fn fc]] wx (NumsP wx (AskV fs l))):=zh (fun wx hb=>ask_n (HA.out.new_below hb) hl2 t F fn fc fs (hfl wx hb))
  have CRN:Hid (∀ wx,Below w3.heap.size w3 wx→Calls Tryz.prog 19 #[.agg #[.slice A2 l.length c2],.agg #[.int .i64 t,.slice F fn fc]] wx (NumsP wx (NearV fs l))):=zh (fun wx hb=>rnearL_any A2 l.length c2 O2 l t F fn fc fs wx (HR.out.below hb) HI.out HA.out.ok hl2 (hfl wx hb))
  have CRA:Hid (∀ wx,Below w3.heap.size w3 wx→Calls Tryz.prog 20 #[.agg #[.slice A2 l.length c2],.agg #[.int .i64 t,.slice F fn fc]] wx (NumsP wx (AskV fs l))):=zh (fun wx hb=>rask_any A2 l.length c2 O2 l t F fn fc fs wx (HR.out.below hb) HI.out HA.out.ok hl2 (hfl wx hb))
  have Hc6:Hid (∀ wx,Below w3.heap.size w3 wx→wx.cell? ⟨Bb,0,none⟩=some (.pointer (some ⟨X2,0,none⟩))∧wx.cell? ⟨Bb,1,none⟩=some (.slice A2 l.length c2)∧wx.cell? ⟨w.heap.size,0,none⟩=some (.int .i64 t)∧wx.cell? ⟨w.heap.size,1,none⟩=some (.slice F fn fc)):=zh (fun wx hb=>by
   have r0:=(HG.out.below hb HG.out.lt).cell 0
   have r1:=(HG.out.below hb HG.out.lt).cell 1
   have r2:=(HE3.out.below hb HE3.out.lt).cell 0
   have r3:=(HE3.out.below hb HE3.out.lt).cell 1
   simp only [zA,zB,zC] at r0 r1 r2 r3
   exact ⟨r0,r1,r2,r3⟩)
  clear hfl hS g1 g2 g3 g4 hb3 CB
  generalize NearV fs l=N1 at *
  generalize AskV fs l=N2 at *
  have HSUB:=zh hsub
  clear hsub
  go_upto_region 6 with (fail)
  refine wp_region_grow (specOf [(5,⟨Option Addr × Nat,fun x=>.slice x.1 N1.length x.2,fun x wz=>Reads wz wz.heap.size 1 x.1 N1.length (itv N1)⟩),(11,⟨Option Addr × Nat,fun x=>.slice x.1 N2.length x.2,fun x wz=>Reads wz wz.heap.size 1 x.1 N2.length (itv N2)⟩)]) (fun wx=>Below (World.heap w3).size w3 wx) (fun w1 w2=>Below w1.heap.size w1 w2) (by kernel_rfl) (by kernel_rfl) (stab_cons (fun x wa wb hg h=>(h.keep fun _ _ hp=>hg.cell hp).more hg.size) (stab_cons (fun x wa wb hg h=>(h.keep fun _ _ hp=>hg.cell hp).more hg.size) (stab_nil))) (Below.refl _ _).drew ?_
  iterate 5
   refine grow_fix _ ?_ rfl (by rfl) (by rfl) (fun wx hC hD=>?_) ?_
   rotate_left
   ·have hSw:=Hc6.out wx hC
    go_simp
    all_goals with_reducible rfl
   try simp only [Act.put,zD,zE,zF]
  refine grow_give 6 _ rfl (by rfl) (by rfl) (fun wx hC hD=>?_) (fun x=>?_)
  ·refine give_enter (f:=?_) (args:=?_) ?_ ?_
   rotate_left 2
   ·have hSw:=Hc6.out wx hC
    go_simp
    all_goals first | with_reducible rfl | (refine ⟨?_,?_⟩ <;> with_reducible rfl)
   refine (CN.out wx hC).mono ?_
   rintro e w9 ⟨v9,rfl,ho9,hb9⟩
   obtain ⟨A9,c9,rfl,hr9⟩:=nums_rows ho9 (Below.refl _ w9)
   exact ⟨_,rfl,hb9,hC.trans (hb9.mono hC.size),(A9,c9),rfl,hr9⟩
  obtain ⟨A8,c8⟩:=x
  try simp only [Act.put,zD,zE,zF]
  iterate 5
   refine grow_fix _ ?_ rfl (by rfl) (by rfl) (fun wx hC hD=>?_) ?_
   rotate_left
   ·have hSw:=Hc6.out wx hC
    go_simp
    all_goals with_reducible rfl
   try simp only [Act.put,zD,zE,zF]
  refine grow_give 12 _ rfl (by rfl) (by rfl) (fun wx hC hD=>?_) (fun x=>?_)
  ·refine give_enter (f:=?_) (args:=?_) ?_ ?_
   rotate_left 2
   ·have hSw:=Hc6.out wx hC
    go_simp
    all_goals first | with_reducible rfl | (refine ⟨?_,?_⟩ <;> with_reducible rfl)
   refine (CA.out wx hC).mono ?_
   rintro e w9 ⟨v9,rfl,ho9,hb9⟩
   obtain ⟨A9,c9,rfl,hr9⟩:=nums_rows ho9 (Below.refl _ w9)
   exact ⟨_,rfl,hb9,hC.trans (hb9.mono hC.size),(A9,c9),rfl,hr9⟩
  obtain ⟨A9,c9⟩:=x
  try simp only [Act.put,zD,zE,zF]
  iterate 2
   refine grow_fix _ ?_ rfl (by rfl) (by rfl) (fun wx hC hD=>?_) ?_
   rotate_left
   ·have hSw:=Hc6.out wx hC
    go_simp
    all_goals with_reducible rfl
   try simp only [Act.put,zD,zE,zF]
  refine grow_nil (fun w5 hC hF=>?_)
  have HR1:Hid (Reads w5 w5.heap.size 1 A8 N1.length (itv N1)):=zh (upd_hit (upd_miss (hF 5) (by decide)) (by decide))
  have HR2:Hid (Reads w5 w5.heap.size 1 A9 N2.length (itv N2)):=zh (upd_hit (hF 11) (by decide))
  have HC5:=zh hC
  clear hF hC CN CA
  go_wp2_with fail
  go_loopw [9] (fun i wr=>∃ k:Nat,k≤N2.length∧i=.int .i64 k∧Hid (Below w5.heap.size w5 wr)) (fun i _=>N2.length - (intOf i).toNat)
  case atStart=>exact ⟨0,Nat.zero_le _,rfl,zh (Below.refl _ _)⟩
  case round =>
   obtain ⟨k,hk,rfl,hB⟩:=hrel
   by_cases hlt:k<N2.length
   ·have hki:(k:Int)<(N2.length:Int):=by omega
    have hki0:(0:Int)≤(k:Int):=by omega
    obtain ⟨nb,no,rfl,hnb,hnc⟩:=HR2.out.2 (by omega)
    have Hnc:Hid (∀ wx,Below w5.heap.size w5 wx→wx.cell? ⟨nb,no+k,none⟩=some (.int .i64 N2[k])):=zh (fun wx hb=>(hb.cell (p:=⟨nb,no+k,none⟩) hnb).trans (hnc k _ (itv_get N2 k hlt)))
    have HIN:Hid (N1.any (fun x=>x == N2[k])=true):=zh (List.any_eq_true.2 ⟨_,HSUB.out _ (List.getElem_mem hlt),by simp⟩)
    clear hnc
    generalize N2[k]=a at *
    obtain ⟨wo,rfl⟩:∃ wo:World,wo=wr:=⟨_,rfl⟩
    go_wp2_with fail
    go_loopw [10,11] (fun h j wr=>∃ jn:Nat,jn≤N1.length∧j=.int .i64 jn∧h=.bool ((N1.take jn).any (fun x=>x == a))∧Hid (Below w5.heap.size w5 wr)) (fun _ j _=>N1.length - (intOf j).toNat)
    case atStart=>exact ⟨0,Nat.zero_le _,rfl,rfl,hB⟩
    case round =>
     obtain ⟨jn,hj,rfl,rfl,hQ⟩:=hrel
     by_cases hjl:jn<N1.length
     ·have hjz:(jn:Int)<(N1.length:Int):=by omega
      have hj0:(0:Int)≤(jn:Int):=by omega
      obtain ⟨mb,mo,rfl,hmb,hmc⟩:=HR1.out.2 (by omega)
      have y1:=(hQ.out.cell (p:=⟨mb,mo+jn,none⟩) hmb).trans (hmc jn _ (itv_get N1 jn hjl))
      have y0:=Hnc.out _ hQ.out
      have HST:Hid ((N1.take (jn+1)).any (fun x=>x == a)=((N1.take jn).any (fun x=>x == a) || (N1[jn] == a))):=zh (by rw [List.take_succ_eq_append_getElem hjl,List.any_append]; simp)
      generalize (N1.take jn).any (fun x=>x == a)=hv at *
      clear hmc
      generalize N1[jn]=x at *
      cases hv
      ·go_wp2_with fail
       go_quiet (fail)
       have HB5:=zh (Mx.below_dN hQ.out nq)
       go_wp2_with fail
       go_roundw
       case rel=>exact ⟨jn+1,by omega,by go_num,by rw [HST.out]; rfl,HB5⟩
       case measure=>simp [intOf]; omega
      ·go_wp2_with fail
       go_quiet (fail)
       have HB5:=zh (Mx.below_dN hQ.out nq)
       go_wp2_with fail
       go_roundw
       case rel=>exact ⟨jn+1,by omega,by go_num,by rw [HST.out]; rfl,HB5⟩
       case measure=>simp [intOf]; omega
     ·obtain rfl:jn=N1.length:=by omega
      have e1:(N1.take N1.length).any (fun x=>x == a)=true:=by rw [List.take_length]; exact HIN.out
      rw [e1]
      clear e1
      go_wp2_with fail
      go_roundw
      case rel=>exact ⟨k+1,by omega,by go_num,hQ⟩
      case measure=>simp [intOf]; omega
   ·obtain rfl:k=N2.length:=by omega
    have HCr:=zh (HC5.out.trans (hB.out.mono HC5.out.size))
    have Hc7:Hid (∀ wx,Below wr.heap.size wr wx→_):=zh (fun wx hb=>Hc6.out wx (HCr.out.trans (hb.mono HCr.out.size)))
    have DN:Hid (∀ wx,Below wr.heap.size wr wx→_):=zh (fun wx hb=>CRN.out wx (HCr.out.trans (hb.mono HCr.out.size)))
    have DA:Hid (∀ wx,Below wr.heap.size wr wx→_):=zh (fun wx hb=>CRA.out wx (HCr.out.trans (hb.mono HCr.out.size)))
    have S1:Hid (∀ wx,Below wr.heap.size wr wx→Reads wx wx.heap.size 1 A8 N1.length (itv N1)):=zh (fun wx hb=>(HR1.out.keep fun _ _ hp=>(hB.out.trans (hb.mono hB.out.size)).cell hp).more (Nat.le_trans hB.out.size hb.size))
    have S2:Hid (∀ wx,Below wr.heap.size wr wx→Reads wx wx.heap.size 1 A9 N2.length (itv N2)):=zh (fun wx hb=>(HR2.out.keep fun _ _ hp=>(hB.out.trans (hb.mono hB.out.size)).cell hp).more (Nat.le_trans hB.out.size hb.size))
    have HBr:=zh (HB3.out.trans (HCr.out.mono HB3.out.size))
    clear hB CRN CRA Hc6
    go_upto_region 17 with (fail)
    refine wp_region_grow (specOf [(6,⟨Option Addr × Nat,fun x=>.slice x.1 N1.length x.2,fun x wz=>Reads wz wz.heap.size 1 x.1 N1.length (itv N1)⟩),(7,⟨Unit,fun _=>(.bool true),fun _ _=>True⟩),(15,⟨Option Addr × Nat,fun x=>.slice x.1 N2.length x.2,fun x wz=>Reads wz wz.heap.size 1 x.1 N2.length (itv N2)⟩),(16,⟨Unit,fun _=>(.bool true),fun _ _=>True⟩),(19,⟨Unit,fun _=>(.bool true),fun _ _=>True⟩)]) (fun wx=>Below (World.heap wr).size wr wx) (fun w1 w2=>Below w1.heap.size w1 w2) (by kernel_rfl) (by kernel_rfl) (stab_cons (fun x wa wb hg h=>(h.keep fun _ _ hp=>hg.cell hp).more hg.size) (stab_cons (fun _ _ _ _ h=>h) (stab_cons (fun x wa wb hg h=>(h.keep fun _ _ hp=>hg.cell hp).more hg.size) (stab_cons (fun _ _ _ _ h=>h) (stab_cons (fun _ _ _ _ h=>h) (stab_nil)))))) (Below.refl _ _).drew ?_
    iterate 6
     refine grow_fix _ ?_ rfl (by rfl) (by rfl) (fun wx hC hD=>?_) ?_
     rotate_left
     ·have hSw:=Hc7.out wx hC
      go_simp
      all_goals with_reducible rfl
     try simp only [Act.put,zD,zE,zF]
    refine grow_give 7 _ rfl (by rfl) (by rfl) (fun wx hC hD=>?_) (fun x=>?_)
    ·refine give_enter (f:=?_) (args:=?_) ?_ ?_
     rotate_left 2
     ·have hSw:=Hc7.out wx hC
      go_simp
      all_goals first | with_reducible rfl | (refine ⟨?_,?_⟩ <;> with_reducible rfl)
     refine (DN.out wx hC).mono ?_
     rintro e w9 ⟨v9,rfl,ho9,hb9⟩
     obtain ⟨A9,c9,rfl,hr9⟩:=nums_rows ho9 (Below.refl _ w9)
     exact ⟨_,rfl,hb9,hC.trans (hb9.mono hC.size),(A9,c9),rfl,hr9⟩
    obtain ⟨B8,d8⟩:=x
    try simp only [Act.put,zD,zE,zF]
    refine grow_give 8 _ rfl (by rfl) (by rfl) (fun wx hC hD=>?_) (fun x=>?_)
    ·refine give_enter (f:=?_) (args:=?_) ?_ ?_
     rotate_left 2
     ·have hSw:=Hc7.out wx hC
      go_simp
      all_goals first | with_reducible rfl | (refine ⟨?_,?_⟩ <;> with_reducible rfl)
     exact calls_cst hC (sameInt_eq A8 B8 N1.length c8 d8 N1 wx (S1.out wx hC) (upd_hit (deps_get hD 6 (by kernel_rfl)) (by decide)) rfl (by omega))
    obtain ⟨⟩:=x
    try simp only [Act.put,zD,zE,zF]
    iterate 7
     refine grow_fix _ ?_ rfl (by rfl) (by rfl) (fun wx hC hD=>?_) ?_
     rotate_left
     ·have hSw:=Hc7.out wx hC
      go_simp
      all_goals with_reducible rfl
     try simp only [Act.put,zD,zE,zF]
    refine grow_give 16 _ rfl (by rfl) (by rfl) (fun wx hC hD=>?_) (fun x=>?_)
    ·refine give_enter (f:=?_) (args:=?_) ?_ ?_
     rotate_left 2
     ·have hSw:=Hc7.out wx hC
      go_simp
      all_goals first | with_reducible rfl | (refine ⟨?_,?_⟩ <;> with_reducible rfl)
     refine (DA.out wx hC).mono ?_
     rintro e w9 ⟨v9,rfl,ho9,hb9⟩
     obtain ⟨A9,c9,rfl,hr9⟩:=nums_rows ho9 (Below.refl _ w9)
     exact ⟨_,rfl,hb9,hC.trans (hb9.mono hC.size),(A9,c9),rfl,hr9⟩
    obtain ⟨B9,d9⟩:=x
    try simp only [Act.put,zD,zE,zF]
    refine grow_give 17 _ rfl (by rfl) (by rfl) (fun wx hC hD=>?_) (fun x=>?_)
    ·refine give_enter (f:=?_) (args:=?_) ?_ ?_
     rotate_left 2
     ·have hSw:=Hc7.out wx hC
      go_simp
      all_goals first | with_reducible rfl | (refine ⟨?_,?_⟩ <;> with_reducible rfl)
     exact calls_cst hC (sameInt_eq A9 B9 N2.length c9 d9 N2 wx (S2.out wx hC) (upd_hit (deps_get hD 15 (by kernel_rfl)) (by decide)) rfl (by omega))
    obtain ⟨⟩:=x
    try simp only [Act.put,zD,zE,zF]
    iterate 2
     refine grow_fix _ ?_ rfl (by rfl) (by rfl) (fun wx hC hD=>?_) ?_
     rotate_left
     ·have hSw:=Hc7.out wx hC
      go_simp
      all_goals with_reducible rfl
     try simp only [Act.put,zD,zE,zF]
    refine grow_give 20 _ rfl (by rfl) (by rfl) (fun wx hC hD=>?_) (fun x=>?_)
    ·refine give_enter (f:=?_) (args:=?_) ?_ ?_
     rotate_left 2
     ·have hSw:=Hc7.out wx hC
      go_simp
      all_goals first | with_reducible rfl | (refine ⟨?_,?_⟩ <;> with_reducible rfl)
     refine (awake_any wx).mono ?_
     rintro e w9 ⟨rfl,hb9⟩
     exact ⟨_,rfl,hb9,hC.trans (hb9.mono hC.size),(),rfl,trivial⟩
    obtain ⟨⟩:=x
    try simp only [Act.put,zD,zE,zF]
    iterate 2
     refine grow_fix _ ?_ rfl (by rfl) (by rfl) (fun wx hC hD=>?_) ?_
     rotate_left
     ·have hSw:=Hc7.out wx hC
      go_simp
      all_goals with_reducible rfl
     try simp only [Act.put,zD,zE,zF]
    refine grow_nil (fun w9 hC hF=>?_)
    have HBF:=zh (HBr.out.trans (hC.mono HBr.out.size))
    clear hF hC
    go_wp2
    go_ret
    exact ⟨rfl,HBF.out⟩
end Go.Proofs.YtlfpfkallgkjdaaGreat.Al


