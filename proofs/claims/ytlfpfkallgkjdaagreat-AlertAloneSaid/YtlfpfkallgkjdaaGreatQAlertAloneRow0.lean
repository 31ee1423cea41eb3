/- AlertAlone: the law's walk (printed by gen_alz.py). -/
import Derived.Deep.CutRange
import Derived.Test.YtlfpfkallgkjdaaGreatAlQnPk
import Derived.Test.YtlfpfkallgkjdaaGreatGiLPk
import Derived.Test.YtlfpfkallgkjdaaGreatQAlertRunsRow0
import Derived.Test.YtlfpfkallgkjdaaGreatQAlertRunsRow4
set_option linter.unusedSimpArgs false
set_option linter.unusedVariables false
set_option maxRecDepth 40000
namespace Go.Proofs.YtlfpfkallgkjdaaGreat.Al
open Go.RowKit Go.Maps Ut Tk Qy Qp Ev Mv
theorem alone_has {l:List (Int × Kp)} (hu:UpI l) (fs:List Fl) (s:ByteArray) (q:Q):(AskV fs (put l 4 ⟨s,q,needs q⟩)).any (fun x=>x == 4)=(decide (chkE fs=0) && matchB fs q):=by
 have hg:=get_put hu 4 (⟨s,q,needs q⟩:Kp) 4
 rw [if_pos rfl] at hg
 have hu2:=put_up hu 4 (⟨s,q,needs q⟩:Kp)
 generalize put l 4 (⟨s,q,needs q⟩:Kp)=l2 at *
 unfold AskV
 by_cases hck:chkE fs=0
 ·rw [if_pos hck,decide_eq_true hck,Bool.true_and]
  cases hm:matchB fs q with
  | true =>
   refine List.any_eq_true.2 ⟨4,List.mem_map.2 ⟨_,List.mem_filter.2 ⟨get_mem hg,hm⟩,rfl⟩,by simp⟩
  | false =>
   refine Bool.eq_false_iff.2 (fun h=>?_)
   obtain ⟨i,hi,he⟩:=List.any_eq_true.1 h
   obtain ⟨y,hy,rfl⟩:=List.mem_map.1 hi
   obtain ⟨h1,h2⟩:=List.mem_filter.1 hy
   have h3:=mem_get hu2 h1
   have h4:y.1=4:=by simpa using he
   rw [h4,hg] at h3
   injection h3 with h3
   rw [← h3] at h2
   rw [hm] at h2
   cases h2
 ·rw [if_neg hck,decide_eq_false hck]
  rfl
set_option maxHeartbeats 12800000 in
theorem alone_any (A:Option Addr) (n c:Nat) (L:List Opr) (s:ByteArray) (t:Int) (F:Option Addr) (fn fc:Nat) (fs:List Fl) (w:World) (hO:OpsAt w A n c L) (hs:s.size≤140737488351232) (hF:FlAt w w.heap.size F fn fc fs) :
  Calls Tryz.prog 5 #[.slice A n c,.string s,.agg #[.int .i64 t,.slice F fn fc]] w fun e w'=>e=.returned (.bool true)∧Below w.heap.size w w':=by
 have hb1:Below w.heap.size w (w.alloc (.cells #[.int .i64 t,.slice F fn fc] 33)):=(Below.refl _ _).alloc (zG _) _
 have HE1:=zh (Blk.new w 33 #[.int .i64 t,.slice F fn fc])
 have HB1:=zh hb1
 have HO:=zh hO
 have HF:=zh hF
 clear hb1 hO hF
 go_enter Tryz.func5,Tryz.ntmps5
 go_upto_region 1 with (fail)
 generalize w.alloc (.cells #[.int .i64 t,.slice F fn fc] 33)=w1 at *
 have e0:=HE1.out.cell 0
 have e1:=HE1.out.cell 1
 simp only [zA,zB,zC] at e0 e1
 have c1:=zh (Gi.lightP_any t F fn fc fs w1 (let h:=flgrow HF.out HB1.out; ⟨h.rd,h.len,h.few⟩))
 go_wp2_with fail
 refine c1.out.mono ?_
 rintro e w2 ⟨⟨lb,rfl,_⟩,hb2⟩
 have HB2:=zh (HB1.out.trans (hb2.mono HB1.out.size))
 have HE2:=zh (HE1.out.below hb2 HE1.out.lt)
 clear hb2 c1 e0 e1
 cases lb with
 | false =>
  have CA:=zh (awake_any w2)
  go_wp2_with fail
  refine CA.out.mono ?_
  rintro e w3 ⟨rfl,hb3⟩
  have HB3:=zh (HB2.out.trans (hb3.mono HB2.out.size))
  clear hb3
  go_wp2
  go_ret
  exact ⟨rfl,HB3.out⟩
 | true =>
  go_upto_if 21 with (fail)
  go_cut [1] from 19 to 23 (fun v wx=>∃ s2:ByteArray,v=.string s2∧w2=wx)
  case first =>
   by_cases hs : 1100<s.size
   ·have hs':(1100:Int)<(s.size:Int):=by omega
    go_wp2_with fail
    go_meet
    exact ⟨_,rfl,rfl⟩
   ·have hs':¬ (1100:Int)<(s.size:Int):=by omega
    go_wp2_with fail
    go_meet
    exact ⟨_,rfl,rfl⟩
  case rest =>
  obtain ⟨s2,rfl,rfl⟩:=hcut
  go_upto_region 5 with (fail)
  have CB:=zh (behind_any A n c L w2 (HO.out.below HB2.out))
  go_wp2_with fail
  refine CB.out.mono ?_
  rintro e w3 ⟨Bb,K,l,rfl,hK,hl30,hS,hb3⟩
  obtain ⟨X2,A2,n2,c2,O2,g1,g2,g3,g4⟩:=hS.ex
  have HB3:=zh (HB2.out.trans (hb3.mono HB2.out.size))
  have hs23:=hb3.size
  have HE3:=zh (HE2.out.below hb3 HE2.out.lt)
  have HG:=zh g1
  have HA:=zh g2
  have hup:=g2.up
  have CP:=zh (parse_rf s2 w3)
  clear hS g1 g2 g3 g4 hb3 CB
  go_wp2_with fail
  refine CP.out.mono ?_
  rintro e w4 ⟨E,o,a0,a1,a2,a3,hp,rfl,hF4,hb4⟩
  obtain ⟨B1,m1,d1,B2,m2,d2,e4⟩:=hF4.four
  simp only [List.cons.injEq,and_true] at e4
  obtain ⟨rfl,rfl,rfl,rfl⟩:=e4
  have HP:=zh hp
  have hqf:=qf_sc hF4
  obtain ⟨qk,hqk⟩:∃ qk,(o.getD noQ).kind=qk:=⟨_,rfl⟩
  obtain ⟨qn,hqn⟩:∃ qn,(o.getD noQ).name=qn:=⟨_,rfl⟩
  rw [hqk,hqn] at hqf
  rw [hqk,hqn]
  have hb5:Below w4.heap.size w4 (w4.alloc (.cells #[.int .i64 qk,.string qn,.slice B1 m1 d1,.slice B2 m2 d2] 52)):=(Below.refl _ _).alloc (zG _) _
  have HQ5:=zh (Blk.new w4 52 #[.int .i64 qk,.string qn,.slice B1 m1 d1,.slice B2 m2 d2])
  have HQF5:=zh (qf_chg (O:=fun _=>False) hqf (Chg.of_new hb5) (fun _ h=>h.elim))
  have hb35:=hb4.trans (hb5.mono hb4.size)
  have HB5:=zh (HB3.out.trans (hb35.mono HB3.out.size))
  have HG5:=zh (HG.out.below hb35 HG.out.lt)
  have HE5:=zh (HE3.out.below hb35 HE3.out.lt)
  have HA5:=zh (HA.out.new_below hb35)
  have hs35:=hb35.size
  clear hp hF4 hqf hb4 hb5 hb35 CP hqk hqn
  go_upto_region 9 with (fail)
  generalize w4.alloc (.cells #[.int .i64 qk,.string qn,.slice B1 m1 d1,.slice B2 m2 d2] 52)=w5 at *
  have CPU:=zh (put_n HA5.out (by omega) 4 (I64.of (by omega)) s2 (by omega) (by omega))
  have r0:=HG5.out.cell 0
  simp only [zA,zB,zC] at r0
  go_wp2_with fail
  refine CPU.out.mono ?_
  rintro e w6 ⟨E2,l6,hpr,rfl,hA6,hf6⟩
  have hw2:=HB2.out.size
  have hb56:Below w.heap.size w5 w6:=(hf6.more hw2).below (by have:=HB5.out.size; omega)
  have HB6:=zh (HB5.out.trans hb56)
  have HG6:=zh (hf6.blk HG5.out)
  have HE6:=zh (hf6.blk HE5.out)
  have HQ6:=zh (hf6.blk HQ5.out)
  have HQF6:=zh (qf_chg HQF5.out hf6 Frm.noSc)
  have HA6:=zh hA6
  have HPR:=zh hpr
  clear hpr hA6 hf6 hb56 CPU r0
  cases o with
  | none =>
   have hE:=prs_none HP.out
   obtain ⟨hE2,_⟩:=HPR.out.det (PutR.bad ⟨by omega,by omega⟩ HP.out)
   subst hE2
   have hEb:(E2 != 0)=true:=by simpa using hE
   have hEe:(E2 == E2)=true:=by simp
   have CW:=zh (awake_any w6)
   go_wp2_with fail
   refine CW.out.mono ?_
   rintro e w7 ⟨rfl,hb7⟩
   have HB7:=zh (HB6.out.trans (hb7.mono HB6.out.size))
   clear hb7
   go_wp2
   go_ret
   exact ⟨rfl,HB7.out⟩
  | some q =>
   obtain ⟨rfl,_,hq⟩:=prs_ok HP.out
   obtain ⟨rfl,rfl⟩:=HPR.out.det (PutR.ok ⟨by omega,by omega⟩ HP.out (.inr (by omega)))
   have HQO:=zh hq
   have hl6:(put l 4 (⟨s2,q,needs q⟩:Kp)).length≤1000:=by rw [put_len hup]; split <;> omega
   have HAH:=zh (alone_has hup fs s2 q)
   have HQA:Hid (∀ wx,Below w6.heap.size w6 wx→QAt wx wx.heap.size q [.int .i64 qk,.string qn,.slice B1 m1 d1,.slice B2 m2 d2]):=zh (fun wx hb=>(HQF6.out.at_ (fun b hb=>hb.lt)).grow hb)
   have CA:Hid (∀ wx,Below w6.heap.size w6 wx→Calls Tryz.prog 17 #[.pointer (some ⟨X2,0,none⟩),.agg #[.int .i64 t,.slice F fn fc]] wx (NumsP wx (AskV fs (put l 4 ⟨s2,q,needs q⟩)))):=zh (fun wx hb=>ask_n (HA6.out.new_below hb) hl6 t F fn fc fs (flgrow HF.out (HB6.out.trans (hb.mono HB6.out.size))))
   have hal:=ask_few fs hl6
   have Hc6:Hid (∀ wx,Below w6.heap.size w6 wx→wx.cell? ⟨Bb,0,none⟩=some (.pointer (some ⟨X2,0,none⟩))∧wx.cell? ⟨w.heap.size,0,none⟩=some (.int .i64 t)∧wx.cell? ⟨w.heap.size,1,none⟩=some (.slice F fn fc)):=zh (fun wx hb=>by
    have r0:=(HG6.out.below hb HG6.out.lt).cell 0
    have r2:=(HE6.out.below hb HE6.out.lt).cell 0
    have r3:=(HE6.out.below hb HE6.out.lt).cell 1
    simp only [zA,zB,zC] at r0 r2 r3
    exact ⟨r0,r2,r3⟩)
   clear hq hl6 HP HPR
   generalize AskV fs (put l 4 ⟨s2,q,needs q⟩)=N at *
   go_upto_region 12 with (fail)
   refine wp_region_grow (specOf [(5,⟨Option Addr × Nat,fun x=>.slice x.1 N.length x.2,fun x wz=>Reads wz wz.heap.size 1 x.1 N.length (itv N)⟩)]) (fun wx=>Below (World.heap w6).size w6 wx) (fun w1 w2=>Below w1.heap.size w1 w2) (by kernel_rfl) (by kernel_rfl) (stab_cons (fun x wa wb hg h=>(h.keep fun _ _ hp=>hg.cell hp).more hg.size) (stab_nil)) (Below.refl _ _).drew ?_
   iterate 5
    refine grow_fix _ ?_ rfl (by rfl) (by rfl) (fun wx hC hD=>?_) ?_
    rotate_left
    ·have hSw:=Hc6.out wx hC
     go_simp
     all_goals with_reducible rfl
    try simp only [Act.put,zD,zE,zF]
   refine grow_give 6 _ rfl (by rfl) (by rfl) (fun wx hC hD=>?_) (fun x=>?_)
   ·refine give_enter (f:=?_) (args:=?_) ?_ ?_
    rotate_left 2
    ·have hSw:=Hc6.out wx hC
     go_simp
     all_goals first | with_reducible rfl | (refine ⟨?_,?_⟩ <;> with_reducible rfl)
    refine (CA.out wx hC).mono ?_
    rintro e w9 ⟨v9,rfl,ho9,hb9⟩
    obtain ⟨A9,c9,rfl,hr9⟩:=nums_rows ho9 (Below.refl _ w9)
    exact ⟨_,rfl,hb9,hC.trans (hb9.mono hC.size),(A9,c9),rfl,hr9⟩
   obtain ⟨A8,c8⟩:=x
   try simp only [Act.put,zD,zE,zF]
   refine grow_fix 7 ?_ rfl (by rfl) (by rfl) (fun wx hC hD=>?_) ?_
   rotate_left
   ·have hSw:=Hc6.out wx hC
    go_simp
    all_goals with_reducible rfl
   try simp only [Act.put,zD,zE,zF]
   refine grow_nil (fun w7 hC hF=>?_)
   have HR1:Hid (Reads w7 w7.heap.size 1 A8 N.length (itv N)):=zh (upd_hit (hF 5) (by decide))
   have HC7:=zh hC
   clear hF hC CA
   go_wp2_with fail
   go_loopw [13,14] (fun h j wr=>∃ jn:Nat,jn≤N.length∧j=.int .i64 jn∧h=.bool ((N.take jn).any (fun x=>x == 4))∧Hid (Below w7.heap.size w7 wr)) (fun _ j _=>N.length - (intOf j).toNat)
   case atStart=>exact ⟨0,Nat.zero_le _,rfl,rfl,zh (Below.refl _ _)⟩
   case round =>
    obtain ⟨jn,hj,rfl,rfl,hQ⟩:=hrel
    by_cases hjl:jn<N.length
    ·have hjz:(jn:Int)<(N.length:Int):=by omega
     have hj0:(0:Int)≤(jn:Int):=by omega
     obtain ⟨mb,mo,rfl,hmb,hmc⟩:=HR1.out.2 (by omega)
     have y1:=(hQ.out.cell (p:=⟨mb,mo+jn,none⟩) hmb).trans (hmc jn _ (itv_get N jn hjl))
     have HST:Hid ((N.take (jn+1)).any (fun x=>x == 4)=((N.take jn).any (fun x=>x == 4) || (N[jn] == 4))):=zh (by rw [List.take_succ_eq_append_getElem hjl,List.any_append]; simp)
     generalize (N.take jn).any (fun x=>x == 4)=hv at *
     clear hmc
     generalize N[jn]=x at *
     cases hv
     ·go_wp2_with fail
      go_roundw
      case rel=>exact ⟨jn+1,by omega,by go_num,by rw [HST.out]; rfl,hQ⟩
      case measure=>simp [intOf]; omega
     ·go_wp2_with fail
      go_roundw
      case rel=>exact ⟨jn+1,by omega,by go_num,by rw [HST.out]; rfl,hQ⟩
      case measure=>simp [intOf]; omega
    ·obtain rfl:jn=N.length:=by omega
     rw [List.take_length,HAH.out]
     have HC8:=zh (HC7.out.trans (hQ.out.mono HC7.out.size))
     have HB8:=zh (HB6.out.trans (HC8.out.mono HB6.out.size))
     have r0:=Hc6.out wr HC8.out
     obtain ⟨_,r2,r3⟩:=r0
     have CK:=zh (rcheck_any t F fn fc fs wr (flgrow HF.out HB8.out))
     by_cases hck:chkE fs=0
     ·rw [decide_eq_true hck,Bool.true_and]
      rw [hck] at CK
      have HCK:=zh hck
      clear hck
      go_wp2_with fail
      refine CK.out.mono ?_
      rintro e w8 ⟨rfl,hb8⟩
      have HC9:=zh (HC8.out.trans (hb8.mono HC8.out.size))
      have HB9:=zh (HB6.out.trans (HC9.out.mono HB6.out.size))
      have r5:=Hc6.out w8 HC9.out
      obtain ⟨_,r6,r7⟩:=r5
      have hq6:=HQ6.out.below HC9.out HQ6.out.lt
      have k0:=hq6.cell 0
      have k1:=hq6.cell 1
      have k2:=hq6.cell 2
      have k3:=hq6.cell 3
      simp only [zA,zB,zC] at k0 k1 k2 k3
      have CM:=zh (rmatch_any fs q HQO.out.sz w8 _ _ _ _ t F fn fc (HQA.out w8 HC9.out) (flEvt (flgrow HF.out HB9.out) HCK.out))
      have hmm:(matchB fs q == matchB fs q)=true:=by simp
      generalize matchB fs q=mb at *
      clear hb8 hq6 CK r2 r3
      go_wp2_with fail
      refine CM.out.mono ?_
      rintro e w9 ⟨rfl,hb9⟩
      have HB10:=zh (HB9.out.trans (hb9.mono HB9.out.size))
      have CW:=zh (awake_any w9)
      clear hb9 CM k0 k1 k2 k3 r6 r7
      go_wp2_with fail
      refine CW.out.mono ?_
      rintro e w10 ⟨rfl,hb10⟩
      have HB11:=zh (HB10.out.trans (hb10.mono HB10.out.size))
      clear hb10
      go_wp2
      go_ret
      exact ⟨rfl,HB11.out⟩
     ·rw [decide_eq_false hck,Bool.false_and]
      have hcb:(chkE fs == 0)=false:=beq_eq_false_iff_ne.2 hck
      generalize chkE fs=cc at *
      clear hck
      go_wp2_with fail
      refine CK.out.mono ?_
      rintro e w8 ⟨rfl,hb8⟩
      have HB10:=zh (HB8.out.trans (hb8.mono HB8.out.size))
      have CW:=zh (awake_any w8)
      clear hb8 CK r2 r3
      go_wp2_with fail
      refine CW.out.mono ?_
      rintro e w10 ⟨rfl,hb10⟩
      have HB11:=zh (HB10.out.trans (hb10.mono HB10.out.size))
      clear hb10
      go_wp2
      go_ret
      exact ⟨rfl,HB11.out⟩
end Go.Proofs.YtlfpfkallgkjdaaGreat.Al


