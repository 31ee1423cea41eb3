/- The model: histogram (printed by gen_mdl.py). -/
import Derived.Test.YtmomjpolkkbhnaaGreatQModelPagesRow27
import Derived.Test.YtmomjpolkkbhnaaGreatQModelPagesRow34
import Derived.Test.YtmomjpolkkbhnaaGreatQModelPagesRow0
set_option linter.unusedSimpArgs false
set_option linter.unusedVariables false
set_option maxRecDepth 20000
namespace Go.Proofs.YtmomjpolkkbhnaaGreat.Md
open Go.RowKit Ut Tk Qy Qp Ev
open Hi (Bk bkC ofF OwnB OfPost)
def HgR (w':World) (m:M) (r:Rq) (base:Nat) (cs:Array Value):Prop:=∃ E o,PrsR r.q.data.toList E o∧((E≠0∧cs=rsC E 0 0 nil nil nil 0 0 0 0)∨(E=0∧r.width<1∧cs=rsC 1 0 0 nil nil nil 0 0 0 0) ∨
 (∃ q D,E=0∧o=some q∧1≤r.width∧ByT (upL m (inB r.frm r.til q)) D∧((m.c.buckets<((ofF r.width (D.map (·.at_))).length:Nat)∧cs=rsC 241 0 0 nil nil nil 0 0 0 0) ∨
  (((ofF r.width (D.map (·.at_))).length:Nat)≤m.c.buckets∧∃ v,OwnB w' base v (ofF r.width (D.map (·.at_)))∧cs=rsC 0 0 0 nil v nil 0 0 0 0))))
theorem int_info:(Tryz.prog.info? 3).map (fun i=>(i.zero,i.size,i.bytes))=some (some (.int .i64 0),1,8):=by kernel_rfl
section
variable {w:World} {n0 X K:Nat} {v:Value} {m:M}
set_option maxHeartbeats 12800000 in
theorem hist_any (h:At w n0 X K v m) (hK:K≤60000) (r:Rq) (z:Rw) (hwd:r.width≤9223372036854775807) :
  Calls Tryz.prog 34 #[.pointer (some ⟨X,0,none⟩),.agg (rqC r z)] w (ReP (fun w w' cs=>HgR w' m r w.heap.size cs) w):=by
 obtain ⟨i0,hi0,hz0,hz1,hz2⟩:=info_parts int_info
 have hb:Below w.heap.size w ((w.alloc (.cells (rqC r z) 37)).alloc (.cells rs0 42)):=((Below.refl _ _).alloc (zG _) _).alloc (by simp) _
 have hq:=(Blk.new w 37 (rqC r z)).alloc (.cells rs0 42)
 have hr:=Blk.new (w.alloc (.cells (rqC r z) 37)) 42 rs0
 have z1:(w.alloc (.cells (rqC r z) 37)).heap.size=w.heap.size+1:=by simp
 rw [z1] at hr
 have H1:=zh (h.below hb)
 have HQ:=zh hq
 have HR:=zh hr
 have HB:=zh hb
 have hsw:w.heap.size+2≤(World.heap ((w.alloc (.cells (rqC r z) 37)).alloc (.cells rs0 42))).size:=by simp
 have hxl:=h.blk.lt
 have hfew:=h.few
 have HOK:=zh h.ok
 clear h hb hq hr z1
 go_enter Tryz.func34,Tryz.ntmps34
 go_upto_region 1 with (fail)
 generalize ((w.alloc (.cells (rqC r z) 37)).alloc (.cells rs0 42))=w1 at *
 have q4:=HQ.out.cell 4
 simp only [rqC,zA,zB,zC] at q4
 go_wp2_with fail
 refine (parse_any r.q w1).mono ?_
 rintro e w2 ⟨E,o,a0,a1,a2,a3,hp,rfl,hF,hb2⟩
 obtain ⟨A1,n1,c1,A2,n2,c2,e4⟩:=hF.four
 simp only [List.cons.injEq,and_true] at e4
 obtain ⟨rfl,rfl,rfl,rfl⟩:=e4
 have H2:=zh (H1.out.below hb2)
 have HR2:=zh (HR.out.below hb2 HR.out.lt)
 have HQ2:=zh (HQ.out.below hb2 HQ.out.lt)
 have HB2:=zh (HB.out.trans (hb2.mono HB.out.size))
 have HP:=zh hp
 have hqt:QAt w2 w2.heap.size (o.getD noQ) [.int .i64 (o.getD noQ).kind,.string (o.getD noQ).name,.slice A1 n1 c1,.slice A2 n2 c2]:=hF.at_ (fun b hb=>hb.2)
 have HQT:=zh hqt
 have hb3:Below w2.heap.size w2 (w2.alloc (.cells #[.int .i64 (o.getD noQ).kind,.string (o.getD noQ).name,.slice A1 n1 c1,.slice A2 n2 c2] 60)):=(Below.refl _ _).alloc (zG _) _
 have HBQ:=zh (Blk.new w2 60 #[.int .i64 (o.getD noQ).kind,.string (o.getD noQ).name,.slice A1 n1 c1,.slice A2 n2 c2])
 have HB32:=zh hb3
 clear hF hb2 hp hqt hb3 q4
 rcases prs_z HP.out with ⟨rfl,q,rfl,hqs⟩ | ⟨hE,rfl⟩
 ·have hk1:((some q:Option Q).getD noQ)=q:=rfl
  rw [hk1] at HQT HBQ HB32 ⊢
  have HQS:=zh hqs
  clear hk1 hqs
  obtain ⟨qk,hqk⟩:∃ qk,q.kind=qk:=⟨_,rfl⟩
  obtain ⟨qn,hqn⟩:∃ qn,q.name=qn:=⟨_,rfl⟩
  have HKK:=zh (And.intro hqk hqn)
  rw [hqk,hqn] at HQT HBQ HB32 ⊢
  clear hqk hqn
  have HB3:=zh (HB2.out.trans (HB32.out.mono HB2.out.size))
  have HR3:=zh (HR2.out.below HB32.out HR2.out.lt)
  have HQ3:=zh (HQ2.out.below HB32.out HQ2.out.lt)
  have H3:=zh (H2.out.below HB32.out)
  have HQT3:=zh (HQT.out.grow HB32.out)
  go_upto_region 2 with (fail)
  generalize w2.alloc (.cells #[.int .i64 qk,.string qn,.slice A1 n1 c1,.slice A2 n2 c2] 60)=w3 at *
  have q8:=HQ3.out.cell 8
  have q5:=HQ3.out.cell 5
  have q6:=HQ3.out.cell 6
  have k0:=HBQ.out.cell 0
  have k1:=HBQ.out.cell 1
  have k2:=HBQ.out.cell 2
  have k3:=HBQ.out.cell 3
  simp only [rqC,zA,zB,zC] at q5 q6 q8 k0 k1 k2 k3
  have CD:Hid (Calls Tryz.prog 67 #[.pointer (some ⟨X,0,none⟩),.agg #[.int .i64 qk,.string qn,.slice A1 n1 c1,.slice A2 n2 c2],.int .i64 r.frm,.int .i64 r.til] w3 (DocsQ w3 (upL m (inB r.frm r.til q)))):=zh (docs_any H3.out hK q HQS.out _ _ _ _ r.frm r.til ⟨A1,n1,c1,A2,n2,c2,by rw [HKK.out.1,HKK.out.2]⟩ HQT3.out)
  have HUL:Hid ((upL m (inB r.frm r.til q)).length≤60000):=zh (Nat.le_trans (List.length_filter_le _ _) (Nat.le_trans hfew hK))
  have HUI:Hid (∀ d∈upL m (inB r.frm r.til q),I64 d.at_):=zh (fun d hd=>by
   obtain ⟨i,hi,rfl⟩:=List.mem_iff_getElem.1 (List.mem_filter.1 hd).1
   exact (HOK.out.doc i hi).2.2)
  generalize hu:upL m (inB r.frm r.til q)=U at *
  have HU:=zh hu
  clear hu
  by_cases hw1:r.width<1
  ·clear CD
   go_wp2_with fail
   refine (fails_any 1 _).mono ?_
   rintro e w9 ⟨rfl,hb9⟩
   have HB9:=zh (HB3.out.trans (hb9.mono HB3.out.size))
   have HR9:=zh (HR3.out.below hb9 HR3.out.lt)
   clear hb9
   have HX9:=zh (setRow_heap _ (w.heap.size+1) _ (rsC 1 0 0 nil nil nil 0 0 0 0) _ _ HR9.out)
   go_wp2_with (refine wpList_store_row (o:=⟨none,.store 42 _ _,_,_,_,_⟩) rfl 42 _ _ rfl (w.heap.size+1) (rsC 1 0 0 nil nil nil 0 0 0 0) rfl rfl 42 rs0 HR9.out (by kernel_rfl) rfl (by simp [rsC,Value.oneCell']) ?_)
   refine bodyPost_ret (results_cell rfl rfl (run_loadVar_row _ (w.heap.size+1) 42 42 _ (0,0) _ HX9.out Tryz.underlying42 rfl (by kernel_rfl))) rfl ?_
   exact ⟨_,rfl,below_setRow HB9.out (Nat.le_succ _) _,0,_,HP.out,.inr (.inl ⟨rfl,hw1,rfl⟩)⟩
  ·go_wp2_with fail
   refine CD.out.mono ?_
   rintro e w4 ⟨v4,D,rfl,hD,hT,hb4⟩
   obtain ⟨A3,c3,rfl,hR3,hc3,_⟩:=hD.read
   have HB4:=zh (HB3.out.trans (hb4.mono HB3.out.size))
   have HR4:=zh (HR3.out.below hb4 HR3.out.lt)
   have HQ4:=zh (HQ3.out.below hb4 HQ3.out.lt)
   have H4:=zh (H3.out.below hb4)
   have HD4:=zh hR3
   have HT:=zh hT
   have hDl:D.length≤60000:=by rw [hT.perm.length_eq]; exact HUL.out
   have HDI:Hid (∀ d∈D,I64 d.at_):=zh (fun d hd=>HUI.out d (hT.perm.mem_iff.1 hd))
   have hs3:=HB3.out.size
   clear hD hT hb4 CD q5 q6 q8 k0 k1 k2 k3 hR3
   go_wp2_with fail
   go_loopw [7,35] (fun v i wr=>∃ (u:Value) (k:Nat),u=v∧k≤D.length∧i=.int .i64 k∧Hid (wr.ownsRow w4.heap.size 3 1 u k ((D.take k).map (fun d=>Value.int .i64 d.at_)))∧Hid (Below w4.heap.size w4 wr)) (fun _ i _=>D.length - (intOf i).toNat)
   case atStart=>exact ⟨_,0,rfl,Nat.zero_le _,rfl,zh (World.ownsRow_nil _ _ _ _),zh (Below.refl _ _)⟩
   case round =>
    obtain ⟨u,k,rfl,hk,rfl,hO,hB⟩:=hrel
    have hbs:=hB.out.size
    by_cases hlt:k<D.length
    ·have hki:(k:Int)<(D.length:Int):=by omega
     have hki0:(0:Int)≤(k:Int):=by omega
     obtain ⟨b,o,F,fn,fc,rfl,hbb,a0,a1,a2,_⟩:=HD4.out.at_ hlt
     have t0:=(hB.out.cell (p:=⟨b,o+k * 3,none⟩) hbb.2).trans a0
     have t1:=(hB.out.cell (p:=⟨b,o+k * 3+1,none⟩) hbb.2).trans a1
     have t2:=(hB.out.cell (p:=⟨b,o+k * 3+2,none⟩) hbb.2).trans a2
     have HTK:Hid ((D.take (k+1)).map (fun d=>Value.int .i64 d.at_)=(D.take k).map (fun d=>Value.int .i64 d.at_) ++ [.int .i64 D[k].at_]):=zh (by rw [List.take_succ_eq_append_getElem hlt,List.map_append]; rfl)
     clear a0 a1 a2
     generalize D[k].at_=ta at *
     generalize D[k].seq=sq at *
     generalize hzs:(D.take k).map (fun d=>Value.int .i64 d.at_)=zs at *
     clear hzs
     have hB1:Below wr.heap.size wr (wr.alloc (.cells #[.int .i64 sq,.int .i64 ta,.slice F fn fc] 48)):=(Below.refl _ _).alloc (zG _) _
     have hX1:=Blk.new wr 48 #[.int .i64 sq,.int .i64 ta,.slice F fn fc]
     have x1:=hX1.cell 1
     simp only [zA,zB,zC] at x1
     have HO1:=zh ((hO.out.alloc (.cells #[.int .i64 sq,.int .i64 ta,.slice F fn fc] 48)).alloc (.cells #[.int .i64 ta] 3))
     have HB1:=zh ((hB.out.alloc hbs (.cells #[.int .i64 sq,.int .i64 ta,.slice F fn fc] 48)).alloc (by simp; omega) (.cells #[.int .i64 ta] 3))
     clear hX1 hB1
     go_upto_region 10 with (fail)
     generalize hw5:wr.alloc (.cells #[.int .i64 sq,.int .i64 ta,.slice F fn fc] 48)=w5 at *
     clear hw5 t0 t1 t2
     go_wp2_with (first
      | (at_builtin; refine wpList_append_own_at _ rfl _ _ 27 rfl w4.heap.size 3 i0 _ 1 8 Tryz.underlying27 hi0 hz0 hz1 hz2 rfl (by decide) _ k zs rfl HO1.out ⟨w5.heap.size,0,none⟩ 1 1 [.int .i64 ta] rfl rfl (World.news_of_block (cs:=#[.int .i64 ta]) (t:=3) (fr:=(0,0)) (heap_alloc_new w5 _)) (by simp [Value.oneCell']) ?k1 ?k2 ?k3 ?_)
      | fail)
     case k1=>unfold maxLen; omega
     case k2=>omega
     try (case k3=>have:=HB1.out.size; first | omega | (rw [World.size_alloc] at *; omega))
     intro v4 w6 ho4 hg4 _ _
     have HO6:=zh ho4
     rw [← HTK.out] at HO6
     have HB6:=zh (HB1.out.grown hg4 HB1.out.size (fun j hj=>(HO1.out.lt j hj).1))
     clear ho4 hg4 x1
     go_wp2_with fail
     go_roundw
     case rel=>exact ⟨_,k+1,rfl,by omega,by go_num,HO6,HB6⟩
     case measure=>simp [intOf]; omega
    ·obtain rfl:k=D.length:=by omega
     have hkz:¬ (D.length:Int)<(D.length:Int):=by omega
     have hO:=hO.out
     rw [List.take_length] at hO
     obtain ⟨A5,c5,rfl,hR5,_⟩:=Ev.own_shape2 hO
     have HB5:=zh (HB4.out.trans (hB.out.mono HB4.out.size))
     have HR5:=zh (HR4.out.below hB.out HR4.out.lt)
     have H5:=zh (H4.out.below hB.out)
     have q8:=(HQ4.out.below hB.out HQ4.out.lt).cell 8
     simp only [rqC,zA,zB,zC] at q8
     have CO:Hid (Calls Tryz.prog 68 #[.int .i64 r.width,.slice A5 D.length c5] wr (OfPost wr.heap.size r.width (D.map (·.at_)) wr)):=zh (by
      have hm:(D.map (·.at_)).length=D.length:=List.length_map _
      have:=Hi.of_any A5 c5 wr.heap.size r.width (D.map (·.at_)) wr (by rw [hm,List.map_map]; exact hR5) (zG _) (by rw [hm]; omega) hwd (fun t ht=>by
       obtain ⟨d,hd,rfl⟩:=List.mem_map.1 ht
       exact HDI.out d hd)
      rwa [hm] at this)
     clear hO hR5 hB
     go_wp2_with fail
     refine CO.out.mono ?_
     rintro e w7 ⟨v7,rfl,hrow⟩
     have hwn:¬ r.width<1:=by omega
     rw [if_neg hwn]
     rw [if_neg hwn] at hrow
     clear hwn
     have HOW:=zh hrow.own
     have HB7:=zh (HB5.out.trans (hrow.bel.mono HB5.out.size))
     have HR7:=zh (HR5.out.below hrow.bel HR5.out.lt)
     have k4:=(H5.out.below hrow.bel).blk.cell 4
     simp only [mdC,zA,zB,zC] at k4
     have hs5:=HB5.out.size
     have HL:Hid (∃ L,ofF r.width (D.map (·.at_))=L):=zh ⟨_,rfl⟩
     obtain ⟨L,hL⟩:=HL.out
     rw [hL] at HOW
     have HLL:=zh hL
     obtain ⟨A8,c8,rfl,_⟩:=Ev.own_shape2 HOW.out
     clear hrow CO q8 hL HL
     by_cases hbk:m.c.buckets<(L.length:Int)
     ·have HBK:=zh hbk
      go_wp2_with fail
      refine (fails_any 241 _).mono ?_
      rintro e w9 ⟨rfl,hb9⟩
      have HB9:=zh (HB7.out.trans (hb9.mono HB7.out.size))
      have HR9:=zh (HR7.out.below hb9 HR7.out.lt)
      clear hb9
      have HX9:=zh (setRow_heap _ (w.heap.size+1) _ (rsC 241 0 0 nil nil nil 0 0 0 0) _ _ HR9.out)
      go_wp2_with (refine wpList_store_row (o:=⟨none,.store 42 _ _,_,_,_,_⟩) rfl 42 _ _ rfl (w.heap.size+1) (rsC 241 0 0 nil nil nil 0 0 0 0) rfl rfl 42 rs0 HR9.out (by kernel_rfl) rfl (by simp [rsC,Value.oneCell']) ?_)
      refine bodyPost_ret (results_cell rfl rfl (run_loadVar_row _ (w.heap.size+1) 42 42 _ (0,0) _ HX9.out Tryz.underlying42 rfl (by kernel_rfl))) rfl ?_
      exact ⟨_,rfl,below_setRow HB9.out (Nat.le_succ _) _,0,_,HP.out,.inr (.inr ⟨q,D,rfl,rfl,by omega,by rw [HU.out]; exact HT.out,.inl ⟨by rw [HLL.out]; exact HBK.out,rfl⟩⟩)⟩
     ·have HBK:=zh hbk
      have HX9:=zh (setRow_heap _ (w.heap.size+1) _ (rsC 0 0 0 nil (.slice A8 L.length c8) nil 0 0 0 0) _ _ HR7.out)
      go_wp2_with (refine wpList_store_row (o:=⟨none,.store 42 _ _,_,_,_,_⟩) rfl 42 _ _ rfl (w.heap.size+1) (rsC 0 0 0 nil (.slice A8 L.length c8) nil 0 0 0 0) rfl rfl 42 rs0 HR7.out (by kernel_rfl) rfl (by simp [rsC,Value.oneCell']) ?_)
      refine bodyPost_ret (results_cell rfl rfl (run_loadVar_row _ (w.heap.size+1) 42 42 _ (0,0) _ HX9.out Tryz.underlying42 rfl (by kernel_rfl))) rfl ?_
      exact ⟨_,rfl,below_setRow HB7.out (Nat.le_succ _) _,0,_,HP.out,.inr (.inr ⟨q,D,rfl,rfl,by omega,by rw [HU.out]; exact HT.out,.inr ⟨by rw [HLL.out]; have:=HBK.out; omega,.slice A8 L.length c8,by
       rw [HLL.out]
       exact own_same (own_mono HOW.out hs5) (fun b hb=>setRow_other w7 _ b _ (fun e=>by
        subst e
        exact absurd ((tg_own HOW.out hb).one ⟨_,_,HR7.out⟩) (by decide))),rfl⟩⟩)⟩
 ·have hE2:(E != 0)=true:=by simpa using hE
  have HE:=zh hE
  have HB3:=zh (HB2.out.trans (HB32.out.mono HB2.out.size))
  have HR3:=zh (HR2.out.below HB32.out HR2.out.lt)
  clear HBQ HQT hE
  generalize ((none:Option Q).getD noQ).kind=z1 at *
  generalize ((none:Option Q).getD noQ).name=z2 at *
  go_upto_region 2 with (fail)
  generalize w2.alloc (.cells #[.int .i64 z1,.string z2,.slice A1 n1 c1,.slice A2 n2 c2] 60)=w3 at *
  go_wp2_with fail
  refine (fails_any E _).mono ?_
  rintro e w9 ⟨rfl,hb9⟩
  have HB9:=zh (HB3.out.trans (hb9.mono HB3.out.size))
  have HR9:=zh (HR3.out.below hb9 HR3.out.lt)
  clear hb9
  have HX9:=zh (setRow_heap _ (w.heap.size+1) _ (rsC E 0 0 nil nil nil 0 0 0 0) _ _ HR9.out)
  go_wp2_with (refine wpList_store_row (o:=⟨none,.store 42 _ _,_,_,_,_⟩) rfl 42 _ _ rfl (w.heap.size+1) (rsC E 0 0 nil nil nil 0 0 0 0) rfl rfl 42 rs0 HR9.out (by kernel_rfl) rfl (by simp [rsC,Value.oneCell']) ?_)
  refine bodyPost_ret (results_cell rfl rfl (run_loadVar_row _ (w.heap.size+1) 42 42 _ (0,0) _ HX9.out Tryz.underlying42 rfl (by kernel_rfl))) rfl ?_
  exact ⟨_,rfl,below_setRow HB9.out (Nat.le_succ _) _,E,_,HP.out,.inl ⟨HE.out,rfl⟩⟩
end
end Go.Proofs.YtmomjpolkkbhnaaGreat.Md


