/- loggiaref25.Is: the walk. -/
import Derived.Test.YtmomjpolkkbhnaaGreatQModelPagesRow32
import Derived.Test.YtmomjpolkkbhnaaGreatQModelPagesRow14
import Derived.Test.YtmomjpolkkbhnaaGreatQModelPagesRow12
import Derived.Test.YtmomjpolkkbhnaaGreatQModelPagesRow15
import Derived.Test.YtmomjpolkkbhnaaGreatQModelPagesRow0
set_option linter.unusedSimpArgs false
set_option maxRecDepth 100000
section
namespace Go.Proofs.YtmomjpolkkbhnaaGreat.Cu
open Go.RowKit Cr Qp Qy
end Go.Proofs.YtmomjpolkkbhnaaGreat.Cu
end

section
namespace Go.Proofs.YtmomjpolkkbhnaaGreat.Cu
open Go.RowKit Cr Qp Qy
theorem encode_no (a:Int) (q:ByteArray) (w:World) (h:¬ IsC a q):Calls Tryz.prog 69 #[.agg #[.int .i64 a,.string q]] w (BytesTo w [] 250):=by
 have hb0:=(Below.refl w.heap.size w).alloc (zG _) (.cells #[.int .i64 a,.string q] 122)
 have c1:=may_any a q (w.alloc (.cells #[.int .i64 a,.string q] 122))
 rw [mayB_no h] at c1
 have Hb0:=zh hb0
 clear hb0 h
 go_enter Tryz.func69,Tryz.ntmps69
 go_wp2_with fail
 refine c1.mono ?_
 rintro e w1 ⟨rfl,hb1⟩
 have Hb1:=zh (Hb0.out.trans (hb1.mono Hb0.out.size))
 clear c1 hb1
 go_wp2
 go_ret2
 exact ⟨⟨_,rfl,World.ownsRow_nil _ _ _ _⟩,Hb1.out⟩
end Go.Proofs.YtmomjpolkkbhnaaGreat.Cu
end

section
namespace Go.Proofs.YtmomjpolkkbhnaaGreat.Cu
open Go.RowKit Cr Qp Qy Ph
section
variable {P:Program} {o:Oper} {a:Act} {w:World} {R:Value→World→Prop}
theorem give_append (s x:Operand) (t:TypeId) (ho:o.op=.call { callee:=.builtin .append,args:=#[s,x],argTypes:=#[t,t] })
  (base:Nat) (e:TypeId) (i:TypeInfo) (z:Value) (size bytes:Nat) (ht:P.underlying t=some (.slice e)) (hi:P.info? e=some i) (hz:i.zero=some z)
  (hsize:i.size=size) (hby:i.bytes=bytes) (hzs:z.cells.size=size) (hsz : 0<size)
  (v:Value) (n:Nat) (xs:List Value) (hs:a.eval s=v) (hown:w.ownsRow base e size v n xs)
  (ad:Addr) (m c:Nat) (news:List Value) (hx:a.eval x=.slice (some ad) m c) (hl:news.length=m * size) (hnews:∀ j u,news[j]?=some u→w.cell? (ad.add j)=some u) (h1:∀ u∈news,u.oneCell'=true)
  (h63:n+m≤maxLen) (hbytes:(n+m) * bytes≤140737488355328) (hbase:base≤w.heap.size)
  (h:∀ v' w',w'.ownsRow base e size v' (n+m) (xs ++ news)→w.grownBy w' v.ownBlock→R v' w'):growUpon P Tr w R ((execOp a.eval o).run P w):=by
 obtain ⟨v',w',hr,h2,h3,_⟩:=run_append_own (P:=P) w base t o.type e i z size bytes ht hi hz hsize hby hzs hsz v n xs hown ad m c news hl hnews h1 h63 hbytes hbase
 unfold execOp
 simp only [ho,resolve,invoke,builtin,Sem.run_bind,Sem.run_pure,Result.andThen_ok,List.map_toArray,List.map_cons,List.map_nil,hs,hx,hr]
 exact ⟨trivial,h v' w' h2 h3⟩
end
structure Two (w wx:World) (a:Int) (q:ByteArray) (v:Value) (M:List UInt8) (x:Value) (N:List UInt8):Prop where
 enc:Enc w wx a q v M
 row:wx.ownsRow (w.heap.size+1) 5 1 x N.length (bv N)
end Go.Proofs.YtmomjpolkkbhnaaGreat.Cu
end

section
namespace Go.Proofs.YtmomjpolkkbhnaaGreat.Cu
open Go.RowKit Qy Ph
theorem fol_start (w:World) (a:Int) (q:ByteArray):Fol w ((w.alloc (.cells #[.int .i64 a,.string q] 122)).alloc (.cells #[.int .i64 0,.string ⟨#[]⟩] 122)) a q (.slice none 0 0) []:=by
 have hz:(w.alloc (.cells #[.int .i64 a,.string q] 122)).heap.size=w.heap.size+1:=by simp
 have h2:=Blk.new (w.alloc (.cells #[.int .i64 a,.string q] 122)) 122 #[.int .i64 0,.string ⟨#[]⟩]
 rw [hz] at h2
 have h1:=(Blk.new w 122 #[.int .i64 a,.string q]).alloc (.cells #[.int .i64 0,.string ⟨#[]⟩] 122)
 have hb:=((Below.refl w.heap.size w).alloc (zG _) (.cells #[.int .i64 a,.string q] 122)).alloc (by simp) (.cells #[.int .i64 0,.string ⟨#[]⟩] 122)
 exact ⟨h1,h2,(DocsOwn.start w).below hb⟩
set_option maxHeartbeats 6400000 in
theorem follow_any (a k l:Int) (q:ByteArray) (A:Option Addr) (n c:Nat) (ds:List Dc) (w:World) (hD:DocsAt w w.heap.size A n ds) (hn:n≤1048576) :
  Calls Tryz.prog 71 #[.agg #[.int .i64 a,.string q],.int .i64 k,.int .i64 l,.slice A n c] w (FolTo w (folP a k l ds) q):=by
 obtain ⟨i0,hi0,hz0,hz1,hz2⟩:=info_parts Ev.doc_info
 have HF0:=zh (fol_start w a q)
 have HD:=zh hD
 have Hl:=zh hD.ln
 clear hD
 by_cases hl:l<1
 ·have Hfin:=zh (fol_none (a:=a) (k:=k) ds hl)
  go_enter Tryz.func71,Tryz.ntmps71
  go_upto_region 2 with (fail)
  generalize hw2:(w.alloc (.cells #[.int .i64 a,.string q] 122)).alloc (.cells #[.int .i64 0,.string ⟨#[]⟩] 122)=w2 at *
  clear hw2
  have hb0:=HF0.out.box.cell 0
  have hb1:=HF0.out.box.cell 1
  have hr0:=HF0.out.res.cell 0
  have hr1:=HF0.out.res.cell 1
  have hf0:=HF0.out.res.frozen 0
  have hf1:=HF0.out.res.frozen 1
  simp at hb0 hb1 hr0 hr1
  have HD:=zh HF0.out.done
  refine wp_region_ph_tail 2 (specOf []) (fun wx=>wx=w2.drew) (fun _=>True) (by kernel_rfl) (by kernel_rfl) (turns_of (by kernel_rfl)) rfl trivial ?_
  refine ph_fix 1 ?_ rfl (by rfl) (by rfl) (fun wx hC=>?_) ?_
  rotate_left
  ·subst hC
   go_simp
   all_goals with_reducible rfl
  try simp only [Act.put,zD,zE,zF]
  refine ph_fix 2 ?_ rfl (by rfl) (by rfl) (fun wx hC=>?_) ?_
  rotate_left
  ·subst hC
   go_simp
   all_goals with_reducible rfl
  try simp only [Act.put,zD,zE,zF]
  refine ph_nil (fun w9 hC hI=>?_)
  subst hC
  clear hI
  go_wp2
  exact bodyPost_ret (fol_results rfl rfl rfl HD.out.1) rfl (by rw [Hfin.out]; exact ⟨_,rfl,HD.out.2⟩)
 have hl1 : 1≤l:=by omega
 go_enter Tryz.func71,Tryz.ntmps71
 go_wp2_with fail
 generalize hw2:(w.alloc (.cells #[.int .i64 a,.string q] 122)).alloc (.cells #[.int .i64 0,.string ⟨#[]⟩] 122)=w2 at *
 clear hw2
 go_loopw [10,11,21] (fun v m i wr=>∃ j:Nat,j≤n∧i=.int .i64 (j:Int)∧m=.int .i64 (lastP a (sel a k (ds.take j)))∧((sel a k (ds.take j)).length:Int)<l∧Fol w wr a q v (sel a k (ds.take j))) (fun _ _ i _=>n - (intOf i).toNat)
 case atStart=>exact ⟨0,Nat.zero_le _,rfl,rfl,by simp [sel]; omega,by simpa [sel] using HF0.out⟩
 case round =>
  obtain ⟨j,hj,rfl,rfl,hlen,hF⟩:=hrel
  have hsl:(sel a k (ds.take j)).length≤1048576:=Nat.le_trans (sel_len ..) (by rw [List.length_take,Hl.out]; omega)
  have hb0:=hF.box.cell 0
  have hb1:=hF.box.cell 1
  have hbl:=hF.box.lt
  simp at hb0 hb1
  by_cases hlt:j<n
  ·have hjl:j<ds.length:=by rw [Hl.out]; exact hlt
   obtain ⟨b,o,F,fn,fc,rfl,hbb,hc0,hc1,hc2,hR,hfl,hfn,hff,hfnil⟩:=HD.out.at_ hjl
   have hc0:=(hF.own.bel.cell (p:=⟨b,o+j * 3,none⟩) hbb).trans hc0
   have hc1:=(hF.own.bel.cell (p:=⟨b,o+j * 3+1,none⟩) hbb).trans hc1
   have hc2:=(hF.own.bel.cell (p:=⟨b,o+j * 3+2,none⟩) hbb).trans hc2
   have Hyes:=zh (sel_yes a k ds j hjl)
   have Hno:=zh (sel_no a k ds j hjl)
   have Hstop:=zh (fol_stop (a:=a) (k:=k) (l:=l) (ds:=ds) (j+1) (by omega))
   have hDc:DcV w w.heap.size ds[j] [.int .i64 ds[j].seq,.int .i64 ds[j].at_,.slice F fn fc]:=⟨F,fn,fc,rfl,hR,hfl,hfn,hff,hfnil⟩
   have HDc:=zh hDc
   clear hR hfl hDc
   generalize hdj:ds[j]=d at *
   clear hdj
   obtain ⟨s,at_,fs⟩:=d
   dsimp only at hc0 hc1 HDc Hyes Hno
   have HF:=zh (hF.alloc (.cells #[.int .i64 s,.int .i64 at_,.slice F fn fc] 48))
   have Hdp:=zh (Blk.new wr 48 #[.int .i64 s,.int .i64 at_,.slice F fn fc])
   have Hrow:Hid (some wr.heap.size≠u10.ownBlock):=zh (fun e=>by
    obtain ⟨vss,_,g2,_⟩:=hF.own.ex
    have:=(g2.lt _ e.symm).2
    omega)
   have hb0w:=(World.cell?_alloc_lt wr (.cells #[.int .i64 s,.int .i64 at_,.slice F fn fc] 48) ⟨w.heap.size,0,none⟩ hbl).trans hb0
   clear hF
   by_cases h1:a<s
   ·by_cases h2:s≤k
    ·have h1':¬ s≤a:=by omega
     have h2':¬ k<s:=by omega
     go_upto_region 9 with (fail)
     generalize hwd:wr.alloc (.cells #[.int .i64 s,.int .i64 at_,.slice F fn fc] 48)=wd at *
     clear hwd
     generalize hdp:wr.heap.size=dp at *
     clear hdp
     generalize hm:lastP a (sel a k (ds.take j))=m at *
     have Hm:=zh hm
     have Hlst:Hid (lastP a (sel a k (ds.take (j+1)))=max m s):=zh (by rw [Hyes.out h1 h2,lastP_snoc,hm])
     have Hys:Hid (sel a k (ds.take (j+1))=sel a k (ds.take j) ++ [⟨s,at_,fs⟩]):=zh (Hyes.out h1 h2)
     clear hm
     generalize sel a k (ds.take j)=out at *
     refine wp_region_ph_tail 9 (specOf [(2,⟨Nat,fun x=>.slice (some ⟨x,0,none⟩) 1 1,fun x wx=>Fol w wx a q u10 out∧Blk wx x 48 #[.int .i64 s,.int .i64 at_,.slice F fn fc]⟩),(3,⟨Value,fun x=>x,fun x wx=>Fol w wx a q x (out ++ [⟨s,at_,fs⟩])⟩)])
      (fun wx=>Blk wx dp 48 #[.int .i64 s,.int .i64 at_,.slice F fn fc]) (fun wx=>Fol w wx a q u10 out) (by kernel_rfl) (by kernel_rfl) (turns_of (by kernel_rfl)) Hdp.out.drew HF.out.drew ?_
     refine ph_fix 1 ?_ rfl (by rfl) (by rfl) (fun wx hC=>?_) ?_
     rotate_left
     ·have g0:=hC.cell 0; have g1:=hC.cell 1; have g2:=hC.cell 2; simp at g0 g1 g2
      go_simp
      all_goals with_reducible rfl
     try simp only [Act.put,zD,zE,zF]
     refine ph_fix 2 ?_ rfl (by rfl) (by rfl) (fun wx hC=>?_) ?_
     rotate_left
     ·have g0:=hC.cell 0; have g1:=hC.cell 1; have g2:=hC.cell 2; simp at g0 g1 g2
      go_simp
      all_goals with_reducible rfl
     try simp only [Act.put,zD,zE,zF]
     refine ph_give 3 _ rfl (by rfl) (by rfl) (fun wx hC hI=>?_) (fun x=>?_)
     ·refine give_value (u:=?_) (w':=?_) ?_ trivial ?_
      rotate_left 2
      ·go_simp
       all_goals first | with_reducible rfl | (refine ⟨?_,?_⟩ <;> with_reducible rfl)
      exact ⟨hC.alloc _,wx.heap.size,rfl,hI.alloc _,Blk.new wx _ _⟩
     rename Nat=>x2
     try simp only [Act.put,zD,zE,zF]
     refine ph_give 4 _ rfl (by rfl) (by rfl) (fun wx hC hI=>?_) (fun x=>?_)
     ·obtain ⟨hFx,hBx⟩:=hI
      obtain ⟨vss,g1,g2,g3⟩:=hFx.own.ex
      refine give_append _ _ 26 rfl w.heap.size 48 i0 _ 3 40 Tryz.underlying26 hi0 hz0 hz1 hz2 rfl (by decide) u10 out.length vss.flatten rfl g2 ⟨x2,0,none⟩ 1 1 [.int .i64 s,.int .i64 at_,.slice F fn fc] rfl rfl ?d1 ?d2 ?d3 ?d4 ?d5 ?_
      case d1=>exact World.news_of_block (cs:=#[.int .i64 s,.int .i64 at_,.slice F fn fc]) (t:=48) (fr:=(0,0)) hBx
      case d2=>intro u hu; simp at hu; rcases hu with rfl | rfl | rfl <;> rfl
      case d3=>unfold maxLen; omega
      case d4=>omega
      case d5=>have:=hFx.box.lt; omega
      intro v9 w9 hown9 hg9
      have hDx:DcV wx wx.heap.size ⟨s,at_,fs⟩ [.int .i64 s,.int .i64 at_,.slice F fn fc]:=(HDc.out.keep fun _ _ hp=>hFx.own.bel.cell hp).more hFx.own.bel.size
      have hFar:Far wx w.heap.size [.int .i64 s,.int .i64 at_,.slice F fn fc]:=by
       intro F' fn' fc' hv hn'
       simp only [zC,zB,Option.some.injEq,Value.slice.injEq] at hv
       obtain ⟨rfl,rfl,rfl⟩:=hv
       obtain ⟨F2,fn2,fc2,e2,hR2,_⟩:=HDc.out
       simp only [List.cons.injEq,Value.slice.injEq,and_true,true_and] at e2
       obtain ⟨rfl,rfl,rfl⟩:=e2
       obtain ⟨b',o',eF,hlt',_⟩:=hR2.2 hn'
       exact ⟨b',o',eF,.inl hlt'⟩
      have hE:=hFx.put ⟨vss,g1,g2,g3,rfl⟩ hown9 hg9 hDx hFar
      exact ⟨hC.grown hg9 Hrow.out,v9,rfl,hE⟩
     rename Value=>x3
     try simp only [Act.put,zD,zE,zF]
     refine ph_fix 5 ?_ rfl (by rfl) (by rfl) (fun wx hC=>?_) ?_
     rotate_left
     ·have g0:=hC.cell 0; have g1:=hC.cell 1; have g2:=hC.cell 2; simp at g0 g1 g2
      go_simp
      all_goals with_reducible rfl
     try simp only [Act.put,zD,zE,zF]
     refine ph_fix 6 ?_ rfl (by rfl) (by rfl) (fun wx hC=>?_) ?_
     rotate_left
     ·have g0:=hC.cell 0; have g1:=hC.cell 1; have g2:=hC.cell 2; simp at g0 g1 g2
      go_simp
      all_goals with_reducible rfl
     try simp only [Act.put,zD,zE,zF]
     refine ph_fix 7 ?_ rfl (by rfl) (by rfl) (fun wx hC=>?_) ?_
     rotate_left
     ·have g0:=hC.cell 0; have g1:=hC.cell 1; have g2:=hC.cell 2; simp at g0 g1 g2
      go_simp
      all_goals with_reducible rfl
     try simp only [Act.put,zD,zE,zF]
     refine ph_fix 8 ?_ rfl (by rfl) (by rfl) (fun wx hC=>?_) ?_
     rotate_left
     ·have g0:=hC.cell 0; have g1:=hC.cell 1; have g2:=hC.cell 2; simp at g0 g1 g2
      go_simp
      all_goals with_reducible rfl
     try simp only [Act.put,zD,zE,zF]
     refine ph_fix 9 ?_ rfl (by rfl) (by rfl) (fun wx hC=>?_) ?_
     rotate_left
     ·have g0:=hC.cell 0; have g1:=hC.cell 1; have g2:=hC.cell 2; simp at g0 g1 g2
      go_simp
      all_goals with_reducible rfl
     try simp only [Act.put,zD,zE,zF]
     refine ph_nil (fun w6 hC hI=>?_)
     obtain ⟨A6,c6,hx6,_⟩:=hI.own.read
     have hx6':x3=.slice A6 (out ++ [(⟨s,at_,fs⟩:Dc)]).length c6:=hx6
     subst hx6'
     have HI:=zh hI
     have hl2:(out ++ [(⟨s,at_,fs⟩:Dc)]).length=out.length+1:=by simp
     have Hl2:=zh hl2
     clear hI hC hx6 Hno Hyes HF Hdp hb0w hb0 hb1 hc0 hc1 hc2 hl2
     generalize (out ++ [(⟨s,at_,fs⟩:Dc)])=out2 at *
     rw [Hys.out] at Hlst Hstop
     have Hlst2:Hid (lastP a out2=max m s):=Hlst
     have gb0:=HI.out.box.cell 0
     have gf0:=HI.out.box.frozen 0
     simp at gb0
     by_cases he:(out2.length:Int)=l
     ·have Hfin:Hid (folP a k l ds=(out2,max m s)):=zh (by rw [Hstop.out he,Hlst2.out])
      have hbe:((out2.length:Int) == l)=true:=by rw [he]; simp
      clear he
      go_upto_region 12 with (fail)
      have H7:=zh (HI.out.after (max m s))
      clear HI
      generalize hw7:w6.setCell ⟨w.heap.size,0,none⟩ (.int .i64 (max m s))=w7 at *
      clear hw7
      have hb0:=H7.out.box.cell 0
      have hb1:=H7.out.box.cell 1
      have hr0:=H7.out.res.cell 0
      have hr1:=H7.out.res.cell 1
      have hf0:=H7.out.res.frozen 0
      have hf1:=H7.out.res.frozen 1
      simp at hb0 hb1 hr0 hr1
      have HD:=zh H7.out.done
      refine wp_region_ph_tail 3 (specOf []) (fun wx=>wx=w7.drew) (fun _=>True) (by kernel_rfl) (by kernel_rfl) (turns_of (by kernel_rfl)) rfl trivial ?_
      refine ph_fix 1 ?_ rfl (by rfl) (by rfl) (fun wx hC=>?_) ?_
      rotate_left
      ·subst hC
       go_simp
       all_goals with_reducible rfl
      try simp only [Act.put,zD,zE,zF]
      refine ph_fix 2 ?_ rfl (by rfl) (by rfl) (fun wx hC=>?_) ?_
      rotate_left
      ·subst hC
       go_simp
       all_goals with_reducible rfl
      try simp only [Act.put,zD,zE,zF]
      refine ph_fix 3 ?_ rfl (by rfl) (by rfl) (fun wx hC=>?_) ?_
      rotate_left
      ·subst hC
       go_simp
       all_goals with_reducible rfl
      try simp only [Act.put,zD,zE,zF]
      refine ph_nil (fun w9 hC hI=>?_)
      subst hC
      clear hI
      go_wp2
      exact bodyPost_ret (fol_results rfl rfl rfl HD.out.1) rfl (by rw [Hfin.out]; exact ⟨_,rfl,HD.out.2⟩)
     ·have hbe:((out2.length:Int) == l)=false:=by rw [beq_eq_false_iff_ne]; exact he
      have Hlt2:Hid ((out2.length:Int)<l):=zh (by have:=Hl2.out; omega)
      clear he
      go_wp2
      go_roundw
      case rel=>exact ⟨j+1,by omega,by go_num,by rw [Hys.out,Hlst2.out],by rw [Hys.out]; exact Hlt2.out,by rw [Hys.out]; exact HI.out⟩
      case measure=>simp [intOf]; omega
    ·have h1':¬ s≤a:=by omega
     have h2':k<s:=by omega
     have Hsn:Hid (sel a k (ds.take (j+1))=sel a k (ds.take j)):=zh (Hno.out (fun h=>h2 h.2))
     have Hlen:=zh hlen
     clear Hyes Hno h2 hlen
     go_wp2
     go_roundw
     case rel=>exact ⟨j+1,by omega,by go_num,by rw [Hsn.out],by rw [Hsn.out]; exact Hlen.out,by rw [Hsn.out]; exact HF.out⟩
     case measure=>simp [intOf]; omega
   ·have h1':s≤a:=by omega
    have Hsn:Hid (sel a k (ds.take (j+1))=sel a k (ds.take j)):=zh (Hno.out (fun h=>h1 h.1))
    have Hlen:=zh hlen
    clear Hyes Hno h1 hlen
    go_wp2
    go_roundw
    case rel=>exact ⟨j+1,by omega,by go_num,by rw [Hsn.out],by rw [Hsn.out]; exact Hlen.out,by rw [Hsn.out]; exact HF.out⟩
    case measure=>simp [intOf]; omega
  ·have Hfin:Hid (folP a k l ds=(sel a k (ds.take j),max a k)):=zh (fol_end j (by omega) (by rw [Hl.out]; omega) hlen)
   have HF:=zh hF
   have gf0:=hF.box.frozen 0
   obtain ⟨A6,c6,rfl,_⟩:=hF.own.read
   clear hF hlen
   generalize hm:lastP a (sel a k (ds.take j))=m at *
   clear hm
   generalize sel a k (ds.take j)=out at *
   go_upto_region 15 with (fail)
   have H7:=zh (HF.out.after (max a k))
   clear HF
   generalize hw7:wr.setCell ⟨w.heap.size,0,none⟩ (.int .i64 (max a k))=w7 at *
   clear hw7 hb0 hb1
   have hb0:=H7.out.box.cell 0
   have hb1:=H7.out.box.cell 1
   have hr0:=H7.out.res.cell 0
   have hr1:=H7.out.res.cell 1
   have hf0:=H7.out.res.frozen 0
   have hf1:=H7.out.res.frozen 1
   simp at hb0 hb1 hr0 hr1
   have HD:=zh H7.out.done
   refine wp_region_ph_tail 3 (specOf []) (fun wx=>wx=w7.drew) (fun _=>True) (by kernel_rfl) (by kernel_rfl) (turns_of (by kernel_rfl)) rfl trivial ?_
   refine ph_fix 1 ?_ rfl (by rfl) (by rfl) (fun wx hC=>?_) ?_
   rotate_left
   ·subst hC
    go_simp
    all_goals with_reducible rfl
   try simp only [Act.put,zD,zE,zF]
   refine ph_fix 2 ?_ rfl (by rfl) (by rfl) (fun wx hC=>?_) ?_
   rotate_left
   ·subst hC
    go_simp
    all_goals with_reducible rfl
   try simp only [Act.put,zD,zE,zF]
   refine ph_fix 3 ?_ rfl (by rfl) (by rfl) (fun wx hC=>?_) ?_
   rotate_left
   ·subst hC
    go_simp
    all_goals with_reducible rfl
   try simp only [Act.put,zD,zE,zF]
   refine ph_nil (fun w9 hC hI=>?_)
   subst hC
   clear hI
   go_wp2
   exact bodyPost_ret (fol_results rfl rfl rfl HD.out.1) rfl (by rw [Hfin.out]; exact ⟨_,rfl,HD.out.2⟩)
end Go.Proofs.YtmomjpolkkbhnaaGreat.Cu
end
