/- The model: expire, stats (printed by gen_mdg.py). -/
import Derived.Test.YtmomjpolkkbhnaaGreatQModelPagesRow21
import Derived.Test.YtmomjpolkkbhnaaGreatQModelPagesRow9
import Derived.Test.YtmomjpolkkbhnaaGreatQModelPagesRow0
set_option linter.unusedSimpArgs false
set_option linter.unusedVariables false
set_option maxRecDepth 20000
namespace Go.Proofs.YtmomjpolkkbhnaaGreat.Md
open Go.RowKit Ut Tk Qy Qp Ev
def front (m:M):Int:=if -9223372036854775808+m.c.retain≤m.now then max m.floor (m.now - m.c.retain) else m.floor
def expM (m:M):M:=if m.now=-9223372036854775808 then m else { m with floor:=front m }
def expC (m:M):Array Value:=if m.now=-9223372036854775808 then rsC 271 0 0 nil nil nil 0 0 0 0 else rsC 0 0 (front m) nil nil nil 0 0 0 0
section
variable {w:World} {n0 X K:Nat} {v:Value} {m:M}
set_option maxHeartbeats 3200000 in
theorem expire_any (h:At w n0 X K v m) (r:Rq) (z:Rw):Calls Tryz.prog 32 #[.pointer (some ⟨X,0,none⟩),.agg (rqC r z)] w (StP n0 X K v (expM m) w (expC m)):=by
 have hb:Below w.heap.size w ((w.alloc (.cells (rqC r z) 37)).alloc (.cells rs0 42)):=((Below.refl _ _).alloc (zG _) _).alloc (by simp) _
 have hq:=(Blk.new w 37 (rqC r z)).alloc (.cells rs0 42)
 have hr:=Blk.new (w.alloc (.cells (rqC r z) 37)) 42 rs0
 have z1:(w.alloc (.cells (rqC r z) 37)).heap.size=w.heap.size+1:=by simp
 rw [z1] at hr
 have H1:=zh (h.below hb)
 have HQ:=zh hq
 have HR:=zh hr
 have HB:=zh hb
 have hsw:w.heap.size+2≤(World.heap ((w.alloc (.cells (rqC r z) 37)).alloc (.cells rs0 42))).size:=by simp
 have hxl:=h.blk.lt
 have k9:=H1.out.blk.cell 9
 simp only [mdC,zA,zB,zC] at k9
 have hok:=h.ok
 have hc:=hok.c
 have hnw:=hok.nw
 have hfl:=hok.fl
 have hret:=hok.ret
 unfold okC I64 at *
 by_cases hle:m.now=-9223372036854775808
 ·have e1:expC m=rsC 271 0 0 nil nil nil 0 0 0 0:=if_pos hle
  have e2:expM m=m:=if_pos hle
  rw [e1,e2]
  have hlb:(m.now == -9223372036854775808)=true:=by simpa using hle
  clear h hb hq hr z1 hok e1 e2 hle
  go_enter Tryz.func32,Tryz.ntmps32
  go_upto_region 1 with (fail)
  generalize ((w.alloc (.cells (rqC r z) 37)).alloc (.cells rs0 42))=w1 at *
  go_wp2_with fail
  refine (fails_any 271 w1).mono ?_
  rintro e w3 ⟨rfl,hb3⟩
  have HB3:=zh hb3
  have H3:=zh (H1.out.below HB3.out)
  have HR3:=zh (HR.out.below HB3.out HR.out.lt)
  clear hb3
  have HX9:=zh (setRow_heap _ (w.heap.size+1) _ (rsC 271 0 0 nil nil nil 0 0 0 0) _ _ HR3.out)
  go_wp2_with (refine wpList_store_row (o:=⟨none,.store 42 _ _,_,_,_,_⟩) rfl 42 _ _ rfl (w.heap.size+1) (rsC 271 0 0 nil nil nil 0 0 0 0) rfl rfl 42 rs0 HR3.out (by kernel_rfl) rfl (by simp [rsC,Value.oneCell']) ?_)
  refine bodyPost_ret (results_cell rfl rfl (run_loadVar_row _ (w.heap.size+1) 42 42 _ (0,0) _ HX9.out Tryz.underlying42 rfl (by kernel_rfl))) rfl ?_
  exact ⟨rfl,H3.out.row HR3.out _,chg_row (chg_bl (HB.out.trans (HB3.out.mono HB.out.size))) (Nat.le_succ _) _⟩
 ·have e1:expC m=rsC 0 0 (front m) nil nil nil 0 0 0 0:=if_neg hle
  have e2:expM m={ m with floor:=front m }:=if_neg hle
  rw [e1,e2]
  have hlb:(m.now == -9223372036854775808)=false:=by simpa using hle
  have hwr:IntKind.i64.wrap (-9223372036854775808+m.c.retain)=-9223372036854775808+m.c.retain:=by rw [IntKind.wrap_i64]; omega
  have hgx:w.heap.size+1≠X:=by omega
  clear h hb hq hr z1 e1 e2 hle
  by_cases hge : -9223372036854775808+m.c.retain≤m.now
  ·have e3:front m=max m.floor (m.now - m.c.retain):=if_pos hge
   rw [e3]
   have hws:IntKind.i64.wrap (m.now - m.c.retain)=m.now - m.c.retain:=by rw [IntKind.wrap_i64]; omega
   have hmx : -9223372036854775808≤max m.floor (m.now - m.c.retain)∧max m.floor (m.now - m.c.retain)≤9223372036854775807:=by omega
   clear e3
   go_enter Tryz.func32,Tryz.ntmps32
   go_upto_region 1 with (fail)
   generalize ((w.alloc (.cells (rqC r z) 37)).alloc (.cells rs0 42))=w1 at *
   have k2:=H1.out.blk.cell 2
   simp only [mdC,zA,zB,zC] at k2
   go_upto_region 3 with (fail)
   go_quiet (fail)
   have HDN:=zh (below_dq (Below.refl w1.heap.size w1) nq)
   have H2:=zh (H1.out.below HDN.out)
   have HR2:=zh (HR.out.below HDN.out HR.out.lt)
   have HB2:=zh (HB.out.trans (HDN.out.mono HB.out.size))
   generalize w1.drewN nq=w2 at *
   have Hc:Hid (∀ wx,Below w2.heap.size w2 wx→wx.cell? ⟨X,8,none⟩=some (.int .i64 m.floor)∧wx.cell? ⟨X,9,none⟩=some (.int .i64 m.now)∧wx.cell? ⟨X,2,none⟩=some (.int .i64 m.c.retain)):=zh (fun wx hb=>by
    have r0:=(H2.out.below hb).blk.cell 8
    have r1:=(H2.out.below hb).blk.cell 9
    have r2:=(H2.out.below hb).blk.cell 2
    simp only [mdC,zA,zB,zC] at r0 r1 r2
    exact ⟨r0,r1,r2⟩)
   clear k9 k2
   go_upto_region 4 with (fail)
   refine wp_region_grow_tail 18 (specOf []) (fun wx=>Below w2.heap.size w2 wx) (fun w1 w2=>Below w1.heap.size w1 w2) (by kernel_rfl) (by kernel_rfl) (stab_nil) ((Below.refl _ _).drew) ?_
   simp only [List.take_succ_cons,List.take_zero,List.drop_succ_cons,List.drop_zero]
   iterate 18
    refine grow_fix _ ?_ rfl (by rfl) (by rfl) (fun wx hC hD=>?_) ?_
    rotate_left
    ·have hSw:=Hc.out wx hC
     go_simp
     all_goals with_reducible rfl
    try simp only [Act.put,zD,zE,zF]
   refine grow_nil (fun w3 hC hF=>?_)
   have H3:=zh (H2.out.below hC)
   have HR3:=zh (HR2.out.below hC HR2.out.lt)
   have HB3:=zh (HB2.out.trans (hC.mono HB2.out.size))
   have k8:=(H3.out.blk).cell 8
   have k8f:=(H3.out.blk).frozen 8
   simp only [mdC,zA,zB,zC] at k8
   clear hF hC Hc
   have HA4:=zh (H3.out.set (i:=8) (u:=.int .i64 (max m.floor (m.now - m.c.retain))) (m':={ m with floor:=max m.floor (m.now - m.c.retain) }) (by have:=H3.out.blk.set_ 8 (.int .i64 (max m.floor (m.now - m.c.retain))); simpa [mdC] using this) rfl ⟨hok.c,hok.ret,hok.doc,hmx,hok.nw,hok.ak⟩)
   have HR4:=zh (HR3.out.far (p:=⟨X,8,none⟩) hgx (.int .i64 (max m.floor (m.now - m.c.retain))))
   have HC4:=zh ((chg_bl (O:=fun b=>b=X) HB3.out).trans (chg_set _ X 8 (.int .i64 (max m.floor (m.now - m.c.retain)))) (fun x hx=>.inl hx))
   clear hok hc hnw hfl hret hmx hws hwr
   generalize max m.floor (m.now - m.c.retain)=fr at *
   go_upto_region 5 with (fail)
   generalize w3.setCell ⟨X,8,none⟩ (.int .i64 fr)=w4 at *
   have q8:=(HA4.out.blk).cell 8
   simp only [mdC,zA,zB,zC] at q8
   clear k8 k8f
   have HX9:=zh (setRow_heap _ (w.heap.size+1) _ (rsC 0 0 fr nil nil nil 0 0 0 0) _ _ HR4.out)
   go_wp2_with (refine wpList_store_row (o:=⟨none,.store 42 _ _,_,_,_,_⟩) rfl 42 _ _ rfl (w.heap.size+1) (rsC 0 0 fr nil nil nil 0 0 0 0) rfl rfl 42 rs0 HR4.out (by kernel_rfl) rfl (by simp [rsC,Value.oneCell']) ?_)
   refine bodyPost_ret (results_cell rfl rfl (run_loadVar_row _ (w.heap.size+1) 42 42 _ (0,0) _ HX9.out Tryz.underlying42 rfl (by kernel_rfl))) rfl ?_
   exact ⟨rfl,HA4.out.row HR4.out _,chg_row HC4.out (Nat.le_succ _) _⟩
  ·have e3:front m=m.floor:=if_neg hge
   rw [e3]
   have e4:({ m with floor:=m.floor }:M)=m:=rfl
   rw [e4]
   clear e3 e4
   go_enter Tryz.func32,Tryz.ntmps32
   go_upto_region 1 with (fail)
   generalize ((w.alloc (.cells (rqC r z) 37)).alloc (.cells rs0 42))=w1 at *
   have k2:=H1.out.blk.cell 2
   have k8:=H1.out.blk.cell 8
   simp only [mdC,zA,zB,zC] at k2 k8
   go_upto_region 3 with (fail)
   go_quiet (fail)
   have HDN:=zh (below_dq (Below.refl w1.heap.size w1) nq)
   have H2:=zh (H1.out.below HDN.out)
   have HR2:=zh (HR.out.below HDN.out HR.out.lt)
   have HB2:=zh (HB.out.trans (HDN.out.mono HB.out.size))
   have k8:=(H2.out.blk).cell 8
   simp only [mdC,zA,zB,zC] at k8
   generalize w1.drewN nq=w2 at *
   have HX9:=zh (setRow_heap _ (w.heap.size+1) _ (rsC 0 0 m.floor nil nil nil 0 0 0 0) _ _ HR2.out)
   go_wp2_with (refine wpList_store_row (o:=⟨none,.store 42 _ _,_,_,_,_⟩) rfl 42 _ _ rfl (w.heap.size+1) (rsC 0 0 m.floor nil nil nil 0 0 0 0) rfl rfl 42 rs0 HR2.out (by kernel_rfl) rfl (by simp [rsC,Value.oneCell']) ?_)
   refine bodyPost_ret (results_cell rfl rfl (run_loadVar_row _ (w.heap.size+1) 42 42 _ (0,0) _ HX9.out Tryz.underlying42 rfl (by kernel_rfl))) rfl ?_
   exact ⟨rfl,H2.out.row HR2.out _,chg_row (chg_bl HB2.out) (Nat.le_succ _) _⟩
def statC (m:M):Array Value:=rsC 0 0 m.floor nil nil nil (upL m (fun _=>true)).length ((m.ds.length:Nat)+1) m.now m.acked
def RdP (w:World) (cs:Array Value) (e:Ending) (w':World):Prop:=e=.returned (.agg cs)∧Below w.heap.size w w'
set_option maxHeartbeats 3200000 in
theorem stats_any (h:At w n0 X K v m) (hK:K≤60000) (r:Rq) (z:Rw):Calls Tryz.prog 37 #[.pointer (some ⟨X,0,none⟩),.agg (rqC r z)] w (RdP w (statC m)):=by
 obtain ⟨A8,c8,hv,_,_,_⟩:=h.docs
 subst hv
 have hb:Below w.heap.size w ((w.alloc (.cells (rqC r z) 37)).alloc (.cells rs0 42)):=((Below.refl _ _).alloc (zG _) _).alloc (by simp) _
 have hq:=(Blk.new w 37 (rqC r z)).alloc (.cells rs0 42)
 have hr:=Blk.new (w.alloc (.cells (rqC r z) 37)) 42 rs0
 have z1:(w.alloc (.cells (rqC r z) 37)).heap.size=w.heap.size+1:=by simp
 rw [z1] at hr
 have H1:=zh (h.below hb)
 have HQ:=zh hq
 have HR:=zh hr
 have HB:=zh hb
 have hsw:w.heap.size+2≤(World.heap ((w.alloc (.cells (rqC r z) 37)).alloc (.cells rs0 42))).size:=by simp
 have hxl:=h.blk.lt
 have CU:Hid (∀ wx,Below w.heap.size w wx→Calls Tryz.prog 72 #[.pointer (some ⟨X,0,none⟩),.func (.func 75) #[] #[]] wx (DocsPost wx (upL m (fun _=>true)))):=zh (fun wx hb=>up_any (h.below hb) hK 75 #[] (fun _=>true) (enters_of Tryz.func75 (by kernel_rfl) rfl) (fun d hd wy hb' Fa fc hF=>stats1_any d Fa fc wy))
 have hst:statC m=rsC 0 0 m.floor nil nil nil ((upL m (fun _=>true)).length:Nat) ((m.ds.length:Nat)+1) m.now m.acked:=rfl
 have hfew:=h.few
 rw [hst]
 generalize upL m (fun _=>true)=U at *
 clear h hb hq hr z1 hst
 go_enter Tryz.func37,Tryz.ntmps37
 go_upto_region 1 with (fail)
 generalize ((w.alloc (.cells (rqC r z) 37)).alloc (.cells rs0 42))=w1 at *
 go_wp2_with fail
 refine (CU.out w1 HB.out).mono ?_
 rintro e w2 ⟨v2,rfl,hD,hb2⟩
 obtain ⟨A3,c3,rfl,_⟩:=hD.read
 have H2:=zh (H1.out.below hb2)
 have HR2:=zh (HR.out.below hb2 HR.out.lt)
 have HB2:=zh (HB.out.trans (hb2.mono HB.out.size))
 have Hc:Hid (∀ wx,Below w2.heap.size w2 wx→wx.cell? ⟨X,7,none⟩=some (.slice A8 m.ds.length c8)∧wx.cell? ⟨X,8,none⟩=some (.int .i64 m.floor)∧wx.cell? ⟨X,9,none⟩=some (.int .i64 m.now)∧wx.cell? ⟨X,10,none⟩=some (.int .i64 m.acked)):=zh (fun wx hb=>by
  have r0:=(H2.out.below hb).blk.cell 7
  have r1:=(H2.out.below hb).blk.cell 8
  have r2:=(H2.out.below hb).blk.cell 9
  have r3:=(H2.out.below hb).blk.cell 10
  simp only [mdC,zA,zB,zC] at r0 r1 r2 r3
  exact ⟨r0,r1,r2,r3⟩)
 have hw:IntKind.i64.wrap (((m.ds.length:Nat):Int)+1)=((m.ds.length:Nat):Int)+1:=by rw [IntKind.wrap_i64]; omega
 clear hD hb2 CU
 go_upto_region 2 with (fail)
 refine wp_region_grow_tail 20 (specOf []) (fun wx=>Below w2.heap.size w2 wx) (fun w1 w2=>Below w1.heap.size w1 w2) (by kernel_rfl) (by kernel_rfl) (stab_nil) ((Below.refl _ _).drew) ?_
 simp only [List.take_succ_cons,List.take_zero,List.drop_succ_cons,List.drop_zero]
 iterate 20
  refine grow_fix _ ?_ rfl (by rfl) (by rfl) (fun wx hC hD=>?_) ?_
  rotate_left
  ·have hSw:=Hc.out wx hC
   go_simp
   all_goals with_reducible rfl
  try simp only [Act.put,zD,zE,zF]
 refine grow_nil (fun w3 hC hF=>?_)
 have HR3:=zh (HR2.out.below hC HR2.out.lt)
 have HB3:=zh (HB2.out.trans (hC.mono HB2.out.size))
 clear hF hC Hc
 have HX9:=zh (setRow_heap _ (w.heap.size+1) _ (rsC 0 0 m.floor nil nil nil (U.length:Nat) ((m.ds.length:Nat)+1) m.now m.acked) _ _ HR3.out)
 go_wp2_with (refine wpList_store_row (o:=⟨none,.store 42 _ _,_,_,_,_⟩) rfl 42 _ _ rfl (w.heap.size+1) (rsC 0 0 m.floor nil nil nil (U.length:Nat) ((m.ds.length:Nat)+1) m.now m.acked) rfl rfl 42 rs0 HR3.out (by kernel_rfl) rfl (by simp [rsC,Value.oneCell']) ?_)
 refine bodyPost_ret (results_cell rfl rfl (run_loadVar_row _ (w.heap.size+1) 42 42 _ (0,0) _ HX9.out Tryz.underlying42 rfl (by kernel_rfl))) rfl ?_
 exact ⟨rfl,below_setRow HB3.out (Nat.le_succ _) _⟩
end
end Go.Proofs.YtmomjpolkkbhnaaGreat.Md


