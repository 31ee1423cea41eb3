/- The model: what calls leave as it was; sync, tick, nothing, expire, stats (printed by gen_mdf.py). -/
import Derived.Laws.Tables
import Derived.Test.YtmomjpolkkbhnaaGreatQModelCountsRow19
set_option linter.unusedSimpArgs false
set_option linter.unusedVariables false
set_option maxRecDepth 20000
set_option maxHeartbeats 100000000
open Go.Proofs.Tryz
namespace Go.Proofs.YtmomjpolkkbhnaaGreat
namespace Md
open Go.RowKit Ut Tk Qy Qp Ev
structure Rq where
 op:Int
 evs:List Evn
 dur:Bool
 now:Int
 q:ByteArray
 frm:Int
 til:Int
 lim:Int
 width:Int
 after:Int
 cur:List UInt8
structure Rw where
 E:Option Addr
 en:Nat
 ec:Nat
 C:Option Addr
 cn:Nat
 cc:Nat
abbrev rqC(r:Rq)(z:Rw):Array Value:=#[.int .i64 r.op,.slice z.E z.en z.ec,.bool r.dur,.int .i64 r.now,.string r.q,.int .i64 r.frm,.int .i64 r.til,.int .i64 r.lim,.int .i64 r.width,.int .i64 r.after,.slice z.C z.cn z.cc]
abbrev rs0:Array Value:=rsC 0 0 0 nil nil nil 0 0 0 0
theorem lM{w w':World}{n0:Nat}{v:Value}{ds:List Dc}(h:DOwn w n0 v ds)(hk:∀b,(Tg w 48 b∨Tg w 85 b)→w'.heap[b]?=w.heap[b]?):DOwn w' n0 v ds:=by
 obtain⟨vss,g1,g2,g3⟩:=h.ex;exact⟨vss,g1,cT g2 (fun b hb=>hk b (.inl (aY g2 hb))),fun i a b=>(g3 i a b).same (fun b hS=>⟨⟨hS.1,hS.2.same (hk b (.inr hS.2))⟩,hk b (.inr hS.2)⟩)⟩
theorem At.kp{w w':World}{n0 X K:Nat}{v:Value}{m:M}(h:At w n0 X K v m)(hs:w.heap.size≤w'.heap.size)(hk:∀b,(Tg w 81 b∨Tg w 48 b∨Tg w 85 b)→w'.heap[b]?=w.heap[b]?):At w' n0 X K v m:=
 ⟨(hk X (.inl ⟨_,_,h.blk⟩)).trans h.blk,lM h.own (fun b hb=>hk b (.inr hb)),zY h.n0 hs,h.ok,h.few⟩
theorem At.row{w:World}{n0 X K g:Nat}{v:Value}{m:M}{cs:Array Value}(h:At w n0 X K v m)(hg:Blk w g 42 cs)(cs':Array Value):At (w.setRow g cs') n0 X K v m:=
 h.kp jz (fun b hb=>vJ w g b cs' (fun e=>by
  subst e;rcases hb with hb|hb|hb
  ·exact absurd (hb.one ⟨_,_,hg⟩) jd
  ·exact absurd (hb.one ⟨_,_,hg⟩) jd
  exact absurd (hb.one ⟨_,_,hg⟩) jd))
theorem At.set{w:World}{n0 X K:Nat}{v u:Value}{m m':M}{i:Nat}(h:At w n0 X K v m)(hb:Blk (w.setCell ⟨X,i,none⟩ u) X 81 (mdC m' v))(hd:m'.ds=m.ds)(ok:Ok m'):At (w.setCell ⟨X,i,none⟩ u) n0 X K v m':=by
 refine⟨hb,?_,by simpa[World.setCell]using h.n0,ok,by rw[hd];exact h.few⟩;rw[hd];refine lM h.own (fun b hT=>vL _ _ _ _ (fun e=>?_));have e:b=X:=e;subst e;rcases hT with hT|hT
 ·exact absurd (hT.one ⟨_,_,h.blk⟩) jd
 exact absurd (hT.one ⟨_,_,h.blk⟩) jd
theorem lI(w:World)(X i:Nat)(u:Value):Chg (fun b=>b=X) w (w.setCell ⟨X,i,none⟩ u):=⟨rfl,rfl,rfl,by simp[World.setCell],fun k hk hn=>vL _ _ _ _ (fun e=>hn e)⟩
theorem bW{O:Nat→Prop}{w W:World}{g:Nat}(h:Chg O w W)(hg:w.heap.size≤g)(cs:Array Value):Chg O w (W.setRow g cs):=
 h.trans (O':=fun b=>b=g) ⟨rfl,rfl,rfl,jz,fun k hk hn=>vJ _ _ _ _ (fun e=>hn e)⟩ (fun x hx=>.inr (by rw[hx];exact hg))
def StP(n0 X K:Nat)(v:Value)(m':M)(w:World)(cs:Array Value)(e:Ending)(w':World):Prop:=e=.returned (.agg cs)∧At w' n0 X K v m'∧Chg (fun b=>b=X) w w'
theorem bh{O:Nat→Prop}{w w':World}(h:zWW w w'):Chg O w w':=Chg.of_new h
theorem jW{B:Nat}{w0 w:World}(h:Below B w0 w)(n:Nat):Below B w0 (w.drewN n):=⟨h.os,h.tape,h.output,h.size,h.block⟩
section
variable {w:World} {n0 X K:Nat} {v:Value} {m:M}
theorem sJ(h:At w n0 X K v m)(r:Rq)(z:Rw):Calls prog 31 #[.pointer (some ⟨X,0,none⟩),.agg (rqC r z)] w (StP n0 X K v m w rs0):=by
 have hb:zWW w ((w.alloc (.cells (rqC r z) 37)).alloc (.cells rs0 42)):=(zRR _).alloc jz _;have hq:=(Blk.new w 37 (rqC r z)).alloc (.cells rs0 42);have hr:=Blk.new (w.alloc (.cells (rqC r z) 37)) 42 rs0;have z1:(w.alloc (.cells (rqC r z) 37)).heap.size=w.heap.size+1:=jz;rw[z1]at hr;have H1:=zh (h.below hb);have HQ:=zh hq;have HR:=zh hr;have HB:=zh hb;have hsw:w.heap.size+2≤(World.heap ((w.alloc (.cells (rqC r z) 37)).alloc (.cells rs0 42))).size:=jz;have hxl:=h.blk.lt;clear h hb hq hr z1;go_enter func31,ntmps31
 go_upto_region 1 with(fail);generalize ((w.alloc (.cells (rqC r z) 37)).alloc (.cells rs0 42))=w1 at *;have HX9:=zh (zx _ (w.heap.size+1) _ (rs0) _ _ HR.out);go_wp2_with (refine zv (o:=⟨none,.store 42 _ _,_,_,_,_⟩) rfl 42 _ _ rfl (w.heap.size+1) (rs0) rfl rfl 42 rs0 HR.out jk rfl (by simp[rsC,Value.oneCell']) ?_);refine zu (aA rfl rfl (zr _ (w.heap.size+1) 42 42 _ (0,0) _ HX9.out underlying42 rfl jk)) rfl ?_;exact⟨rfl,H1.out.row HR.out _,bW (bh HB.out) (zZ _) _⟩
theorem FT(h:At w n0 X K v m)(r:Rq)(z:Rw):Calls prog 29 #[.pointer (some ⟨X,0,none⟩),.agg (rqC r z)] w (StP n0 X K v { m with acked:=(m.ds.length:Nat) } w rs0):=by
 obtain⟨A8,c8,hv,_,_,_⟩:=h.docs;subst hv;have hb:zWW w ((w.alloc (.cells (rqC r z) 37)).alloc (.cells rs0 42)):=(zRR _).alloc jz _;have hq:=(Blk.new w 37 (rqC r z)).alloc (.cells rs0 42);have hr:=Blk.new (w.alloc (.cells (rqC r z) 37)) 42 rs0;have z1:(w.alloc (.cells (rqC r z) 37)).heap.size=w.heap.size+1:=jz;rw[z1]at hr;have H1:=zh (h.below hb);have HQ:=zh hq;have HR:=zh hr;have HB:=zh hb;have hsw:w.heap.size+2≤(World.heap ((w.alloc (.cells (rqC r z) 37)).alloc (.cells rs0 42))).size:=jz;have hxl:=h.blk.lt;have k7:=H1.out.blk.cell 7;have k10:=H1.out.blk.cell 10;have k10f:=H1.out.blk.frozen 10;have hok:=h.ok;simp only[mdC,zA,zB,zC]at k7 k10;have HA2:=zh (H1.out.set (i:=10) (u:=.int .i64 (m.ds.length:Nat)) (m':={ m with acked:=(m.ds.length:Nat) }) (by have:=H1.out.blk.set_ 10 (.int .i64 (m.ds.length:Nat));simpa[mdC]using this) rfl ⟨hok.c,hok.ret,hok.doc,hok.fl,hok.nw,⟨Int.natCast_nonneg _,Int.le_refl _⟩⟩);have hgx:w.heap.size+1≠X:=jo;have HR2:=zh (HR.out.far (p:=⟨X,10,none⟩) hgx (.int .i64 (m.ds.length:Nat)));have HC2:=zh ((bh (O:=fun b=>b=X) HB.out).trans (lI _ X 10 (.int .i64 (m.ds.length:Nat))) (fun x hx=>.inl hx));clear h hb hq hr z1 hok;go_enter func29,ntmps29
 go_upto_region 1 with(fail);generalize ((w.alloc (.cells (rqC r z) 37)).alloc (.cells rs0 42))=w1 at *
 go_upto_region 2 with(fail);generalize w1.setCell ⟨X,10,none⟩ (.int .i64 (m.ds.length:Nat))=w2 at *;clear k7 k10 k10f;have HX9:=zh (zx _ (w.heap.size+1) _ (rs0) _ _ HR2.out);go_wp2_with (refine zv (o:=⟨none,.store 42 _ _,_,_,_,_⟩) rfl 42 _ _ rfl (w.heap.size+1) (rs0) rfl rfl 42 rs0 HR2.out jk rfl (by simp[rsC,Value.oneCell']) ?_);refine zu (aA rfl rfl (zr _ (w.heap.size+1) 42 42 _ (0,0) _ HX9.out underlying42 rfl jk)) rfl ?_;exact⟨rfl,HA2.out.row HR2.out _,bW HC2.out (zZ _) _⟩
def gB(m:M)(n:Int):Int:=if n≤m.now then 271 else 0
def gm(m:M)(n:Int):M:=if n≤m.now then m else { m with now:=n }
theorem FU(h:At w n0 X K v m)(r:Rq)(z:Rw)(hn:I64 r.now):Calls prog 30 #[.pointer (some ⟨X,0,none⟩),.agg (rqC r z)] w (StP n0 X K v (gm m r.now) w (rsC (gB m r.now) 0 0 nil nil nil 0 0 0 0)):=by
 have hb:zWW w ((w.alloc (.cells (rqC r z) 37)).alloc (.cells rs0 42)):=(zRR _).alloc jz _;have hq:=(Blk.new w 37 (rqC r z)).alloc (.cells rs0 42);have hr:=Blk.new (w.alloc (.cells (rqC r z) 37)) 42 rs0;have z1:(w.alloc (.cells (rqC r z) 37)).heap.size=w.heap.size+1:=jz;rw[z1]at hr;have H1:=zh (h.below hb);have HQ:=zh hq;have HR:=zh hr;have HB:=zh hb;have hsw:w.heap.size+2≤(World.heap ((w.alloc (.cells (rqC r z) 37)).alloc (.cells rs0 42))).size:=jz;have hxl:=h.blk.lt;have k9:=H1.out.blk.cell 9;have k9f:=H1.out.blk.frozen 9;have q3:=HQ.out.cell 3;simp only[mdC,rqC,zA,zB,zC]at k9 q3;have hok:=h.ok;by_cases hle:r.now≤m.now
 ·have e1:gB m r.now=271:=zI hle;have e2:gm m r.now=m:=zI hle;rw[e1,e2];clear h hb hq hr z1 hok e1 e2;go_enter func30,ntmps30
  go_upto_region 1 with(fail);generalize ((w.alloc (.cells (rqC r z) 37)).alloc (.cells rs0 42))=w1 at *;go_quiet (fail);have HDN:=zh (jW (zw w1.heap.size w1) nq);generalize w1.drewN nq=w2 at *;go_wp2_with fail;refine(dK 271 w2).mono ?_;rintro e w3 ⟨rfl,hb3⟩;have HB3:=zt HDN hb3;have H3:=zh (H1.out.below HB3.out);have HR3:=zh (HR.out.below HB3.out HR.out.lt);clear hb3;have HX9:=zh (zx _ (w.heap.size+1) _ (rsC 271 0 0 nil nil nil 0 0 0 0) _ _ HR3.out);go_wp2_with (refine zv (o:=⟨none,.store 42 _ _,_,_,_,_⟩) rfl 42 _ _ rfl (w.heap.size+1) (rsC 271 0 0 nil nil nil 0 0 0 0) rfl rfl 42 rs0 HR3.out jk rfl (by simp[rsC,Value.oneCell']) ?_);refine zu (aA rfl rfl (zr _ (w.heap.size+1) 42 42 _ (0,0) _ HX9.out underlying42 rfl jk)) rfl ?_;exact⟨rfl,H3.out.row HR3.out _,bW (bh (HB.out.trans (HB3.out.mono HB.out.size))) (zZ _) _⟩
 have e1:gB m r.now=0:=zH hle;have e2:gm m r.now={ m with now:=r.now }:=zH hle;rw[e1,e2];clear h hb hq hr z1 e1 e2;go_enter func30,ntmps30
 go_upto_region 1 with(fail);generalize ((w.alloc (.cells (rqC r z) 37)).alloc (.cells rs0 42))=w1 at *;go_quiet (fail);have HDN:=zh (jW (zw w1.heap.size w1) nq);have k9:=(HDN.out.cell (p:=⟨X,9,none⟩) H1.out.blk.lt).trans k9;have k9f:=(H1.out.below HDN.out).blk.frozen 9;have q3:=(HDN.out.cell (p:=⟨w.heap.size,3,none⟩) HQ.out.lt).trans q3;have H2:=zh (H1.out.below HDN.out);have HR2:=zh (HR.out.below HDN.out HR.out.lt);have HB2:=zh (HB.out.trans (HDN.out.mono HB.out.size));generalize w1.drewN nq=w2 at *;have hgx:w.heap.size+1≠X:=jo;have HA3:=zh (H2.out.set (i:=9) (u:=.int .i64 r.now) (m':={ m with now:=r.now }) (by have:=H2.out.blk.set_ 9 (.int .i64 r.now);simpa[mdC]using this) rfl ⟨hok.c,hok.ret,hok.doc,hok.fl,hn,hok.ak⟩);have HR3:=zh (HR2.out.far (p:=⟨X,9,none⟩) hgx (.int .i64 r.now));have HC3:=zh ((bh (O:=fun b=>b=X) HB2.out).trans (lI _ X 9 (.int .i64 r.now)) (fun x hx=>.inl hx));clear hok
 go_upto_region 4 with(fail);generalize w2.setCell ⟨X,9,none⟩ (.int .i64 r.now)=w3 at *;clear k9 k9f q3;have HX9:=zh (zx _ (w.heap.size+1) _ (rs0) _ _ HR3.out);go_wp2_with (refine zv (o:=⟨none,.store 42 _ _,_,_,_,_⟩) rfl 42 _ _ rfl (w.heap.size+1) (rs0) rfl rfl 42 rs0 HR3.out jk rfl (by simp[rsC,Value.oneCell']) ?_);refine zu (aA rfl rfl (zr _ (w.heap.size+1) 42 42 _ (0,0) _ HX9.out underlying42 rfl jk)) rfl ?_;exact⟨rfl,HA3.out.row HR3.out _,bW HC3.out (zZ _) _⟩
end
end Md

namespace Md
open Go.RowKit Ut Tk Qy Qp Ev
def fG(m:M):Int:=if -9223372036854775808+m.c.retain≤m.now then max m.floor (m.now-m.c.retain)else m.floor
def gq(m:M):M:=if m.now=-9223372036854775808 then m else { m with floor:=fG m }
def fZ(m:M):Array Value:=if m.now=-9223372036854775808 then rsC 271 0 0 nil nil nil 0 0 0 0 else rsC 0 0 (fG m) nil nil nil 0 0 0 0
section
variable {w:World} {n0 X K:Nat} {v:Value} {m:M}
theorem Bw(h:At w n0 X K v m)(r:Rq)(z:Rw):Calls prog 32 #[.pointer (some ⟨X,0,none⟩),.agg (rqC r z)] w (StP n0 X K v (gq m) w (fZ m)):=by
 have hb:zWW w ((w.alloc (.cells (rqC r z) 37)).alloc (.cells rs0 42)):=(zRR _).alloc jz _;have hq:=(Blk.new w 37 (rqC r z)).alloc (.cells rs0 42);have hr:=Blk.new (w.alloc (.cells (rqC r z) 37)) 42 rs0;have z1:(w.alloc (.cells (rqC r z) 37)).heap.size=w.heap.size+1:=jz;rw[z1]at hr;have H1:=zh (h.below hb);have HQ:=zh hq;have HR:=zh hr;have HB:=zh hb;have hsw:w.heap.size+2≤(World.heap ((w.alloc (.cells (rqC r z) 37)).alloc (.cells rs0 42))).size:=jz;have hxl:=h.blk.lt;have k9:=H1.out.blk.cell 9;simp only[mdC,zA,zB,zC]at k9;have hok:=h.ok;have hc:=hok.c;have hnw:=hok.nw;have hfl:=hok.fl;have hret:=hok.ret;unfold okC I64 at *;by_cases hle:m.now=-9223372036854775808
 ·have e1:fZ m=rsC 271 0 0 nil nil nil 0 0 0 0:=zI hle;have e2:gq m=m:=zI hle;rw[e1,e2];have hlb:(m.now == -9223372036854775808)=true:=by simpa using hle
  clear h hb hq hr z1 hok e1 e2 hle;go_enter func32,ntmps32
  go_upto_region 1 with(fail);generalize ((w.alloc (.cells (rqC r z) 37)).alloc (.cells rs0 42))=w1 at *;go_wp2_with fail;refine(dK 271 w1).mono ?_;rintro e w3 ⟨rfl,hb3⟩;have HB3:=zh hb3;have H3:=zh (H1.out.below HB3.out);have HR3:=zh (HR.out.below HB3.out HR.out.lt);clear hb3;have HX9:=zh (zx _ (w.heap.size+1) _ (rsC 271 0 0 nil nil nil 0 0 0 0) _ _ HR3.out);go_wp2_with (refine zv (o:=⟨none,.store 42 _ _,_,_,_,_⟩) rfl 42 _ _ rfl (w.heap.size+1) (rsC 271 0 0 nil nil nil 0 0 0 0) rfl rfl 42 rs0 HR3.out jk rfl (by simp[rsC,Value.oneCell']) ?_);refine zu (aA rfl rfl (zr _ (w.heap.size+1) 42 42 _ (0,0) _ HX9.out underlying42 rfl jk)) rfl ?_;exact⟨rfl,H3.out.row HR3.out _,bW (bh (HB.out.trans (HB3.out.mono HB.out.size))) (zZ _) _⟩
 have e1:fZ m=rsC 0 0 (fG m) nil nil nil 0 0 0 0:=zH hle;have e2:gq m={ m with floor:=fG m }:=zH hle;rw[e1,e2];have hlb:(m.now == -9223372036854775808)=false:=by simpa using hle
 have hwr:IntKind.i64.wrap (-9223372036854775808+m.c.retain)=-9223372036854775808+m.c.retain:=by rw[IntKind.wrap_i64];omega
 have hgx:w.heap.size+1≠X:=jo;clear h hb hq hr z1 e1 e2 hle;by_cases hge : -9223372036854775808+m.c.retain≤m.now
 ·have e3:fG m=max m.floor (m.now-m.c.retain):=zI hge;rw[e3];have hws:IntKind.i64.wrap (m.now-m.c.retain)=m.now-m.c.retain:=by rw[IntKind.wrap_i64];omega
  have hmx : -9223372036854775808≤max m.floor (m.now-m.c.retain)∧max m.floor (m.now-m.c.retain)≤9223372036854775807:=jo;clear e3;go_enter func32,ntmps32
  go_upto_region 1 with(fail);generalize ((w.alloc (.cells (rqC r z) 37)).alloc (.cells rs0 42))=w1 at *;have k2:=H1.out.blk.cell 2;simp only[mdC,zA,zB,zC]at k2
  go_upto_region 3 with(fail);go_quiet (fail);have HDN:=zh (jW (zw w1.heap.size w1) nq);have H2:=zh (H1.out.below HDN.out);have HR2:=zh (HR.out.below HDN.out HR.out.lt);have HB2:=zh (HB.out.trans (HDN.out.mono HB.out.size));generalize w1.drewN nq=w2 at *
  have Hc:Hid (∀wx,zWW w2 wx→wx.cell? ⟨X,8,none⟩=some (.int .i64 m.floor)∧wx.cell? ⟨X,9,none⟩=some (.int .i64 m.now)∧wx.cell? ⟨X,2,none⟩=some (.int .i64 m.c.retain)):=zh (fun wx hb=>by
   have r0:=(H2.out.below hb).blk.cell 8;have r1:=(H2.out.below hb).blk.cell 9;have r2:=(H2.out.below hb).blk.cell 2;simp only[mdC,zA,zB,zC]at r0 r1 r2
   exact⟨r0,r1,r2⟩)
  clear k9 k2
  go_upto_region 4 with(fail);refine dm 18 (aI []) (fun wx=>zWW w2 wx) (fun w1 w2=>zWW w1 w2) jk jk (aX) ((zw _ _).drew) ?_;simp only[zX,List.take_zero,zm,List.drop_zero]
  iterate 18
   refine aH _ ?_ rfl jr jr (fun wx hC hD=>?_) ?_;rotate_left
   ·have hSw:=Hc.out wx hC;go_simp;all_goals with_reducible rfl
   try simp only[Act.put,zD,zE,zF]
  refine ah (fun w3 hC hF=>?_);have H3:=zh (H2.out.below hC);have HR3:=zb HR2 hC;have HB3:=zt HB2 hC;have k8:=(H3.out.blk).cell 8;have k8f:=(H3.out.blk).frozen 8;simp only[mdC,zA,zB,zC]at k8;clear hF hC Hc;have HA4:=zh (H3.out.set (i:=8) (u:=.int .i64 (max m.floor (m.now-m.c.retain))) (m':={ m with floor:=max m.floor (m.now-m.c.retain) }) (by have:=H3.out.blk.set_ 8 (.int .i64 (max m.floor (m.now-m.c.retain)));simpa[mdC]using this) rfl ⟨hok.c,hok.ret,hok.doc,hmx,hok.nw,hok.ak⟩);have HR4:=zh (HR3.out.far (p:=⟨X,8,none⟩) hgx (.int .i64 (max m.floor (m.now-m.c.retain))));have HC4:=zh ((bh (O:=fun b=>b=X) HB3.out).trans (lI _ X 8 (.int .i64 (max m.floor (m.now-m.c.retain)))) (fun x hx=>.inl hx));clear hok hc hnw hfl hret hmx hws hwr;generalize max m.floor (m.now-m.c.retain)=fr at *
  go_upto_region 5 with(fail);generalize w3.setCell ⟨X,8,none⟩ (.int .i64 fr)=w4 at *;have q8:=(HA4.out.blk).cell 8;simp only[mdC,zA,zB,zC]at q8;clear k8 k8f;have HX9:=zh (zx _ (w.heap.size+1) _ (rsC 0 0 fr nil nil nil 0 0 0 0) _ _ HR4.out);go_wp2_with (refine zv (o:=⟨none,.store 42 _ _,_,_,_,_⟩) rfl 42 _ _ rfl (w.heap.size+1) (rsC 0 0 fr nil nil nil 0 0 0 0) rfl rfl 42 rs0 HR4.out jk rfl (by simp[rsC,Value.oneCell']) ?_);refine zu (aA rfl rfl (zr _ (w.heap.size+1) 42 42 _ (0,0) _ HX9.out underlying42 rfl jk)) rfl ?_;exact⟨rfl,HA4.out.row HR4.out _,bW HC4.out (zZ _) _⟩
 have e3:fG m=m.floor:=zH hge;rw[e3];have e4:({ m with floor:=m.floor }:M)=m:=rfl;rw[e4];clear e3 e4;go_enter func32,ntmps32
 go_upto_region 1 with(fail);generalize ((w.alloc (.cells (rqC r z) 37)).alloc (.cells rs0 42))=w1 at *;have k2:=H1.out.blk.cell 2;have k8:=H1.out.blk.cell 8;simp only[mdC,zA,zB,zC]at k2 k8
 go_upto_region 3 with(fail);go_quiet (fail);have HDN:=zh (jW (zw w1.heap.size w1) nq);have H2:=zh (H1.out.below HDN.out);have HR2:=zh (HR.out.below HDN.out HR.out.lt);have HB2:=zh (HB.out.trans (HDN.out.mono HB.out.size));have k8:=(H2.out.blk).cell 8;simp only[mdC,zA,zB,zC]at k8;generalize w1.drewN nq=w2 at *;have HX9:=zh (zx _ (w.heap.size+1) _ (rsC 0 0 m.floor nil nil nil 0 0 0 0) _ _ HR2.out);go_wp2_with (refine zv (o:=⟨none,.store 42 _ _,_,_,_,_⟩) rfl 42 _ _ rfl (w.heap.size+1) (rsC 0 0 m.floor nil nil nil 0 0 0 0) rfl rfl 42 rs0 HR2.out jk rfl (by simp[rsC,Value.oneCell']) ?_);refine zu (aA rfl rfl (zr _ (w.heap.size+1) 42 42 _ (0,0) _ HX9.out underlying42 rfl jk)) rfl ?_;exact⟨rfl,H2.out.row HR2.out _,bW (bh HB2.out) (zZ _) _⟩
def fH(m:M):Array Value:=rsC 0 0 m.floor nil nil nil (upL m (fun _=>true)).length ((m.ds.length:Nat)+1) m.now m.acked
def RdP(w:World)(cs:Array Value)(e:Ending)(w':World):Prop:=e=.returned (.agg cs)∧zWW w w'
theorem Dm(h:At w n0 X K v m)(hK:K≤60000)(r:Rq)(z:Rw):Calls prog 37 #[.pointer (some ⟨X,0,none⟩),.agg (rqC r z)] w (RdP w (fH m)):=by
 obtain⟨A8,c8,hv,_,_,_⟩:=h.docs;subst hv;have hb:zWW w ((w.alloc (.cells (rqC r z) 37)).alloc (.cells rs0 42)):=(zRR _).alloc jz _;have hq:=(Blk.new w 37 (rqC r z)).alloc (.cells rs0 42);have hr:=Blk.new (w.alloc (.cells (rqC r z) 37)) 42 rs0;have z1:(w.alloc (.cells (rqC r z) 37)).heap.size=w.heap.size+1:=jz;rw[z1]at hr;have H1:=zh (h.below hb);have HQ:=zh hq;have HR:=zh hr;have HB:=zh hb;have hsw:w.heap.size+2≤(World.heap ((w.alloc (.cells (rqC r z) 37)).alloc (.cells rs0 42))).size:=jz;have hxl:=h.blk.lt;have CU:Hid (∀wx,zWW w wx→Calls prog 72 #[.pointer (some ⟨X,0,none⟩),.func (.func 75) #[] #[]] wx (kw wx (upL m (fun _=>true)))):=zh (fun wx hb=>qi (h.below hb) hK 75 #[] (fun _=>true) (enters_of func75 jk rfl) (fun d hd wy hb' Fa fc hF=>Bv d Fa fc wy));have hst:fH m=rsC 0 0 m.floor nil nil nil ((upL m (fun _=>true)).length:Nat) ((m.ds.length:Nat)+1) m.now m.acked:=rfl;have hfew:=h.few;rw[hst];generalize upL m (fun _=>true)=U at *;clear h hb hq hr z1 hst;go_enter func37,ntmps37
 go_upto_region 1 with(fail);generalize ((w.alloc (.cells (rqC r z) 37)).alloc (.cells rs0 42))=w1 at *;go_wp2_with fail;refine(CU.out w1 HB.out).mono ?_;rintro e w2 ⟨v2,rfl,hD,hb2⟩;obtain⟨A3,c3,rfl,_⟩:=hD.read;have H2:=zh (H1.out.below hb2);have HR2:=zb HR hb2;have HB2:=zt HB hb2
 have Hc:Hid (∀wx,zWW w2 wx→wx.cell? ⟨X,7,none⟩=some (.slice A8 m.ds.length c8)∧wx.cell? ⟨X,8,none⟩=some (.int .i64 m.floor)∧wx.cell? ⟨X,9,none⟩=some (.int .i64 m.now)∧wx.cell? ⟨X,10,none⟩=some (.int .i64 m.acked)):=zh (fun wx hb=>by
  have r0:=(H2.out.below hb).blk.cell 7;have r1:=(H2.out.below hb).blk.cell 8;have r2:=(H2.out.below hb).blk.cell 9;have r3:=(H2.out.below hb).blk.cell 10;simp only[mdC,zA,zB,zC]at r0 r1 r2 r3
  exact⟨r0,r1,r2,r3⟩)
 have hw:IntKind.i64.wrap (((m.ds.length:Nat):Int)+1)=((m.ds.length:Nat):Int)+1:=by rw[IntKind.wrap_i64];omega
 clear hD hb2 CU
 go_upto_region 2 with(fail);refine dm 20 (aI []) (fun wx=>zWW w2 wx) (fun w1 w2=>zWW w1 w2) jk jk (aX) ((zw _ _).drew) ?_;simp only[zX,List.take_zero,zm,List.drop_zero]
 iterate 20
  refine aH _ ?_ rfl jr jr (fun wx hC hD=>?_) ?_;rotate_left
  ·have hSw:=Hc.out wx hC;go_simp;all_goals with_reducible rfl
  try simp only[Act.put,zD,zE,zF]
 refine ah (fun w3 hC hF=>?_);have HR3:=zb HR2 hC;have HB3:=zt HB2 hC;clear hF hC Hc;have HX9:=zh (zx _ (w.heap.size+1) _ (rsC 0 0 m.floor nil nil nil (U.length:Nat) ((m.ds.length:Nat)+1) m.now m.acked) _ _ HR3.out);go_wp2_with (refine zv (o:=⟨none,.store 42 _ _,_,_,_,_⟩) rfl 42 _ _ rfl (w.heap.size+1) (rsC 0 0 m.floor nil nil nil (U.length:Nat) ((m.ds.length:Nat)+1) m.now m.acked) rfl rfl 42 rs0 HR3.out jk rfl (by simp[rsC,Value.oneCell']) ?_);refine zu (aA rfl rfl (zr _ (w.heap.size+1) 42 42 _ (0,0) _ HX9.out underlying42 rfl jk)) rfl ?_;exact⟨rfl,zz HB3.out (zZ _) _⟩
end
end Md

namespace Md
open Go.RowKit Ut Tk Qy Qp Ev
theorem KQ{K:Nat}{q:Q}(h:QW K q):QSz q:=by
 induction h with
 | mk h1 h2 h3 ih=>exact .mk h1 h2 ih
theorem iy{s:P}{E:Int}{o:Option Q}(h:PrsR s E o):(E=0∧∃q,o=some q∧QSz q)∨(E≠0∧o=none):=by
 cases h with
 | @ok l q h hp hr hm hd=>
  have h1:=o7 s.length s l (zG _) hp;have h2:=oG s.length s l (zG _) hp;obtain⟨K,_,hK⟩:=qK hr (fun x hx=>by have:=(h1 x hx).2;omega) jo;exact .inl ⟨rfl,q,rfl,KQ hK⟩
 | _=>exact .inr ⟨jd,rfl⟩
def SeR(base:Nat)(w':World)(m:M)(r:Rq)(cs:Array Value):Prop:=∃E o,PrsR r.q.data.toList E o∧((E≠0∧cs=rsC E 0 0 nil nil nil 0 0 0 0)∨(E=0∧bz r.lim=false∧cs=rsC 1 0 0 nil nil nil 0 0 0 0) ∨
 (∃q D A c,E=0∧o=some q∧bz r.lim=true∧ByT (upL m (inB r.frm r.til q)) D∧DOwn w' base (.slice A D.length c) D∧cs=rsC 0 0 0 (.slice A (min D.length r.lim.toNat) c) nil nil 0 0 0 0))
def ReP(R:World→World→Array Value→Prop)(w:World)(e:Ending)(w':World):Prop:=∃cs,e=.returned (.agg cs)∧zWW w w'∧R w w' cs
section
variable {w:World} {n0 X K:Nat} {v:Value} {m:M}
theorem oU(h:At w n0 X K v m)(hK:K≤60000)(r:Rq)(z:Rw):Calls prog 33 #[.pointer (some ⟨X,0,none⟩),.agg (rqC r z)] w (ReP (fun w w' cs=>SeR w.heap.size w' m r cs) w):=by
 have hb:zWW w ((w.alloc (.cells (rqC r z) 37)).alloc (.cells rs0 42)):=(zRR _).alloc jz _;have hq:=(Blk.new w 37 (rqC r z)).alloc (.cells rs0 42);have hr:=Blk.new (w.alloc (.cells (rqC r z) 37)) 42 rs0;have z1:(w.alloc (.cells (rqC r z) 37)).heap.size=w.heap.size+1:=jz;rw[z1]at hr;have H1:=zh (h.below hb);have HQ:=zh hq;have HR:=zh hr;have HB:=zh hb;have hsw:w.heap.size+2≤(World.heap ((w.alloc (.cells (rqC r z) 37)).alloc (.cells rs0 42))).size:=jz;have hxl:=h.blk.lt;have hfew:=h.few;clear h hb hq hr z1;go_enter func33,ntmps33
 go_upto_region 1 with(fail);generalize ((w.alloc (.cells (rqC r z) 37)).alloc (.cells rs0 42))=w1 at *;have q4:=HQ.out.cell 4;simp only[rqC,zA,zB,zC]at q4;go_wp2_with fail;refine(kr r.q w1).mono ?_;rintro e w2 ⟨E,o,a0,a1,a2,a3,hp,rfl,hF,hb2⟩;obtain⟨A1,n1,c1,A2,n2,c2,e4⟩:=hF.four;simp only[zQ,and_true]at e4;obtain⟨rfl,rfl,rfl,rfl⟩:=e4;have H2:=zh (H1.out.below hb2);have HR2:=zb HR hb2;have HQ2:=zb HQ hb2;have HB2:=zt HB hb2;have HP:=zh hp;have hqt:QAt w2 w2.heap.size (o.getD noQ) [.int .i64 (o.getD noQ).kind,.string (o.getD noQ).name,.slice A1 n1 c1,.slice A2 n2 c2]:=hF.at_ (fun b hb=>hb.2);have HQT:=zh hqt;have hb3:zWW w2 (w2.alloc (.cells #[.int .i64 (o.getD noQ).kind,.string (o.getD noQ).name,.slice A1 n1 c1,.slice A2 n2 c2] 60)):=zRR _;have HBQ:=zh (Blk.new w2 60 #[.int .i64 (o.getD noQ).kind,.string (o.getD noQ).name,.slice A1 n1 c1,.slice A2 n2 c2]);have HB32:=zh hb3;clear hF hb2 hp hqt hb3 q4;rcases iy HP.out with⟨rfl,q,rfl,hqs⟩|⟨hE,rfl⟩
 ·have hk1:((some q:Option Q).getD noQ)=q:=rfl;rw[hk1]at HQT HBQ HB32 ⊢;have HQS:=zh hqs;clear hk1 hqs;have HQB:Hid (QBl (w2.alloc (.cells #[.int .i64 q.kind,.string q.name,.slice A1 n1 c1,.slice A2 n2 c2] 60)) w2.heap.size q):=zh ⟨A1,n1,c1,A2,n2,c2,HBQ.out,HQT.out.grow HB32.out⟩;obtain⟨qk,hqk⟩:∃qk,q.kind=qk:=⟨_,rfl⟩;obtain⟨qn,hqn⟩:∃qn,q.name=qn:=⟨_,rfl⟩;have HKK:=zh (And.intro hqk hqn);rw[hqk,hqn]at HQT HBQ HB32 HQB ⊢;clear hqk hqn;have HB3:=zh (HB2.out.trans (HB32.out.mono HB2.out.size));have HR3:=zh (HR2.out.below HB32.out HR2.out.lt);have HQ3:=zh (HQ2.out.below HB32.out HQ2.out.lt);have H3:=zh (H2.out.below HB32.out);have HQT3:=zh (HQT.out.grow HB32.out)
  go_upto_region 2 with(fail);generalize w2.alloc (.cells #[.int .i64 qk,.string qn,.slice A1 n1 c1,.slice A2 n2 c2] 60)=w3 at *;have q7:=HQ3.out.cell 7;have q5:=HQ3.out.cell 5;have q6:=HQ3.out.cell 6;have k0:=HBQ.out.cell 0;have k1:=HBQ.out.cell 1;have k2:=HBQ.out.cell 2;have k3:=HBQ.out.cell 3;simp only[rqC,zA,zB,zC]at q5 q6 q7 k0 k1 k2 k3;have CL:=zh (sF r.lim w3);have CD:Hid (Calls prog 67 #[.pointer (some ⟨X,0,none⟩),.agg #[.int .i64 qk,.string qn,.slice A1 n1 c1,.slice A2 n2 c2],.int .i64 r.frm,.int .i64 r.til] w3 (nN w3 (upL m (inB r.frm r.til q)))):=zh (mI H3.out hK q HQS.out _ _ _ _ r.frm r.til ⟨A1,n1,c1,A2,n2,c2,by rw[HKK.out.1,HKK.out.2]⟩ HQT3.out);have HLF:Hid (bz r.lim=true→1≤r.lim∧r.lim≤10000):=zh (fun h=>by simpa[bz]using h);obtain⟨lb,hlb⟩:∃lb,bz r.lim=lb:=⟨_,rfl⟩;rw[hlb]at CL HLF;have HLB:=zh hlb;have HUL:Hid ((upL m (inB r.frm r.til q)).length≤60000):=zh (zY (List.length_filter_le _ _) (zY hfew hK));clear hlb;generalize hu:upL m (inB r.frm r.til q)=U at *;have HU:=zh hu;clear hu
  cases lb with
  | false=>
   clear CD;go_wp2_with fail;refine CL.out.mono ?_;rintro e w4 ⟨rfl,rfl⟩;go_wp2_with fail;refine(dK 1 _).mono ?_;rintro e w4 ⟨rfl,hb4⟩;have HB4:=zt HB3 hb4;have HR4:=zb HR3 hb4;clear hb4;have HX9:=zh (zx _ (w.heap.size+1) _ (rsC 1 0 0 nil nil nil 0 0 0 0) _ _ HR4.out);go_wp2_with (refine zv (o:=⟨none,.store 42 _ _,_,_,_,_⟩) rfl 42 _ _ rfl (w.heap.size+1) (rsC 1 0 0 nil nil nil 0 0 0 0) rfl rfl 42 rs0 HR4.out jk rfl (by simp[rsC,Value.oneCell']) ?_);refine zu (aA rfl rfl (zr _ (w.heap.size+1) 42 42 _ (0,0) _ HX9.out underlying42 rfl jk)) rfl ?_;exact⟨_,rfl,zz HB4.out (zZ _) _,0,_,HP.out,.inr (.inl ⟨rfl,HLB.out,rfl⟩)⟩
  | true=>
   go_wp2_with fail;refine CL.out.mono ?_;rintro e w4 ⟨rfl,rfl⟩;clear CL;go_wp2_with fail;refine CD.out.mono ?_;rintro e w4 ⟨v4,D,rfl,hD,hT,hb4⟩;obtain⟨A3,c3,rfl,_,hc3,_⟩:=hD.read;have HB4:=zt HB3 hb4;have HR4:=zb HR3 hb4;have HQ4:=zb HQ3 hb4;have HD4:=zh hD;have HT:=zh hT;have hDl:D.length≤60000:=by rw[hT.perm.length_eq];exact HUL.out
   have hs3:=HB3.out.size;obtain⟨hl1,hl2⟩:=HLF.out (by first|rfl|trivial);have hmn:min (D.length:Int) r.lim=((min D.length r.lim.toNat:Nat):Int):=jo;have hmc:((min D.length r.lim.toNat:Nat):Int)≤(c3:Int):=jo;clear hD hT hb4 CD q5 q6 q7 k0 k1 k2 k3;have q7:=HQ4.out.cell 7;simp only[rqC,zA,zB,zC]at q7;obtain⟨mn,hmd⟩:∃mn,min D.length r.lim.toNat=mn:=⟨_,rfl⟩;have HMD:=zh hmd;rw[hmd]at hmn hmc;clear hmd;have HX9:=zh (zx _ (w.heap.size+1) _ (rsC 0 0 0 (.slice A3 mn c3) nil nil 0 0 0 0) _ _ HR4.out);go_wp2_with (refine zv (o:=⟨none,.store 42 _ _,_,_,_,_⟩) rfl 42 _ _ rfl (w.heap.size+1) (rsC 0 0 0 (.slice A3 mn c3) nil nil 0 0 0 0) rfl rfl 42 rs0 HR4.out jk rfl (by simp[rsC,Value.oneCell']) ?_);refine zu (aA rfl rfl (zr _ (w.heap.size+1) 42 42 _ (0,0) _ HX9.out underlying42 rfl jk)) rfl ?_
   exact⟨_,rfl,zz HB4.out (zZ _) _,0,_,HP.out,.inr (.inr ⟨q,D,A3,c3,rfl,rfl,HLB.out,by rw[HU.out];exact HT.out,lM (HD4.out.mono hs3) (fun b hb=>vJ w4 _ b _ (fun e=>by
    subst e;rcases hb with hb|hb
    ·exact absurd (hb.one ⟨_,_,HR4.out⟩) jd
    exact absurd (hb.one ⟨_,_,HR4.out⟩) jd)),by rw[HMD.out]⟩)⟩
 have hE2:(E != 0)=true:=by simpa using hE
 have HE:=zh hE;have HB3:=zh (HB2.out.trans (HB32.out.mono HB2.out.size));have HR3:=zh (HR2.out.below HB32.out HR2.out.lt);clear HBQ HQT hE;generalize ((none:Option Q).getD noQ).kind=z1 at *;generalize ((none:Option Q).getD noQ).name=z2 at *
 go_upto_region 2 with(fail);generalize w2.alloc (.cells #[.int .i64 z1,.string z2,.slice A1 n1 c1,.slice A2 n2 c2] 60)=w3 at *;go_wp2_with fail;refine(dK E _).mono ?_;rintro e w4 ⟨rfl,hb4⟩;have HB4:=zt HB3 hb4;have HR4:=zb HR3 hb4;clear hb4;have HX9:=zh (zx _ (w.heap.size+1) _ (rsC E 0 0 nil nil nil 0 0 0 0) _ _ HR4.out);go_wp2_with (refine zv (o:=⟨none,.store 42 _ _,_,_,_,_⟩) rfl 42 _ _ rfl (w.heap.size+1) (rsC E 0 0 nil nil nil 0 0 0 0) rfl rfl 42 rs0 HR4.out jk rfl (by simp[rsC,Value.oneCell']) ?_);refine zu (aA rfl rfl (zr _ (w.heap.size+1) 42 42 _ (0,0) _ HX9.out underlying42 rfl jk)) rfl ?_;exact⟨_,rfl,zz HB4.out (zZ _) _,E,_,HP.out,.inl ⟨HE.out,rfl⟩⟩
end
end Md
end Go.Proofs.YtmomjpolkkbhnaaGreat
