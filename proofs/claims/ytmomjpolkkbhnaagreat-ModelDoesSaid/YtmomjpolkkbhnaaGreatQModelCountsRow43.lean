/- The document's model: Do (printed by gen_mem.py). -/
import Derived.Test.YtmomjpolkkbhnaaGreatQModelCountsRow41
set_option linter.unusedSimpArgs false
set_option linter.unusedVariables false
set_option maxRecDepth 20000
set_option maxHeartbeats 100000000
open Go.Proofs.Tryz
namespace Go.Proofs.YtmomjpolkkbhnaaGreat
namespace Md
open Go.RowKit Ut Tk Qy Qp Ev Ph Cu
theorem rQ{P:Program}{o:Oper}{a:Act}{w:World}{R:Value→World→Prop}(ty:TypeId)(x y:Operand)(ho:o.op=.store ty x y)(g:Nat)(cells:Array Value)(hx:a.eval x=.pointer (some ⟨g,0,none⟩))(hy:a.eval y=.agg cells)
  (t:TypeId) (old:Array Value) (hg:w.heap[g]?=some (.cells old t (0,0))) (hi:(P.info? ty).map (·.size)=some cells.size) (hold:old.size=cells.size) (h1:cells.all (·.oneCell')=true) (hR:R undef (w.setRow g cells)):bM P Tr w R ((execOp a.eval o).run P w):=
 ES (by unfold execOp;simp only[ho,hx,hy,Instr.storeAt,Instr.sureAddr,Sem.run_bind,Sem.run_pure,Result.andThen_ok,run_storeVar_row w g t ty old cells hg hi hold h1]) trivial hR
theorem yS:NoS zmC:=fun o s t h1 h2=>by
 rcases zg o 12 with ho|ho
 ·rcases(by omega:o=0∨o=1∨o=2∨o=3∨o=4∨o=5∨o=6∨o=7∨o=8∨o=9∨o=10∨o=11)with rfl|rfl|rfl|rfl|rfl|rfl|rfl|rfl|rfl|rfl|rfl|rfl<;>cases h1
 rw[zn (by simpa[zmC]using ho)]at h1
 cases h1
theorem qd(e:Int)(w:World):Calls prog 48 #[.int .i64 e] w (RaP (fun a=>a=an0 e 0 0) w):=(fS e w).mono (by rintro e2 w2 ⟨rfl,hb⟩;exact⟨_,_,rfl,hb,rfl,aT ..⟩)
section
variable {w:World} {S Se:Nat→Prop} {K:Nat} {m:M} {y:Rz}
theorem xh(h:RAt w S K m y)(hK:K≤59000)(r:Rq)(z:Rw)(hr0:RqAt w r z)(hE:EvsS w Se z.E z.en z.ec r.evs)(hSe:∀b,Se b→b<w.heap.size) :
  Calls prog 19 #[.agg (rmC m y),.agg (rqC r z)] w (iP w S Se K (aQ m r) (AnsR m r)):=by
 have hb:zWW w ((((w.alloc (.cells (rmC m y) 29)).alloc (.cells (rqC r z) 37)).alloc (.cells zmC 29)).alloc (.cells rs0 42)):=(((zRR _).alloc jz _).alloc jm _).alloc jm _;have hm:=(((Blk.new w 29 (rmC m y)).alloc (.cells (rqC r z) 37)).alloc (.cells zmC 29)).alloc (.cells rs0 42);have hq:=((Blk.new (w.alloc (.cells (rmC m y) 29)) 37 (rqC r z)).alloc (.cells zmC 29)).alloc (.cells rs0 42);have hn:=(Blk.new ((w.alloc (.cells (rmC m y) 29)).alloc (.cells (rqC r z) 37)) 29 zmC).alloc (.cells rs0 42);have hr:=Blk.new (((w.alloc (.cells (rmC m y) 29)).alloc (.cells (rqC r z) 37)).alloc (.cells zmC 29)) 42 rs0;have z1:(w.alloc (.cells (rmC m y) 29)).heap.size=w.heap.size+1:=jz;have z2:((w.alloc (.cells (rmC m y) 29)).alloc (.cells (rqC r z) 37)).heap.size=w.heap.size+2:=jz;have z3:(((w.alloc (.cells (rmC m y) 29)).alloc (.cells (rqC r z) 37)).alloc (.cells zmC 29)).heap.size=w.heap.size+3:=jz;rw[z1]at hq;rw[z2]at hn;rw[z3]at hr;have H1:=zh (h.below hb);have HM:=zh hm;have HQ:=zh hq;have HN:=zh hn;have HR:=zh hr;have HB:=zh hb;have hsw:w.heap.size+4≤(World.heap ((((w.alloc (.cells (rmC m y) 29)).alloc (.cells (rqC r z) 37)).alloc (.cells zmC 29)).alloc (.cells rs0 42))).size:=jz;have hfew:=h.few;have HSW:Hid ((∀b,S b→b<w.heap.size)∧∀b,Se b→b<w.heap.size):=zh ⟨h.lt,hSe⟩;have hne32:w.heap.size+3≠w.heap.size+2:=jo;have hne23:w.heap.size+2≠w.heap.size+3:=jo;have HRQ:=zh (hr0.below hb);have HEV:=zh (hE.same (fun b hb'=>⟨hb',hb.block b (hSe b hb')⟩));have hzn1:m.ds.length≤y.n:=by rw[h.ds.ln];exact zG _
 have hzn2:y.n≤m.ds.length:=by rw[h.ds.ln];exact zG _
 have HZN:=zh h.ds.ln;have HOK:=zh h.ok;have HG:Hid (∀m' (A:Ans→Prop) e w',aQ m r=m'→(∀a,A a→AnsR m r a)→iP w S Se K m' A e w'→iP w S Se K (aQ m r) (AnsR m r) e w'):=zh (fun m' A e w' h1 h2 ⟨y',cs,a,e1,e2,e3,e4,e5⟩=>by rw[h1];exact⟨y',cs,a,e1,e2,h2 a e3,e4,e5⟩)
 have HNX:Hid (¬(r.op=1∨r.op=2∨r.op=3∨r.op=6)→aQ m r=m):=zh (fun hn=>by
  unfold aQ
  rw[zH (fun e=>hn (.inl e)),zH (fun e=>hn (.inr (.inl e))),zH (fun e=>hn (.inr (.inr (.inl e)))),zH (fun e=>hn (.inr (.inr (.inr e))))])
 have HNV:Hid ((r.op=1→aQ m r=(ing m r).1)∧(r.op=2→aQ m r={ m with acked:=(m.ds.length:Nat) })∧(r.op=3→aQ m r=gm m r.now)∧(r.op=6→aQ m r=gq m)):=zh ⟨fun e=>by unfold aQ;rw[zI e],fun e=>by unfold aQ;rw[zH jo,zI e],fun e=>by unfold aQ;rw[zH jo,zH jo,zI e],fun e=>by unfold aQ;rw[zH jo,zH jo,zH jo,zI e]⟩;obtain⟨mm,hmm⟩:∃mm,aQ m r=mm:=⟨_,rfl⟩;obtain⟨ar,har⟩:∃ar,AnsR m r=ar:=⟨_,rfl⟩;have HGG:Hid (∀e w',iP w S Se K (aQ m r) (AnsR m r) e w'→iP w S Se K mm ar e w'):=zh (fun e w' h=>by rw[←hmm,←har];exact h);rw[hmm,har];have hs1:=hb.size;clear hr0 hE hSe hmm har h hb hm hq hn hr z1 z2 z3;go_enter func19,ntmps19
 go_upto_region 1 with(fail);generalize ((((w.alloc (.cells (rmC m y) 29)).alloc (.cells (rqC r z) 37)).alloc (.cells zmC 29)).alloc (.cells rs0 42))=w1 at *
 have Hc:Hid (∀wx,zWW w1 wx→wx.cell? ⟨w.heap.size,0,none⟩=some (.int .i64 m.c.size)∧wx.cell? ⟨w.heap.size,1,none⟩=some (.int .i64 m.c.age)∧wx.cell? ⟨w.heap.size,2,none⟩=some (.int .i64 m.c.retain)∧wx.cell? ⟨w.heap.size,3,none⟩=some (.int .i64 m.c.batch)∧wx.cell? ⟨w.heap.size,4,none⟩=some (.int .i64 m.c.buckets)∧wx.cell? ⟨w.heap.size,5,none⟩=some (.bool m.c.bt)∧wx.cell? ⟨w.heap.size,6,none⟩=some (.bool m.c.bb)∧wx.cell? ⟨w.heap.size,7,none⟩=some (.slice y.A y.n y.c)∧wx.cell? ⟨w.heap.size,8,none⟩=some (.int .i64 m.floor)∧wx.cell? ⟨w.heap.size,9,none⟩=some (.int .i64 m.now)∧wx.cell? ⟨w.heap.size,10,none⟩=some (.int .i64 m.acked)∧wx.cell? ⟨w.heap.size,11,none⟩=some (.slice y.EA y.en y.ec)∧wx.cell? ⟨w.heap.size+1,0,none⟩=some (.int .i64 r.op)∧wx.cell? ⟨w.heap.size+1,1,none⟩=some (.slice z.E z.en z.ec)∧wx.cell? ⟨w.heap.size+1,2,none⟩=some (.bool r.dur)∧wx.cell? ⟨w.heap.size+1,3,none⟩=some (.int .i64 r.now)∧wx.cell? ⟨w.heap.size+1,4,none⟩=some (.string r.q)∧wx.cell? ⟨w.heap.size+1,5,none⟩=some (.int .i64 r.frm)∧wx.cell? ⟨w.heap.size+1,6,none⟩=some (.int .i64 r.til)∧wx.cell? ⟨w.heap.size+1,7,none⟩=some (.int .i64 r.lim)∧wx.cell? ⟨w.heap.size+1,8,none⟩=some (.int .i64 r.width)∧wx.cell? ⟨w.heap.size+1,9,none⟩=some (.int .i64 r.after)∧wx.cell? ⟨w.heap.size+1,10,none⟩=some (.slice z.C z.cn z.cc)):=zh (fun wx hb=>by
  have t:=HM.out.below hb HM.out.lt;have u0:=t.cell 0;have u1:=t.cell 1;have u2:=t.cell 2;have u3:=t.cell 3;have u4:=t.cell 4;have u5:=t.cell 5;have u6:=t.cell 6;have u7:=t.cell 7;have u8:=t.cell 8;have u9:=t.cell 9;have u10:=t.cell 10;have u11:=t.cell 11;have s:=HQ.out.below hb HQ.out.lt;have v0:=s.cell 0;have v1:=s.cell 1;have v2:=s.cell 2;have v3:=s.cell 3;have v4:=s.cell 4;have v5:=s.cell 5;have v6:=s.cell 6;have v7:=s.cell 7;have v8:=s.cell 8;have v9:=s.cell 9;have v10:=s.cell 10;simp only[rmC,rqC,zA,zB,zC]at u0 u1 u2 u3 u4 u5 u6 u7 u8 u9 u10 u11 v0 v1 v2 v3 v4 v5 v6 v7 v8 v9 v10
  exact⟨u0,u1,u2,u3,u4,u5,u6,u7,u8,u9,u10,u11,v0,v1,v2,v3,v4,v5,v6,v7,v8,v9,v10⟩)
 have q0:=HQ.out.cell 0;have q1:=HQ.out.cell 1;have q2:=HQ.out.cell 2;have q3:=HQ.out.cell 3;have q4:=HQ.out.cell 4;have q5:=HQ.out.cell 5;have q6:=HQ.out.cell 6;have q7:=HQ.out.cell 7;have q8:=HQ.out.cell 8;have q9:=HQ.out.cell 9;have q10:=HQ.out.cell 10;simp only[rqC,zA,zB,zC]at q0 q1 q2 q3 q4 q5 q6 q7 q8 q9 q10;by_cases h1:r.op=1
 ·skip
  have HOP:=zh h1;have e1:(r.op==1)=true:=by rw[h1];rfl
  clear h1;have CI:=zh (BN (Se:=Se) H1.out hK r z HRQ.out HEV.out (fun b hb=>by have:=HSW.out.2 b hb;omega));go_wp2_with (first|(refine wpList_load_row (o:=⟨some 12,.load 29 _,_,_,_,_⟩) rfl 29 _ rfl (w.heap.size) rfl 29 (rmC m y) (0,0) _ HM.out underlying29 rfl jk ?_)|fail);refine CI.out.mono ?_;rintro e w6 ⟨y6,cs6,a,rfl,hb6,hAa,hO,hA6⟩;obtain⟨A9,n9,c9,B9,k9,d9,C9,l9,f9,rfl,_⟩:=hO.at_;have HO:=zh hO;have HA6:=zh hA6;have HAa:=zh hAa;have HN6:=zb HN hb6;have HR6:=zb HR hb6;have HB6:=zt HB hb6;have hs6:=hb6.size;clear hO hA6 hAa hb6 CI;obtain⟨m6,hm6⟩:∃m6,(ing m r).1=m6:=⟨_,rfl⟩;rw[hm6]at HA6 ⊢;have HM6:=zh hm6;clear hm6;have HX1:=zh (zx w6 (w.heap.size+2) zmC (rmC m6 y6) _ _ HN6.out);have HY1:Hid (Blk (w6.setRow (w.heap.size+2) (rmC m6 y6)) (w.heap.size+3) 42 rs0):=zh ((vJ w6 (w.heap.size+2) (w.heap.size+3) (rmC m6 y6) hne32).trans HR6.out);have HX2:Hid (Blk ((w6.setRow (w.heap.size+2) (rmC m6 y6)).setRow (w.heap.size+3) (rsC a.E a.seq a.fl (.slice A9 n9 c9) (.slice B9 k9 d9) (.slice C9 l9 f9) a.ev a.nx a.nw a.ak)) (w.heap.size+2) 29 (rmC m6 y6)):=zh ((vJ (w6.setRow (w.heap.size+2) (rmC m6 y6)) (w.heap.size+3) (w.heap.size+2) (rsC a.E a.seq a.fl (.slice A9 n9 c9) (.slice B9 k9 d9) (.slice C9 l9 f9) a.ev a.nx a.nw a.ak) hne23).trans HX1.out);have HY2:=zh (zx (w6.setRow (w.heap.size+2) (rmC m6 y6)) (w.heap.size+3) rs0 (rsC a.E a.seq a.fl (.slice A9 n9 c9) (.slice B9 k9 d9) (.slice C9 l9 f9) a.ev a.nx a.nw a.ak) _ _ HY1.out);go_wp2_with (first|(refine zv (o:=⟨none,.store 29 _ _,_,_,_,_⟩) rfl 29 _ _ rfl (w.heap.size+2) (rmC m6 y6) rfl rfl 29 (zmC) HN6.out jk rfl (by simp[rmC,zmC,Value.oneCell']) ?_)|(refine zv (o:=⟨none,.store 42 _ _,_,_,_,_⟩) rfl 42 _ _ rfl (w.heap.size+3) (rsC a.E a.seq a.fl (.slice A9 n9 c9) (.slice B9 k9 d9) (.slice C9 l9 f9) a.ev a.nx a.nw a.ak) rfl rfl 42 (rs0) HY1.out jk rfl (by simp[rsC,Value.oneCell']) ?_));refine zu (gI rfl rfl rfl (zr _ (w.heap.size+2) 29 29 (rmC m6 y6) (0,0) _ HX2.out underlying29 rfl jk) (zr _ (w.heap.size+3) 42 42 (rsC a.E a.seq a.fl (.slice A9 n9 c9) (.slice B9 k9 d9) (.slice C9 l9 f9) a.ev a.nx a.nw a.ak) (0,0) _ HY2.out underlying42 rfl jk)) rfl ?_;refine HGG.out _ _ (HG.out m6 (fun a=>a=fO m r) _ _ ((HNV.out.1 HOP.out).trans HM6.out) (fun a ha=>.inl ⟨HOP.out,ha⟩) ⟨y6,_,a,rfl,zz (zz HB6.out jo _) jo _,HAa.out,(HO.out.row HN6.out ⟨jd,jd,jd⟩ yS _).row HY1.out ⟨jd,jd,jd⟩ lS _,?_⟩);exact(HA6.out.rows (g:=w.heap.size+2) (fun b hb=>by rcases hb with hb|hb|hb;(have:=HSW.out.1 b hb;omega);(have:=HSW.out.2 b hb;omega);omega) _ |>.rows (g:=w.heap.size+3) (fun b hb=>by rcases hb with hb|hb|hb;(have:=HSW.out.1 b hb;omega);(have:=HSW.out.2 b hb;omega);omega) _).same (fun b hb=>⟨by rcases hb with hb|hb|hb;exact .inl hb;exact .inr (.inl hb);exact .inr (.inr ⟨jo,zT hb.2 jz⟩),rfl⟩) (fun b hb=>by rcases hb with hb|hb|hb;(have:=HSW.out.1 b hb;simp;omega);(have:=HSW.out.2 b hb;simp;omega);exact hb.2)
 have e1:(r.op==1)=false:=by rw[zM];exact h1
 by_cases h2:r.op=2
 ·skip
  have HOP:=zh h2;have e2:(r.op==2)=true:=by rw[h2];rfl
  clear h1 h2;have k7:=HM.out.cell 7;have k10:=HM.out.cell 10;simp only[rmC,zA,zB,zC]at k7 k10;have k10f:=HM.out.frozen 10
  have HM3:Hid (Blk (w1.setCell ⟨w.heap.size,10,none⟩ (.int .i64 ((y.n:Nat)))) w.heap.size 29 (rmC { m with acked:=(y.n:Nat) } y)):=zh (by
   have:=HM.out.set_ 10 (.int .i64 ((y.n:Nat)))
   simpa[rmC]using this)
  have HN3:=zh (HN.out.far (p:=⟨w.heap.size,10,none⟩) (show w.heap.size+2≠w.heap.size by omega) (.int .i64 ((y.n:Nat))));have HR3:=zh (HR.out.far (p:=⟨w.heap.size,10,none⟩) (show w.heap.size+3≠w.heap.size by omega) (.int .i64 ((y.n:Nat))));have HB3:=zh (HB.out.setCell (p:=⟨w.heap.size,10,none⟩) (zG _) (.int .i64 ((y.n:Nat))));have H3:Hid (RAt (w1.setCell ⟨w.heap.size,10,none⟩ (.int .i64 ((y.n:Nat)))) S K { m with acked:=(y.n:Nat) } y):=zh ((H1.out.same (S':=S) (fun b hb=>⟨hb,vL _ _ _ _ (fun e=>by have e:b=w.heap.size:=e;have:=HSW.out.1 b hb;omega)⟩) (fun b hb=>zT (H1.out.lt b hb) (by simp[World.setCell]))).set rfl (⟨HOK.out.c,HOK.out.ret,HOK.out.doc,HOK.out.fl,HOK.out.nw,by show (0:Int)≤((y.n:Nat):Int);omega,by show ((y.n:Nat):Int)≤((m.ds.length:Nat):Int);omega⟩))
  go_upto_region 7 with(fail);generalize w1.setCell ⟨w.heap.size,10,none⟩ (.int .i64 ((y.n:Nat)))=w3 at *;obtain⟨m3,hm3⟩:∃m3:M,({ m with acked:=(y.n:Nat) }:M)=m3:=⟨_,rfl⟩;rw[hm3]at HM3 H3;have HM3e:=zh hm3;clear hm3;have HX1:=zh (zx w3 (w.heap.size+2) zmC (rmC m3 y) _ _ HN3.out);have HY1:Hid (Blk (w3.setRow (w.heap.size+2) (rmC m3 y)) (w.heap.size+3) 42 rs0):=zh ((vJ w3 (w.heap.size+2) (w.heap.size+3) (rmC m3 y) hne32).trans HR3.out);have HX2:Hid (Blk ((w3.setRow (w.heap.size+2) (rmC m3 y)).setRow (w.heap.size+3) (rs0)) (w.heap.size+2) 29 (rmC m3 y)):=zh ((vJ (w3.setRow (w.heap.size+2) (rmC m3 y)) (w.heap.size+3) (w.heap.size+2) (rs0) hne23).trans HX1.out);have HY2:=zh (zx (w3.setRow (w.heap.size+2) (rmC m3 y)) (w.heap.size+3) rs0 (rs0) _ _ HY1.out);go_wp2_with (first|(refine wpList_load_row (o:=⟨some 23,.load 29 _,_,_,_,_⟩) rfl 29 _ rfl (w.heap.size) rfl 29 (rmC m3 y) (0,0) _ HM3.out underlying29 rfl jk ?_)|(refine zv (o:=⟨none,.store 29 _ _,_,_,_,_⟩) rfl 29 _ _ rfl (w.heap.size+2) (rmC m3 y) rfl rfl 29 (zmC) HN3.out jk rfl (by simp[rmC,zmC,Value.oneCell']) ?_)|(refine zv (o:=⟨none,.store 42 _ _,_,_,_,_⟩) rfl 42 _ _ rfl (w.heap.size+3) (rs0) rfl rfl 42 (rs0) HY1.out jk rfl (by simp[rsC,Value.oneCell']) ?_));refine zu (gI rfl rfl rfl (zr _ (w.heap.size+2) 29 29 (rmC m3 y) (0,0) _ HX2.out underlying29 rfl jk) (zr _ (w.heap.size+3) 42 42 (rs0) (0,0) _ HY2.out underlying42 rfl jk)) rfl ?_;exact HGG.out _ _ (HG.out m3 (fun a=>a=an0 0 0 0) _ _ ((HNV.out.2.1 HOP.out).trans (by rw[←HM3e.out,HZN.out])) (fun a ha=>.inr (.inl ⟨HOP.out,ha⟩)) ⟨y,_,an0 0 0 0,rfl,zz (zz HB3.out jo _) jo _,rfl,aT ..,H3.out.two HSW.out.1 HSW.out.2 HB3.out.size _ _⟩)
 have e2:(r.op==2)=false:=by rw[zM];exact h2
 by_cases h45:r.op=4∨r.op=5
 ·have HOP:=zh h45;have e3:(r.op==3)=false:=by rcases h45 with h|h<;>rw[h]<;>rfl
  clear h1 h2;rcases h45 with h4|h4
  case' inl=>have e4:(r.op==4)=true:=by rw[h4];rfl
  case' inr=>
   have e4:(r.op==4)=false:=by rw[h4];rfl
   have e5:(r.op==5)=true:=by rw[h4];rfl
  all_goals
   clear h4;have HN6:=HN;have HR6:=HR;have HB6:=HB;have HX1:=zh (zx w1 (w.heap.size+2) zmC (rmC m y) _ _ HN6.out);have HY1:Hid (Blk (w1.setRow (w.heap.size+2) (rmC m y)) (w.heap.size+3) 42 rs0):=zh ((vJ w1 (w.heap.size+2) (w.heap.size+3) (rmC m y) hne32).trans HR6.out);have HX2:Hid (Blk ((w1.setRow (w.heap.size+2) (rmC m y)).setRow (w.heap.size+3) (rs0)) (w.heap.size+2) 29 (rmC m y)):=zh ((vJ (w1.setRow (w.heap.size+2) (rmC m y)) (w.heap.size+3) (w.heap.size+2) (rs0) hne23).trans HX1.out);have HY2:=zh (zx (w1.setRow (w.heap.size+2) (rmC m y)) (w.heap.size+3) rs0 (rs0) _ _ HY1.out);go_wp2_with (first|(refine wpList_load_row (o:=⟨some 42,.load 29 _,_,_,_,_⟩) rfl 29 _ rfl (w.heap.size) rfl 29 (rmC m y) (0,0) _ HM.out underlying29 rfl jk ?_)|(refine zv (o:=⟨none,.store 29 _ _,_,_,_,_⟩) rfl 29 _ _ rfl (w.heap.size+2) (rmC m y) rfl rfl 29 (zmC) HN6.out jk rfl (by simp[rmC,zmC,Value.oneCell']) ?_)|(refine zv (o:=⟨none,.store 42 _ _,_,_,_,_⟩) rfl 42 _ _ rfl (w.heap.size+3) (rs0) rfl rfl 42 (rs0) HY1.out jk rfl (by simp[rsC,Value.oneCell']) ?_));refine zu (gI rfl rfl rfl (zr _ (w.heap.size+2) 29 29 (rmC m y) (0,0) _ HX2.out underlying29 rfl jk) (zr _ (w.heap.size+3) 42 42 (rs0) (0,0) _ HY2.out underlying42 rfl jk)) rfl ?_;exact HGG.out _ _ (HG.out m (fun a=>a=an0 0 0 0) _ _ (HNX.out (by rcases HOP.out with h|h<;>rw[h]<;>decide)) (fun a ha=>.inr (.inr (.inr (.inl ⟨HOP.out,ha⟩)))) ⟨y,_,an0 0 0 0,rfl,zz (zz HB6.out jo _) jo _,rfl,aT ..,H1.out.two HSW.out.1 HSW.out.2 HB6.out.size _ _⟩)
 have h4:¬r.op=4:=fun h=>h45 (.inl h)
 have h5:¬r.op=5:=fun h=>h45 (.inr h)
 clear h45;have e4:(r.op==4)=false:=by rw[zM];exact h4
 have e5:(r.op==5)=false:=by rw[zM];exact h5
 by_cases h7:r.op=7
 case' pos=>
  have HOP:=zh h7;have e3:(r.op==3)=false:=by rw[h7];rfl
  have e6:(r.op==6)=false:=by rw[h7];rfl
  have e7:(r.op==7)=true:=by rw[h7];rfl
  clear h1 h2 h4 h5 h7;have CC:=zh (fun wx (hC:zWW w1 wx)=>BL (H1.out.below hC) jo r z);have HDA:Hid (∀a,SeA m r a→AnsR m r a):=zh (fun a ha=>.inr (.inr (.inr (.inr (.inr (.inl ⟨HOP.out,ha⟩))))));have HNM:Hid (aQ m r=m):=zh (HNX.out (by rw[HOP.out];decide))
  go_upto_region 22 with(fail)
 rotate_left;have e7:(r.op==7)=false:=by rw[zM];exact h7
 by_cases h8:r.op=8
 case' pos=>
  have HOP:=zh h8;have e3:(r.op==3)=false:=by rw[h8];rfl
  have e6:(r.op==6)=false:=by rw[h8];rfl
  have e8:(r.op==8)=true:=by rw[h8];rfl
  clear h1 h2 h4 h5 h7 h8;have CC:=zh (fun wx (hC:zWW w1 wx)=>ER (H1.out.below hC) jo r z HRQ.out.wd);have HDA:Hid (∀a,HgA m r a→AnsR m r a):=zh (fun a ha=>.inr (.inr (.inr (.inr (.inr (.inr (.inl ⟨HOP.out,ha⟩)))))));have HNM:Hid (aQ m r=m):=zh (HNX.out (by rw[HOP.out];decide))
  go_upto_region 24 with(fail)
 rotate_left;have e8:(r.op==8)=false:=by rw[zM];exact h8
 by_cases h10:r.op=10
 case' pos=>
  have HOP:=zh h10;have e3:(r.op==3)=false:=by rw[h10];rfl
  have e6:(r.op==6)=false:=by rw[h10];rfl
  have e9:(r.op==9)=false:=by rw[h10];rfl
  have e10:(r.op==10)=true:=by rw[h10];rfl
  clear h1 h2 h4 h5 h7 h8 h10;have CC:=zh (fun wx (hC:zWW w1 wx)=>EQ (H1.out.below hC) jo r z (HRQ.out.below hC).cur HRQ.out.cn);have HDA:Hid (∀a,TlA m r a→AnsR m r a):=zh (fun a ha=>.inr (.inr (.inr (.inr (.inr (.inr (.inr (.inr (.inl ⟨HOP.out,ha⟩)))))))));have HNM:Hid (aQ m r=m):=zh (HNX.out (by rw[HOP.out];decide))
  go_upto_region 28 with(fail)
 rotate_left;have e10:(r.op==10)=false:=by rw[zM];exact h10
 by_cases h9:r.op=9
 case' pos=>
  have HOP:=zh h9;have e3:(r.op==3)=false:=by rw[h9];rfl
  have e6:(r.op==6)=false:=by rw[h9];rfl
  have e9:(r.op==9)=true:=by rw[h9];rfl
  clear h1 h2 h4 h5 h7 h8 h9 h10;have CC:=zh (fun wx (hC:zWW w1 wx)=>EP (w:=wx) r z);have HDA:Hid (∀a,OpA r a→AnsR m r a):=zh (fun a ha=>.inr (.inr (.inr (.inr (.inr (.inr (.inr (.inl ⟨HOP.out,ha⟩))))))));have HNM:Hid (aQ m r=m):=zh (HNX.out (by rw[HOP.out];decide))
  go_upto_region 26 with(fail)
 rotate_left;have e9:(r.op==9)=false:=by rw[zM];exact h9
 by_cases h11:r.op=11
 case' pos=>
  have HOP:=zh h11;have e3:(r.op==3)=false:=by rw[h11];rfl
  have e6:(r.op==6)=false:=by rw[h11];rfl
  have e11:(r.op==11)=true:=by rw[h11];rfl
  clear h1 h2 h4 h5 h7 h8 h9 h10 h11;have CC:=zh (fun wx (hC:zWW w1 wx)=>Cc (H1.out.below hC) jo);have HDA:Hid (∀a,a=kP m→AnsR m r a):=zh (fun a ha=>.inr (.inr (.inr (.inr (.inr (.inr (.inr (.inr (.inr (.inl ⟨HOP.out,ha⟩))))))))));have HNM:Hid (aQ m r=m):=zh (HNX.out (by rw[HOP.out];decide))
  go_upto_region 30 with(fail)
 rotate_left;have e11:(r.op==11)=false:=by rw[zM];exact h11
 by_cases h3:r.op=3
 case' pos=>
  have HOP:=zh h3;have e3:(r.op==3)=true:=by rw[h3];rfl
  clear h1 h2 h3 h4 h5 h7 h8 h9 h10 h11;have k9:=HM.out.cell 9;simp only[rmC,zA,zB,zC]at k9;by_cases hnw:r.now≤m.now
  case' pos=>
   have HNW:=zh hnw;have CC:=zh (fun wx (hC:zWW w1 wx)=>qd 271 wx);have HDA:Hid (∀a,a=an0 271 0 0→AnsR m r a):=zh (fun a ha=>.inr (.inr (.inl ⟨HOP.out,by rw[ha];unfold gB;rw[zI HNW.out]⟩)));have HNM:Hid (aQ m r=m):=zh ((HNV.out.2.2.1 HOP.out).trans (by unfold gm;rw[zI HNW.out]))
   go_upto_region 10 with(fail);clear k9
  case' neg=>
   have HNW:=zh hnw;have hnw2:m.now<r.now:=jo;have k9f:=HM.out.frozen 9
   have HM3:Hid (Blk (w1.setCell ⟨w.heap.size,9,none⟩ (.int .i64 (r.now))) w.heap.size 29 (rmC { m with now:=r.now } y)):=zh (by
    have:=HM.out.set_ 9 (.int .i64 (r.now))
    simpa[rmC]using this)
   have HN3:=zh (HN.out.far (p:=⟨w.heap.size,9,none⟩) (show w.heap.size+2≠w.heap.size by omega) (.int .i64 (r.now)));have HR3:=zh (HR.out.far (p:=⟨w.heap.size,9,none⟩) (show w.heap.size+3≠w.heap.size by omega) (.int .i64 (r.now)));have HB3:=zh (HB.out.setCell (p:=⟨w.heap.size,9,none⟩) (zG _) (.int .i64 (r.now)));have H3:Hid (RAt (w1.setCell ⟨w.heap.size,9,none⟩ (.int .i64 (r.now))) S K { m with now:=r.now } y):=zh ((H1.out.same (S':=S) (fun b hb=>⟨hb,vL _ _ _ _ (fun e=>by have e:b=w.heap.size:=e;have:=HSW.out.1 b hb;omega)⟩) (fun b hb=>zT (H1.out.lt b hb) (by simp[World.setCell]))).set rfl (⟨HOK.out.c,HOK.out.ret,HOK.out.doc,HOK.out.fl,HRQ.out.nw,HOK.out.ak⟩))
   go_upto_region 12 with(fail);generalize w1.setCell ⟨w.heap.size,9,none⟩ (.int .i64 (r.now))=w3 at *;obtain⟨m3,hm3⟩:∃m3:M,({ m with now:=r.now }:M)=m3:=⟨_,rfl⟩;rw[hm3]at HM3 H3;have HM3e:=zh hm3;clear hm3;have HX1:=zh (zx w3 (w.heap.size+2) zmC (rmC m3 y) _ _ HN3.out);have HY1:Hid (Blk (w3.setRow (w.heap.size+2) (rmC m3 y)) (w.heap.size+3) 42 rs0):=zh ((vJ w3 (w.heap.size+2) (w.heap.size+3) (rmC m3 y) hne32).trans HR3.out);have HX2:Hid (Blk ((w3.setRow (w.heap.size+2) (rmC m3 y)).setRow (w.heap.size+3) (rs0)) (w.heap.size+2) 29 (rmC m3 y)):=zh ((vJ (w3.setRow (w.heap.size+2) (rmC m3 y)) (w.heap.size+3) (w.heap.size+2) (rs0) hne23).trans HX1.out);have HY2:=zh (zx (w3.setRow (w.heap.size+2) (rmC m3 y)) (w.heap.size+3) rs0 (rs0) _ _ HY1.out);go_wp2_with (first|(refine wpList_load_row (o:=⟨some 37,.load 29 _,_,_,_,_⟩) rfl 29 _ rfl (w.heap.size) rfl 29 (rmC m3 y) (0,0) _ HM3.out underlying29 rfl jk ?_)|(refine zv (o:=⟨none,.store 29 _ _,_,_,_,_⟩) rfl 29 _ _ rfl (w.heap.size+2) (rmC m3 y) rfl rfl 29 (zmC) HN3.out jk rfl (by simp[rmC,zmC,Value.oneCell']) ?_)|(refine zv (o:=⟨none,.store 42 _ _,_,_,_,_⟩) rfl 42 _ _ rfl (w.heap.size+3) (rs0) rfl rfl 42 (rs0) HY1.out jk rfl (by simp[rsC,Value.oneCell']) ?_));refine zu (gI rfl rfl rfl (zr _ (w.heap.size+2) 29 29 (rmC m3 y) (0,0) _ HX2.out underlying29 rfl jk) (zr _ (w.heap.size+3) 42 42 (rs0) (0,0) _ HY2.out underlying42 rfl jk)) rfl ?_;exact HGG.out _ _ (HG.out m3 (fun a=>a=an0 0 0 0) _ _ ((HNV.out.2.2.1 HOP.out).trans (by rw[←HM3e.out];unfold gm;rw[zH (by have:=HNW.out;omega)])) (fun a ha=>.inr (.inr (.inl ⟨HOP.out,by rw[ha];unfold gB;rw[zH (by have:=HNW.out;omega)]⟩))) ⟨y,_,an0 0 0 0,rfl,zz (zz HB3.out jo _) jo _,rfl,aT ..,H3.out.two HSW.out.1 HSW.out.2 HB3.out.size _ _⟩)
 rotate_left;have e3:(r.op==3)=false:=by rw[zM];exact h3
 by_cases h6:r.op=6
 case' pos=>
  have HOP:=zh h6;have e6:(r.op==6)=true:=by rw[h6];rfl
  clear h1 h2 h3 h4 h5 h6 h7 h8 h9 h10 h11;have k9:=HM.out.cell 9;simp only[rmC,zA,zB,zC]at k9;by_cases hnw:m.now=-9223372036854775808
  case' pos=>
   have HNW:=zh hnw;have hnb:(m.now == -9223372036854775808)=true:=by rw[hnw];rfl
   clear hnw;have CC:=zh (fun wx (hC:zWW w1 wx)=>qd 271 wx);have HDA:Hid (∀a,a=an0 271 0 0→AnsR m r a):=zh (fun a ha=>.inr (.inr (.inr (.inr (.inl ⟨HOP.out,by rw[ha];unfold lY;rw[zI HNW.out]⟩)))));have HNM:Hid (aQ m r=m):=zh ((HNV.out.2.2.2 HOP.out).trans (by unfold gq;rw[zI HNW.out]))
   go_upto_region 18 with(fail);clear k9
  case' neg=>
   have HNW:=zh hnw;have hnb:(m.now == -9223372036854775808)=false:=by simpa using hnw
   clear hnw;have CF:=zh (Ca H1.out);obtain⟨fr,hfr⟩:∃fr,fG m=fr:=⟨_,rfl⟩
   have hfr64:I64 fr:=by
    have h1:=HOK.out.c;unfold okC at h1;have h2:=HOK.out.fl;have h3:=HOK.out.nw;rw[←hfr];unfold fG I64 at *
    split<;>omega
   rw[hfr]at CF;have HFR:=zh hfr;have HF64:=zh hfr64;clear hfr hfr64;go_wp2_with (first|(refine wpList_load_row (o:=⟨some 51,.load 29 _,_,_,_,_⟩) rfl 29 _ rfl (w.heap.size) rfl 29 (rmC m y) (0,0) _ HM.out underlying29 rfl jk ?_)|fail);refine CF.out.mono ?_;rintro e w2 ⟨rfl,hb2⟩;have HMx:=zb HM hb2;have HNx:=zb HN hb2;have HRx:=zb HR hb2;have HBx:=zt HB hb2;have H1x:=zh (H1.out.below hb2);clear hb2 CF k9 q0 q1 q2 q3 q4 q5 q6 q7 q8 q9 q10 H1 HM HN HR HB Hc;have k8f:=HMx.out.frozen 8;have k8:=HMx.out.cell 8;simp only[rmC,zA,zB,zC]at k8
   have HM3:Hid (Blk (w2.setCell ⟨w.heap.size,8,none⟩ (.int .i64 (fr))) w.heap.size 29 (rmC { m with floor:=fr } y)):=zh (by
    have:=HMx.out.set_ 8 (.int .i64 (fr))
    simpa[rmC]using this)
   have HN3:=zh (HNx.out.far (p:=⟨w.heap.size,8,none⟩) (show w.heap.size+2≠w.heap.size by omega) (.int .i64 (fr)));have HR3:=zh (HRx.out.far (p:=⟨w.heap.size,8,none⟩) (show w.heap.size+3≠w.heap.size by omega) (.int .i64 (fr)));have HB3:=zh (HBx.out.setCell (p:=⟨w.heap.size,8,none⟩) (zG _) (.int .i64 (fr)));have H3:Hid (RAt (w2.setCell ⟨w.heap.size,8,none⟩ (.int .i64 (fr))) S K { m with floor:=fr } y):=zh ((H1x.out.same (S':=S) (fun b hb=>⟨hb,vL _ _ _ _ (fun e=>by have e:b=w.heap.size:=e;have:=HSW.out.1 b hb;omega)⟩) (fun b hb=>zT (H1x.out.lt b hb) (by simp[World.setCell]))).set rfl (⟨HOK.out.c,HOK.out.ret,HOK.out.doc,HF64.out,HOK.out.nw,HOK.out.ak⟩))
   go_upto_region 20 with(fail);generalize w2.setCell ⟨w.heap.size,8,none⟩ (.int .i64 (fr))=w3 at *;obtain⟨m3,hm3⟩:∃m3:M,({ m with floor:=fr }:M)=m3:=⟨_,rfl⟩;rw[hm3]at HM3 H3;have HM3e:=zh hm3;clear hm3;clear k8 k8f;have HF3:Hid (m3.floor=fr):=zh (by rw[←HM3e.out]);have HN3d:=zh HN3.out.drew;have HR3d:=zh HR3.out.drew;refine dN 5 (aI [(4,⟨Unit,fun _=>undef,fun _ wx=>wx=w3.drew.setRow (w.heap.size+2) (rmC m3 y)⟩)]) (fun wx=>Blk wx w.heap.size 29 (rmC m3 y)∧Blk wx (w.heap.size+3) 42 rs0) (fun wx=>wx=w3.drew) jk jk (dS jk) ⟨HM3.out,HR3.out⟩ rfl ?_;simp only[zX,List.take_zero,zm,List.drop_zero];refine aD 1 ?_ rfl jr jr (fun wx hC=>?_) ?_;rotate_left
   ·have u0:=hC.1.cell 0;have u1:=hC.1.cell 1;have u2:=hC.1.cell 2;have u3:=hC.1.cell 3;have u4:=hC.1.cell 4;have u5:=hC.1.cell 5;have u6:=hC.1.cell 6;have u7:=hC.1.cell 7;have u8:=hC.1.cell 8;have u9:=hC.1.cell 9;have u10:=hC.1.cell 10;have u11:=hC.1.cell 11;simp only[rmC,zA,zB,zC]at u0 u1 u2 u3 u4 u5 u6 u7 u8 u9 u10 u11;go_simp;all_goals with_reducible rfl
   try simp only[Act.put,zD,zE,zF]
   refine aD 2 ?_ rfl jr jr (fun wx hC=>?_) ?_;rotate_left
   ·have u0:=hC.1.cell 0;have u1:=hC.1.cell 1;have u2:=hC.1.cell 2;have u3:=hC.1.cell 3;have u4:=hC.1.cell 4;have u5:=hC.1.cell 5;have u6:=hC.1.cell 6;have u7:=hC.1.cell 7;have u8:=hC.1.cell 8;have u9:=hC.1.cell 9;have u10:=hC.1.cell 10;have u11:=hC.1.cell 11;simp only[rmC,zA,zB,zC]at u0 u1 u2 u3 u4 u5 u6 u7 u8 u9 u10 u11;go_simp;all_goals with_reducible rfl
   try simp only[Act.put,zD,zE,zF]
   refine aD 3 ?_ rfl jr jr (fun wx hC=>?_) ?_;rotate_left
   ·have u0:=hC.1.cell 0;have u1:=hC.1.cell 1;have u2:=hC.1.cell 2;have u3:=hC.1.cell 3;have u4:=hC.1.cell 4;have u5:=hC.1.cell 5;have u6:=hC.1.cell 6;have u7:=hC.1.cell 7;have u8:=hC.1.cell 8;have u9:=hC.1.cell 9;have u10:=hC.1.cell 10;have u11:=hC.1.cell 11;simp only[rmC,zA,zB,zC]at u0 u1 u2 u3 u4 u5 u6 u7 u8 u9 u10 u11;go_simp;all_goals with_reducible rfl
   try simp only[Act.put,zD,zE,zF]
   refine aD 4 ?_ rfl jr jr (fun wx hC=>?_) ?_;rotate_left
   ·have u0:=hC.1.cell 0;have u1:=hC.1.cell 1;have u2:=hC.1.cell 2;have u3:=hC.1.cell 3;have u4:=hC.1.cell 4;have u5:=hC.1.cell 5;have u6:=hC.1.cell 6;have u7:=hC.1.cell 7;have u8:=hC.1.cell 8;have u9:=hC.1.cell 9;have u10:=hC.1.cell 10;have u11:=hC.1.cell 11;simp only[rmC,zA,zB,zC]at u0 u1 u2 u3 u4 u5 u6 u7 u8 u9 u10 u11;go_simp;all_goals with_reducible rfl
   try simp only[Act.put,zD,zE,zF]
   refine dz 5 _ rfl jr jr (fun wx hC hI=>?_) (fun x=>?_)
   ·subst hI;exact rQ 29 _ _ rfl (w.heap.size+2) (rmC m3 y) rfl rfl 29 zmC HN3d.out jk rfl (by simp[rmC,zmC,Value.oneCell']) ⟨⟨(vJ w3.drew (w.heap.size+2) w.heap.size (rmC m3 y) jo).trans HM3.out.drew,(vJ w3.drew (w.heap.size+2) (w.heap.size+3) (rmC m3 y) hne32).trans HR3d.out⟩,(),rfl,rfl⟩
   obtain⟨⟩:=x;try simp only[Act.put,zD,zE,zF]
   refine dZ (fun w6 hC hI=>?_);subst hI;clear hC;have HX1:Hid (Blk (w3.drew.setRow (w.heap.size+2) (rmC m3 y)) (w.heap.size+2) 29 (rmC m3 y)):=zh (zx w3.drew (w.heap.size+2) zmC (rmC m3 y) _ _ HN3d.out);have HY1:Hid (Blk (w3.drew.setRow (w.heap.size+2) (rmC m3 y)) (w.heap.size+3) 42 rs0):=zh ((vJ w3.drew (w.heap.size+2) (w.heap.size+3) (rmC m3 y) hne32).trans HR3d.out);have HB8:=zh (zz (g:=w.heap.size+2) HB3.out.drew jo (rmC m3 y));have H8:Hid (RAt (w3.drew.setRow (w.heap.size+2) (rmC m3 y)) S K m3 y):=zh (RAt.rows (w:=w3.drew) (H3.out.same (fun b hb=>⟨hb,rfl⟩) H3.out.lt) (fun b hb=>by have:=HSW.out.1 b hb;omega) (rmC m3 y));generalize w3.drew.setRow (w.heap.size+2) (rmC m3 y)=w8 at *;have HX2:Hid (Blk (w8.setRow (w.heap.size+3) (rsC 0 0 m3.floor nil nil nil 0 0 0 0)) (w.heap.size+2) 29 (rmC m3 y)):=zh ((vJ w8 (w.heap.size+3) (w.heap.size+2) (rsC 0 0 m3.floor nil nil nil 0 0 0 0) hne23).trans HX1.out);have HY2:=zh (zx w8 (w.heap.size+3) rs0 (rsC 0 0 m3.floor nil nil nil 0 0 0 0) _ _ HY1.out);go_wp2_with (first|(refine zv (o:=⟨none,.store 42 _ _,_,_,_,_⟩) rfl 42 _ _ rfl (w.heap.size+3) (rsC 0 0 m3.floor nil nil nil 0 0 0 0) rfl rfl 42 (rs0) HY1.out jk rfl (by simp[rsC,Value.oneCell']) ?_));refine zu (gI rfl rfl rfl (zr _ (w.heap.size+2) 29 29 (rmC m3 y) (0,0) _ HX2.out underlying29 rfl jk) (zr _ (w.heap.size+3) 42 42 (rsC 0 0 m3.floor nil nil nil 0 0 0 0) (0,0) _ HY2.out underlying42 rfl jk)) rfl ?_;have h9:=H8.out.rows (g:=w.heap.size+3) (fun b hb=>by have:=HSW.out.1 b hb;omega) (rsC 0 0 m3.floor nil nil nil 0 0 0 0);have hz:(w8.setRow (w.heap.size+3) (rsC 0 0 m3.floor nil nil nil 0 0 0 0)).heap.size=w8.heap.size:=jz;have hs8:=HB8.out.size;exact HGG.out _ _ (HG.out m3 (fun a=>a=an0 0 0 fr) _ _ ((HNV.out.2.2.2 HOP.out).trans (by rw[←HM3e.out,←HFR.out];unfold gq;rw[zH HNW.out])) (fun a ha=>.inr (.inr (.inr (.inr (.inl ⟨HOP.out,by rw[ha];unfold lY;rw[zH HNW.out,HFR.out]⟩))))) ⟨y,_,an0 0 0 fr,rfl,zz HB8.out jo _,rfl,by rw[←HF3.out];exact aT ..,(h9.mono (fun b hb=>.inl hb) (fun b hb=>by rw[hz]at hb ⊢;rcases hb with hb|hb|hb;(have:=HSW.out.1 b hb;omega);(have:=HSW.out.2 b hb;omega);exact hb.2)).more jo⟩)
 rotate_left;have e6:(r.op==6)=false:=by rw[zM];exact h6
 have HNO:Hid (¬(1≤r.op∧r.op≤11)):=zh jo;clear h1 h2 h3 h4 h5 h6 h7 h8 h9 h10 h11;have CC:=zh (fun wx (hC:zWW w1 wx)=>qd 272 wx);have HDA:Hid (∀a,a=an0 272 0 0→AnsR m r a):=zh (fun a ha=>.inr (.inr (.inr (.inr (.inr (.inr (.inr (.inr (.inr (.inr ⟨HNO.out,ha⟩))))))))));have HNM:Hid (aQ m r=m):=zh (HNX.out (by have:=HNO.out;omega))
 go_upto_region 2 with(fail);rotate_left
 iterate 3
  refine dm 4 (aI [(3,⟨Array Value,fun cs=>.agg cs,fun cs wx=>∃a,AnsR m r a∧AnsO wx cs a⟩)]) (fun wx=>zWW w1 wx) (fun w1 w2=>zWW w1 w2) jk jk (aN (fun x wa wb hg ⟨a,h1,h2⟩=>⟨a,h1,h2.below hg⟩) (aX)) ((zw _ _).drew) ?_;simp only[zX,List.take_zero,zm,List.drop_zero]
  iterate 3
   refine aH _ ?_ rfl jr jr (fun wx hC hD=>?_) ?_;rotate_left
   ·have hSw:=Hc.out wx hC;go_simp;all_goals with_reducible rfl
   try simp only[Act.put,zD,zE,zF]
  refine ae 4 _ rfl jr jr (fun wx hC hD=>?_) (fun x=>?_)
  ·refine aZ (f:=?_) (args:=?_) ?_ ?_;rotate_left 2
   ·have hSw:=Hc.out wx hC;go_simp;all_goals first|with_reducible rfl|(refine⟨?_,?_⟩<;>with_reducible rfl)
   refine(CC.out wx hC).mono ?_;rintro e w9 ⟨cs9,a9,rfl,hb9,hA9,hO9⟩;exact⟨_,rfl,hb9,hC.trans (hb9.mono hC.size),cs9,rfl,a9,HDA.out a9 hA9,hO9⟩
  rename Array Value=>cs9
  try simp only[Act.put,zD,zE,zF]
  refine ah (fun w6 hC hF=>?_);obtain⟨a,hAa,hO⟩:=bf (hF 3) jd;rotate_left
 iterate 2
  refine dm 3 (aI [(2,⟨Array Value,fun cs=>.agg cs,fun cs wx=>∃a,AnsR m r a∧AnsO wx cs a⟩)]) (fun wx=>zWW w1 wx) (fun w1 w2=>zWW w1 w2) jk jk (aN (fun x wa wb hg ⟨a,h1,h2⟩=>⟨a,h1,h2.below hg⟩) (aX)) ((zw _ _).drew) ?_;simp only[zX,List.take_zero,zm,List.drop_zero]
  iterate 2
   refine aH _ ?_ rfl jr jr (fun wx hC hD=>?_) ?_;rotate_left
   ·have hSw:=Hc.out wx hC;go_simp;all_goals with_reducible rfl
   try simp only[Act.put,zD,zE,zF]
  refine ae 3 _ rfl jr jr (fun wx hC hD=>?_) (fun x=>?_)
  ·refine aZ (f:=?_) (args:=?_) ?_ ?_;rotate_left 2
   ·have hSw:=Hc.out wx hC;go_simp;all_goals first|with_reducible rfl|(refine⟨?_,?_⟩<;>with_reducible rfl)
   refine(CC.out wx hC).mono ?_;rintro e w9 ⟨cs9,a9,rfl,hb9,hA9,hO9⟩;exact⟨_,rfl,hb9,hC.trans (hb9.mono hC.size),cs9,rfl,a9,HDA.out a9 hA9,hO9⟩
  rename Array Value=>cs9
  try simp only[Act.put,zD,zE,zF]
  refine ah (fun w6 hC hF=>?_);obtain⟨a,hAa,hO⟩:=bf (hF 2) jd;rotate_left
 iterate 3
  refine dm 2 (aI [(1,⟨Array Value,fun cs=>.agg cs,fun cs wx=>∃a,AnsR m r a∧AnsO wx cs a⟩)]) (fun wx=>zWW w1 wx) (fun w1 w2=>zWW w1 w2) jk jk (aN (fun x wa wb hg ⟨a,h1,h2⟩=>⟨a,h1,h2.below hg⟩) (aX)) ((zw _ _).drew) ?_;simp only[zX,List.take_zero,zm,List.drop_zero];refine aH 1 ?_ rfl jr jr (fun wx hC hD=>?_) ?_;rotate_left
  ·have hSw:=Hc.out wx hC;go_simp;all_goals with_reducible rfl
  try simp only[Act.put,zD,zE,zF]
  refine ae 2 _ rfl jr jr (fun wx hC hD=>?_) (fun x=>?_)
  ·refine aZ (f:=?_) (args:=?_) ?_ ?_;rotate_left 2
   ·have hSw:=Hc.out wx hC;go_simp;all_goals first|with_reducible rfl|(refine⟨?_,?_⟩<;>with_reducible rfl)
   refine(CC.out wx hC).mono ?_;rintro e w9 ⟨cs9,a9,rfl,hb9,hA9,hO9⟩;exact⟨_,rfl,hb9,hC.trans (hb9.mono hC.size),cs9,rfl,a9,HDA.out a9 hA9,hO9⟩
  rename Array Value=>cs9
  try simp only[Act.put,zD,zE,zF]
  refine ah (fun w6 hC hF=>?_);obtain⟨a,hAa,hO⟩:=bf (hF 1) jd;rotate_left
 all_goals
  obtain⟨A9,n9,c9,B9,k9,d9,C9,l9,f9,rfl,_⟩:=hO.at_;have HAa:=zh hAa;have HO:=zh hO;clear hAa hO;have HN6:=zb HN hC;have HR6:=zb HR hC;have H6:=zh (H1.out.below hC);have HB6:=zt HB hC;clear hF hC;have HX1:=zh (zx w6 (w.heap.size+2) zmC (rmC m y) _ _ HN6.out);have HY1:Hid (Blk (w6.setRow (w.heap.size+2) (rmC m y)) (w.heap.size+3) 42 rs0):=zh ((vJ w6 (w.heap.size+2) (w.heap.size+3) (rmC m y) hne32).trans HR6.out);have HX2:Hid (Blk ((w6.setRow (w.heap.size+2) (rmC m y)).setRow (w.heap.size+3) (rsC a.E a.seq a.fl (.slice A9 n9 c9) (.slice B9 k9 d9) (.slice C9 l9 f9) a.ev a.nx a.nw a.ak)) (w.heap.size+2) 29 (rmC m y)):=zh ((vJ (w6.setRow (w.heap.size+2) (rmC m y)) (w.heap.size+3) (w.heap.size+2) (rsC a.E a.seq a.fl (.slice A9 n9 c9) (.slice B9 k9 d9) (.slice C9 l9 f9) a.ev a.nx a.nw a.ak) hne23).trans HX1.out);have HY2:=zh (zx (w6.setRow (w.heap.size+2) (rmC m y)) (w.heap.size+3) rs0 (rsC a.E a.seq a.fl (.slice A9 n9 c9) (.slice B9 k9 d9) (.slice C9 l9 f9) a.ev a.nx a.nw a.ak) _ _ HY1.out);go_wp2_with (first|(refine zv (o:=⟨none,.store 29 _ _,_,_,_,_⟩) rfl 29 _ _ rfl (w.heap.size+2) (rmC m y) rfl rfl 29 (zmC) HN6.out jk rfl (by simp[rmC,zmC,Value.oneCell']) ?_)|(refine zv (o:=⟨none,.store 42 _ _,_,_,_,_⟩) rfl 42 _ _ rfl (w.heap.size+3) (rsC a.E a.seq a.fl (.slice A9 n9 c9) (.slice B9 k9 d9) (.slice C9 l9 f9) a.ev a.nx a.nw a.ak) rfl rfl 42 (rs0) HY1.out jk rfl (by simp[rsC,Value.oneCell']) ?_));refine zu (gI rfl rfl rfl (zr _ (w.heap.size+2) 29 29 (rmC m y) (0,0) _ HX2.out underlying29 rfl jk) (zr _ (w.heap.size+3) 42 42 (rsC a.E a.seq a.fl (.slice A9 n9 c9) (.slice B9 k9 d9) (.slice C9 l9 f9) a.ev a.nx a.nw a.ak) (0,0) _ HY2.out underlying42 rfl jk)) rfl ?_;exact HGG.out _ _ (HG.out m (AnsR m r) _ _ HNM.out (fun _ h=>h) ⟨y,_,a,rfl,zz (zz HB6.out jo _) jo _,HAa.out,(HO.out.row HN6.out ⟨jd,jd,jd⟩ yS _).row HY1.out ⟨jd,jd,jd⟩ lS _,H6.out.two HSW.out.1 HSW.out.2 HB6.out.size _ _⟩)
end
end Md
end Go.Proofs.YtmomjpolkkbhnaaGreat
