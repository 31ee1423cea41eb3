/- The document's model: Do (printed by gen_mem.py). -/
import Derived.Test.YtmomjpolkkbhnaaGreatQModelRunsRow40
set_option linter.unusedSimpArgs false
set_option linter.unusedVariables false
set_option maxRecDepth 20000
set_option maxHeartbeats 100000000
open Go.Proofs.Tryz
namespace Go.Proofs.YtmomjpolkkbhnaaGreat
namespace Md
open Go.RowKit Ut Tk Qy Qp Ev Ph Cu
theorem xP{P:Program}{o:Oper}{a:Act}{w:World}{R:Value→World→Prop}(ty:TypeId)(x y:Operand)(ho:o.op=.store ty x y)(g:Nat)(cells:Array Value)(hx:a.eval x=.pointer (some ⟨g,0,none⟩))(hy:a.eval y=.agg cells)
  (t:TypeId) (old:Array Value) (hg:w.heap[g]?=some (.cells old t (0,0))) (hi:(P.info? ty).map (·.size)=some cells.size) (hold:old.size=cells.size) (h1:cells.all (·.oneCell')=true) (hR:R undef (w.setRow g cells)):gT P Tr w R ((execOp a.eval o).run P w):=
 IV (by unfold execOp;simp only[ho,hx,hy,Instr.storeAt,Instr.sureAddr,Sem.run_bind,Sem.run_pure,Result.andThen_ok,run_storeVar_row w g t ty old cells hg hi hold h1]) trivial hR
theorem wW:NoS zmC:=fun o s t a b=>by
 rcases zj o 12 with ho|ho
 ·rcases(by omega:o=0∨o=1∨o=2∨o=3∨o=4∨o=5∨o=6∨o=7∨o=8∨o=9∨o=10∨o=11)with rfl|rfl|rfl|rfl|rfl|rfl|rfl|rfl|rfl|rfl|rfl|rfl<;>cases a
 rw[zp (by simpa[zmC]using ho)]at a
 cases a
theorem wH(e:Int)(w:World):Calls prog 48 #[.int .i64 e] w (RaP (fun a=>a=an0 e 0 0) w):=(lW e w).mono (by rintro d c ⟨rfl,b⟩;exact⟨_,_,rfl,b,rfl,iq ..⟩)
section
variable {w:World} {S Se:Nat→Prop} {K:Nat} {m:M} {y:Rz}
theorem MG(h:RAt w S K m y)(hK:K≤59000)(r:Rq)(z:Rw)(hr0:RqAt w r z)(hE:EvsS w Se z.E z.en z.ec r.evs)(hSe:∀b,Se b→b<w.heap.size) :
  Calls prog 19 #[.agg (rmC m y),.agg (rqC r z)] w (nB w S Se K (gD m r) (AnsR m r)):=by
 have hb:zWW w ((((w.alloc (.cells (rmC m y) 29)).alloc (.cells (rqC r z) 37)).alloc (.cells zmC 29)).alloc (.cells rs0 42)):=(((zRR _).alloc jz _).alloc jm _).alloc jm _;have hm:=(((Blk.new w 29 (rmC m y)).alloc (.cells (rqC r z) 37)).alloc (.cells zmC 29)).alloc (.cells rs0 42);have hq:=((Blk.new (w.alloc (.cells (rmC m y) 29)) 37 (rqC r z)).alloc (.cells zmC 29)).alloc (.cells rs0 42);have hn:=(Blk.new ((w.alloc (.cells (rmC m y) 29)).alloc (.cells (rqC r z) 37)) 29 zmC).alloc (.cells rs0 42);have hr:=Blk.new (((w.alloc (.cells (rmC m y) 29)).alloc (.cells (rqC r z) 37)).alloc (.cells zmC 29)) 42 rs0;have z1:(w.alloc (.cells (rmC m y) 29)).heap.size=w.heap.size+1:=jz;have z2:((w.alloc (.cells (rmC m y) 29)).alloc (.cells (rqC r z) 37)).heap.size=w.heap.size+2:=jz;have z3:(((w.alloc (.cells (rmC m y) 29)).alloc (.cells (rqC r z) 37)).alloc (.cells zmC 29)).heap.size=w.heap.size+3:=jz;rw[z1]at hq;rw[z2]at hn;rw[z3]at hr;have H1:=zh (h.below hb);have HM:=zh hm;have HQ:=zh hq;have HN:=zh hn;have HR:=zh hr;have HB:=zh hb;have a7:w.heap.size+4≤(World.heap ((((w.alloc (.cells (rmC m y) 29)).alloc (.cells (rqC r z) 37)).alloc (.cells zmC 29)).alloc (.cells rs0 42))).size:=jz;have a2:=h.few;have l:Hid ((∀b,S b→b<w.heap.size)∧∀b,Se b→b<w.heap.size):=zh ⟨h.lt,hSe⟩;have B:w.heap.size+3≠w.heap.size+2:=jo;have F:w.heap.size+2≠w.heap.size+3:=jo;have au:=zh (hr0.below hb);have a0:=zh (hE.same (fun b aJ=>⟨aJ,hb.block b (hSe b aJ)⟩));have a3:m.ds.length≤y.n:=by rw[h.ds.ln];exact zG _
 have a4:y.n≤m.ds.length:=by rw[h.ds.ln];exact zG _
 have aY:=zh h.ds.ln;have v:=zh h.ok;have HG:Hid (∀m' (A:Ans→Prop) e w',gD m r=m'→(∀a,A a→AnsR m r a)→nB w S Se K m' A e w'→nB w S Se K (gD m r) (AnsR m r) e w'):=zh (fun m' A e w' J T ⟨y',cs,a,e1,e2,e3,e4,e5⟩=>by rw[J];exact⟨y',cs,a,e1,e2,T a e3,e4,e5⟩)
 have ag:Hid (¬(r.op=1∨r.op=2∨r.op=3∨r.op=6)→gD m r=m):=zh (fun hn=>by
  unfold gD
  rw[zH (fun e=>hn (.inl e)),zH (fun e=>hn (.inr (.inl e))),zH (fun e=>hn (.inr (.inr (.inl e)))),zH (fun e=>hn (.inr (.inr (.inr e))))])
 have ai:Hid ((r.op=1→gD m r=(ing m r).1)∧(r.op=2→gD m r={ m with acked:=(m.ds.length:Nat) })∧(r.op=3→gD m r=nP m r.now)∧(r.op=6→gD m r=nS m)):=zh ⟨fun e=>by unfold gD;rw[zI e],fun e=>by unfold gD;rw[zH jo,zI e],fun e=>by unfold gD;rw[zH jo,zH jo,zI e],fun e=>by unfold gD;rw[zH jo,zH jo,zH jo,zI e]⟩;obtain⟨mm,aD⟩:∃mm,gD m r=mm:=⟨_,rfl⟩;obtain⟨ar,aC⟩:∃ar,AnsR m r=ar:=⟨_,rfl⟩;have am:Hid (∀e w',nB w S Se K (gD m r) (AnsR m r) e w'→nB w S Se K mm ar e w'):=zh (fun e w' h=>by rw[←aD,←aC];exact h);rw[aD,aC];have bd:=hb.size;clear hr0 hE hSe aD aC h hb hm hq hn hr z1 z2 z3;go_enter func19,ntmps19
 go_upto_region 1 with(fail);generalize ((((w.alloc (.cells (rmC m y) 29)).alloc (.cells (rqC r z) 37)).alloc (.cells zmC 29)).alloc (.cells rs0 42))=D at *
 have Hc:Hid (∀d,zWW D d→d.cell? ⟨w.heap.size,0,none⟩=some (.int .i64 m.c.size)∧d.cell? ⟨w.heap.size,1,none⟩=some (.int .i64 m.c.age)∧d.cell? ⟨w.heap.size,2,none⟩=some (.int .i64 m.c.retain)∧d.cell? ⟨w.heap.size,3,none⟩=some (.int .i64 m.c.batch)∧d.cell? ⟨w.heap.size,4,none⟩=some (.int .i64 m.c.buckets)∧d.cell? ⟨w.heap.size,5,none⟩=some (.bool m.c.bt)∧d.cell? ⟨w.heap.size,6,none⟩=some (.bool m.c.bb)∧d.cell? ⟨w.heap.size,7,none⟩=some (.slice y.A y.n y.c)∧d.cell? ⟨w.heap.size,8,none⟩=some (.int .i64 m.floor)∧d.cell? ⟨w.heap.size,9,none⟩=some (.int .i64 m.now)∧d.cell? ⟨w.heap.size,10,none⟩=some (.int .i64 m.acked)∧d.cell? ⟨w.heap.size,11,none⟩=some (.slice y.EA y.en y.ec)∧d.cell? ⟨w.heap.size+1,0,none⟩=some (.int .i64 r.op)∧d.cell? ⟨w.heap.size+1,1,none⟩=some (.slice z.E z.en z.ec)∧d.cell? ⟨w.heap.size+1,2,none⟩=some (.bool r.dur)∧d.cell? ⟨w.heap.size+1,3,none⟩=some (.int .i64 r.now)∧d.cell? ⟨w.heap.size+1,4,none⟩=some (.string r.q)∧d.cell? ⟨w.heap.size+1,5,none⟩=some (.int .i64 r.frm)∧d.cell? ⟨w.heap.size+1,6,none⟩=some (.int .i64 r.til)∧d.cell? ⟨w.heap.size+1,7,none⟩=some (.int .i64 r.lim)∧d.cell? ⟨w.heap.size+1,8,none⟩=some (.int .i64 r.width)∧d.cell? ⟨w.heap.size+1,9,none⟩=some (.int .i64 r.after)∧d.cell? ⟨w.heap.size+1,10,none⟩=some (.slice z.C z.cn z.cc)):=zh (fun d hb=>by
  have t:=HM.out.below hb HM.out.lt;have u0:=t.cell 0;have u1:=t.cell 1;have u2:=t.cell 2;have u3:=t.cell 3;have u4:=t.cell 4;have u5:=t.cell 5;have u6:=t.cell 6;have u7:=t.cell 7;have u8:=t.cell 8;have u9:=t.cell 9;have u10:=t.cell 10;have u11:=t.cell 11;have s:=HQ.out.below hb HQ.out.lt;have v0:=s.cell 0;have v1:=s.cell 1;have v2:=s.cell 2;have v3:=s.cell 3;have v4:=s.cell 4;have v5:=s.cell 5;have v6:=s.cell 6;have v7:=s.cell 7;have v8:=s.cell 8;have v9:=s.cell 9;have aN:=s.cell 10;simp only[rmC,rqC,zA,zB,zC]at u0 u1 u2 u3 u4 u5 u6 u7 u8 u9 u10 u11 v0 v1 v2 v3 v4 v5 v6 v7 v8 v9 aN
  exact⟨u0,u1,u2,u3,u4,u5,u6,u7,u8,u9,u10,u11,v0,v1,v2,v3,v4,v5,v6,v7,v8,v9,aN⟩)
 have q0:=HQ.out.cell 0;have q1:=HQ.out.cell 1;have q2:=HQ.out.cell 2;have q3:=HQ.out.cell 3;have q4:=HQ.out.cell 4;have q5:=HQ.out.cell 5;have q6:=HQ.out.cell 6;have q7:=HQ.out.cell 7;have q8:=HQ.out.cell 8;have q9:=HQ.out.cell 9;have aL:=HQ.out.cell 10;simp only[rqC,zA,zB,zC]at q0 q1 q2 q3 q4 q5 q6 q7 q8 q9 aL;by_cases J:r.op=1
 ·skip
  have i:=zh J;have e1:(r.op==1)=true:=by rw[J];rfl
  clear J;have CI:=zh (E0 (Se:=Se) H1.out hK r z au.out a0.out (fun b hb=>by have:=l.out.2 b hb;omega));go_wp2_with (first|(refine wpList_load_row (o:=⟨some 12,.load 29 _,_,_,_,_⟩) rfl 29 _ rfl (w.heap.size) rfl 29 (rmC m y) (0,0) _ HM.out underlying29 rfl jk ?_)|fail);refine CI.out.mono ?_;rintro e w6 ⟨y6,bc,a,rfl,ao,ae,hO,aP⟩;obtain⟨A9,n9,c9,B9,k9,d9,C9,l9,f9,rfl,_⟩:=hO.at_;have HO:=zh hO;have aH:=zh aP;have aE:=zh ae;have V:=zb HN ao;have ap:=zb HR ao;have af:=zt HB ao;have a8:=ao.size;clear hO aP ae ao CI;obtain⟨m6,aB⟩:∃m6,(ing m r).1=m6:=⟨_,rfl⟩;rw[aB]at aH ⊢;have aR:=zh aB;clear aB;have O:=zh (zz w6 (w.heap.size+2) zmC (rmC m6 y6) _ _ V.out);have u:Hid (Blk (w6.setRow (w.heap.size+2) (rmC m6 y6)) (w.heap.size+3) 42 rs0):=zh ((vL w6 (w.heap.size+2) (w.heap.size+3) (rmC m6 y6) B).trans ap.out);have P:Hid (Blk ((w6.setRow (w.heap.size+2) (rmC m6 y6)).setRow (w.heap.size+3) (rsC a.E a.seq a.fl (.slice A9 n9 c9) (.slice B9 k9 d9) (.slice C9 l9 f9) a.ev a.nx a.nw a.ak)) (w.heap.size+2) 29 (rmC m6 y6)):=zh ((vL (w6.setRow (w.heap.size+2) (rmC m6 y6)) (w.heap.size+3) (w.heap.size+2) (rsC a.E a.seq a.fl (.slice A9 n9 c9) (.slice B9 k9 d9) (.slice C9 l9 f9) a.ev a.nx a.nw a.ak) F).trans O.out);have N:=zh (zz (w6.setRow (w.heap.size+2) (rmC m6 y6)) (w.heap.size+3) rs0 (rsC a.E a.seq a.fl (.slice A9 n9 c9) (.slice B9 k9 d9) (.slice C9 l9 f9) a.ev a.nx a.nw a.ak) _ _ u.out);go_wp2_with (first|(refine zx (o:=⟨none,.store 29 _ _,_,_,_,_⟩) rfl 29 _ _ rfl (w.heap.size+2) (rmC m6 y6) rfl rfl 29 (zmC) V.out jk rfl (by simp[rmC,zmC,Value.oneCell']) ?_)|(refine zx (o:=⟨none,.store 42 _ _,_,_,_,_⟩) rfl 42 _ _ rfl (w.heap.size+3) (rsC a.E a.seq a.fl (.slice A9 n9 c9) (.slice B9 k9 d9) (.slice C9 l9 f9) a.ev a.nx a.nw a.ak) rfl rfl 42 (rs0) u.out jk rfl (by simp[rsC,Value.oneCell']) ?_));refine zw (mK rfl rfl rfl (zv _ (w.heap.size+2) 29 29 (rmC m6 y6) (0,0) _ P.out underlying29 rfl jk) (zv _ (w.heap.size+3) 42 42 (rsC a.E a.seq a.fl (.slice A9 n9 c9) (.slice B9 k9 d9) (.slice C9 l9 f9) a.ev a.nx a.nw a.ak) (0,0) _ N.out underlying42 rfl jk)) rfl ?_;refine am.out _ _ (HG.out m6 (fun a=>a=ko m r) _ _ ((ai.out.1 i.out).trans aR.out) (fun a I=>.inl ⟨i.out,I⟩) ⟨y6,_,a,rfl,vI (vI af.out jo _) jo _,aE.out,(HO.out.row V.out ⟨jd,jd,jd⟩ wW _).row u.out ⟨jd,jd,jd⟩ rf _,?_⟩);exact(aH.out.rows (g:=w.heap.size+2) (fun b hb=>by rcases hb with hb|hb|hb;(have:=l.out.1 b hb;omega);(have:=l.out.2 b hb;omega);omega) _ |>.rows (g:=w.heap.size+3) (fun b hb=>by rcases hb with hb|hb|hb;(have:=l.out.1 b hb;omega);(have:=l.out.2 b hb;omega);omega) _).same (fun b hb=>⟨by rcases hb with hb|hb|hb;exact .inl hb;exact .inr (.inl hb);exact .inr (.inr ⟨jo,zT hb.2 jz⟩),rfl⟩) (fun b hb=>by rcases hb with hb|hb|hb;(have:=l.out.1 b hb;simp;omega);(have:=l.out.2 b hb;simp;omega);exact hb.2)
 have e1:(r.op==1)=false:=by rw[zM];exact J
 by_cases T:r.op=2
 ·skip
  have i:=zh T;have e2:(r.op==2)=true:=by rw[T];rfl
  clear J T;have k7:=HM.out.cell 7;have aV:=HM.out.cell 10;simp only[rmC,zA,zB,zC]at k7 aV;have a5:=HM.out.frozen 10
  have Z:Hid (Blk (D.setCell ⟨w.heap.size,10,none⟩ (.int .i64 ((y.n:Nat)))) w.heap.size 29 (rmC { m with acked:=(y.n:Nat) } y)):=zh (by
   have:=HM.out.set_ 10 (.int .i64 ((y.n:Nat)))
   simpa[rmC]using this)
  have ad:=zh (HN.out.far (p:=⟨w.heap.size,10,none⟩) (show w.heap.size+2≠w.heap.size by omega) (.int .i64 ((y.n:Nat))));have aj:=zh (HR.out.far (p:=⟨w.heap.size,10,none⟩) (show w.heap.size+3≠w.heap.size by omega) (.int .i64 ((y.n:Nat))));have ah:=zh (HB.out.setCell (p:=⟨w.heap.size,10,none⟩) (zG _) (.int .i64 ((y.n:Nat))));have H3:Hid (RAt (D.setCell ⟨w.heap.size,10,none⟩ (.int .i64 ((y.n:Nat)))) S K { m with acked:=(y.n:Nat) } y):=zh ((H1.out.same (S':=S) (fun b hb=>⟨hb,vN _ _ _ _ (fun e=>by have e:b=w.heap.size:=e;have:=l.out.1 b hb;omega)⟩) (fun b hb=>zT (H1.out.lt b hb) (by simp[World.setCell]))).set rfl (⟨v.out.c,v.out.ret,v.out.doc,v.out.fl,v.out.nw,by show (0:Int)≤((y.n:Nat):Int);omega,by show ((y.n:Nat):Int)≤((m.ds.length:Nat):Int);omega⟩))
  go_upto_region 7 with(fail);generalize D.setCell ⟨w.heap.size,10,none⟩ (.int .i64 ((y.n:Nat)))=H at *;obtain⟨k,L⟩:∃k:M,({ m with acked:=(y.n:Nat) }:M)=k:=⟨_,rfl⟩;rw[L]at Z H3;have W:=zh L;clear L;have O:=zh (zz H (w.heap.size+2) zmC (rmC k y) _ _ ad.out);have u:Hid (Blk (H.setRow (w.heap.size+2) (rmC k y)) (w.heap.size+3) 42 rs0):=zh ((vL H (w.heap.size+2) (w.heap.size+3) (rmC k y) B).trans aj.out);have P:Hid (Blk ((H.setRow (w.heap.size+2) (rmC k y)).setRow (w.heap.size+3) (rs0)) (w.heap.size+2) 29 (rmC k y)):=zh ((vL (H.setRow (w.heap.size+2) (rmC k y)) (w.heap.size+3) (w.heap.size+2) (rs0) F).trans O.out);have N:=zh (zz (H.setRow (w.heap.size+2) (rmC k y)) (w.heap.size+3) rs0 (rs0) _ _ u.out);go_wp2_with (first|(refine wpList_load_row (o:=⟨some 23,.load 29 _,_,_,_,_⟩) rfl 29 _ rfl (w.heap.size) rfl 29 (rmC k y) (0,0) _ Z.out underlying29 rfl jk ?_)|(refine zx (o:=⟨none,.store 29 _ _,_,_,_,_⟩) rfl 29 _ _ rfl (w.heap.size+2) (rmC k y) rfl rfl 29 (zmC) ad.out jk rfl (by simp[rmC,zmC,Value.oneCell']) ?_)|(refine zx (o:=⟨none,.store 42 _ _,_,_,_,_⟩) rfl 42 _ _ rfl (w.heap.size+3) (rs0) rfl rfl 42 (rs0) u.out jk rfl (by simp[rsC,Value.oneCell']) ?_));refine zw (mK rfl rfl rfl (zv _ (w.heap.size+2) 29 29 (rmC k y) (0,0) _ P.out underlying29 rfl jk) (zv _ (w.heap.size+3) 42 42 (rs0) (0,0) _ N.out underlying42 rfl jk)) rfl ?_;exact am.out _ _ (HG.out k (fun a=>a=an0 0 0 0) _ _ ((ai.out.2.1 i.out).trans (by rw[←W.out,aY.out])) (fun a I=>.inr (.inl ⟨i.out,I⟩)) ⟨y,_,an0 0 0 0,rfl,vI (vI ah.out jo _) jo _,rfl,iq ..,H3.out.two l.out.1 l.out.2 ah.out.size _ _⟩)
 have e2:(r.op==2)=false:=by rw[zM];exact T
 by_cases al:r.op=4∨r.op=5
 ·have i:=zh al;have e3:(r.op==3)=false:=by rcases al with h|h<;>rw[h]<;>rfl
  clear J T;rcases al with h4|h4
  case' inl=>have e4:(r.op==4)=true:=by rw[h4];rfl
  case' inr=>
   have e4:(r.op==4)=false:=by rw[h4];rfl
   have e5:(r.op==5)=true:=by rw[h4];rfl
  all_goals
   clear h4;have V:=HN;have ap:=HR;have af:=HB;have O:=zh (zz D (w.heap.size+2) zmC (rmC m y) _ _ V.out);have u:Hid (Blk (D.setRow (w.heap.size+2) (rmC m y)) (w.heap.size+3) 42 rs0):=zh ((vL D (w.heap.size+2) (w.heap.size+3) (rmC m y) B).trans ap.out);have P:Hid (Blk ((D.setRow (w.heap.size+2) (rmC m y)).setRow (w.heap.size+3) (rs0)) (w.heap.size+2) 29 (rmC m y)):=zh ((vL (D.setRow (w.heap.size+2) (rmC m y)) (w.heap.size+3) (w.heap.size+2) (rs0) F).trans O.out);have N:=zh (zz (D.setRow (w.heap.size+2) (rmC m y)) (w.heap.size+3) rs0 (rs0) _ _ u.out);go_wp2_with (first|(refine wpList_load_row (o:=⟨some 42,.load 29 _,_,_,_,_⟩) rfl 29 _ rfl (w.heap.size) rfl 29 (rmC m y) (0,0) _ HM.out underlying29 rfl jk ?_)|(refine zx (o:=⟨none,.store 29 _ _,_,_,_,_⟩) rfl 29 _ _ rfl (w.heap.size+2) (rmC m y) rfl rfl 29 (zmC) V.out jk rfl (by simp[rmC,zmC,Value.oneCell']) ?_)|(refine zx (o:=⟨none,.store 42 _ _,_,_,_,_⟩) rfl 42 _ _ rfl (w.heap.size+3) (rs0) rfl rfl 42 (rs0) u.out jk rfl (by simp[rsC,Value.oneCell']) ?_));refine zw (mK rfl rfl rfl (zv _ (w.heap.size+2) 29 29 (rmC m y) (0,0) _ P.out underlying29 rfl jk) (zv _ (w.heap.size+3) 42 42 (rs0) (0,0) _ N.out underlying42 rfl jk)) rfl ?_;exact am.out _ _ (HG.out m (fun a=>a=an0 0 0 0) _ _ (ag.out (by rcases i.out with h|h<;>rw[h]<;>decide)) (fun a I=>.inr (.inr (.inr (.inl ⟨i.out,I⟩)))) ⟨y,_,an0 0 0 0,rfl,vI (vI af.out jo _) jo _,rfl,iq ..,H1.out.two l.out.1 l.out.2 af.out.size _ _⟩)
 have h4:¬r.op=4:=fun h=>al (.inl h)
 have h5:¬r.op=5:=fun h=>al (.inr h)
 clear al;have e4:(r.op==4)=false:=by rw[zM];exact h4
 have e5:(r.op==5)=false:=by rw[zM];exact h5
 by_cases h7:r.op=7
 case' pos=>
  have i:=zh h7;have e3:(r.op==3)=false:=by rw[h7];rfl
  have e6:(r.op==6)=false:=by rw[h7];rfl
  have e7:(r.op==7)=true:=by rw[h7];rfl
  clear J T h4 h5 h7;have CC:=zh (fun d (j:zWW D d)=>Ey (H1.out.below j) jo r z);have U:Hid (∀a,SeA m r a→AnsR m r a):=zh (fun a I=>.inr (.inr (.inr (.inr (.inr (.inl ⟨i.out,I⟩))))));have aa:Hid (gD m r=m):=zh (ag.out (by rw[i.out];decide))
  go_upto_region 22 with(fail)
 rotate_left;have e7:(r.op==7)=false:=by rw[zM];exact h7
 by_cases h8:r.op=8
 case' pos=>
  have i:=zh h8;have e3:(r.op==3)=false:=by rw[h8];rfl
  have e6:(r.op==6)=false:=by rw[h8];rfl
  have e8:(r.op==8)=true:=by rw[h8];rfl
  clear J T h4 h5 h7 h8;have CC:=zh (fun d (j:zWW D d)=>IU (H1.out.below j) jo r z au.out.wd);have U:Hid (∀a,HgA m r a→AnsR m r a):=zh (fun a I=>.inr (.inr (.inr (.inr (.inr (.inr (.inl ⟨i.out,I⟩)))))));have aa:Hid (gD m r=m):=zh (ag.out (by rw[i.out];decide))
  go_upto_region 24 with(fail)
 rotate_left;have e8:(r.op==8)=false:=by rw[zM];exact h8
 by_cases G:r.op=10
 case' pos=>
  have i:=zh G;have e3:(r.op==3)=false:=by rw[G];rfl
  have e6:(r.op==6)=false:=by rw[G];rfl
  have e9:(r.op==9)=false:=by rw[G];rfl
  have a1:(r.op==10)=true:=by rw[G];rfl
  clear J T h4 h5 h7 h8 G;have CC:=zh (fun d (j:zWW D d)=>IR (H1.out.below j) jo r z (au.out.below j).cur au.out.cn);have U:Hid (∀a,TlA m r a→AnsR m r a):=zh (fun a I=>.inr (.inr (.inr (.inr (.inr (.inr (.inr (.inr (.inl ⟨i.out,I⟩)))))))));have aa:Hid (gD m r=m):=zh (ag.out (by rw[i.out];decide))
  go_upto_region 28 with(fail)
 rotate_left;have a1:(r.op==10)=false:=by rw[zM];exact G
 by_cases h9:r.op=9
 case' pos=>
  have i:=zh h9;have e3:(r.op==3)=false:=by rw[h9];rfl
  have e6:(r.op==6)=false:=by rw[h9];rfl
  have e9:(r.op==9)=true:=by rw[h9];rfl
  clear J T h4 h5 h7 h8 h9 G;have CC:=zh (fun d (j:zWW D d)=>IQ (w:=d) r z);have U:Hid (∀a,OpA r a→AnsR m r a):=zh (fun a I=>.inr (.inr (.inr (.inr (.inr (.inr (.inr (.inl ⟨i.out,I⟩))))))));have aa:Hid (gD m r=m):=zh (ag.out (by rw[i.out];decide))
  go_upto_region 26 with(fail)
 rotate_left;have e9:(r.op==9)=false:=by rw[zM];exact h9
 by_cases X:r.op=11
 case' pos=>
  have i:=zh X;have e3:(r.op==3)=false:=by rw[X];rfl
  have e6:(r.op==6)=false:=by rw[X];rfl
  have aZ:(r.op==11)=true:=by rw[X];rfl
  clear J T h4 h5 h7 h8 h9 G X;have CC:=zh (fun d (j:zWW D d)=>F6 (H1.out.below j) jo);have U:Hid (∀a,a=sK m→AnsR m r a):=zh (fun a I=>.inr (.inr (.inr (.inr (.inr (.inr (.inr (.inr (.inr (.inl ⟨i.out,I⟩))))))))));have aa:Hid (gD m r=m):=zh (ag.out (by rw[i.out];decide))
  go_upto_region 30 with(fail)
 rotate_left;have aZ:(r.op==11)=false:=by rw[zM];exact X
 by_cases h3:r.op=3
 case' pos=>
  have i:=zh h3;have e3:(r.op==3)=true:=by rw[h3];rfl
  clear J T h3 h4 h5 h7 h8 h9 G X;have k9:=HM.out.cell 9;simp only[rmC,zA,zB,zC]at k9;by_cases Y:r.now≤m.now
  case' pos=>
   have R:=zh Y;have CC:=zh (fun d (j:zWW D d)=>wH 271 d);have U:Hid (∀a,a=an0 271 0 0→AnsR m r a):=zh (fun a I=>.inr (.inr (.inl ⟨i.out,by rw[I];unfold mE;rw[zI R.out]⟩)));have aa:Hid (gD m r=m):=zh ((ai.out.2.2.1 i.out).trans (by unfold nP;rw[zI R.out]))
   go_upto_region 10 with(fail);clear k9
  case' neg=>
   have R:=zh Y;have a6:m.now<r.now:=jo;have ba:=HM.out.frozen 9
   have Z:Hid (Blk (D.setCell ⟨w.heap.size,9,none⟩ (.int .i64 (r.now))) w.heap.size 29 (rmC { m with now:=r.now } y)):=zh (by
    have:=HM.out.set_ 9 (.int .i64 (r.now))
    simpa[rmC]using this)
   have ad:=zh (HN.out.far (p:=⟨w.heap.size,9,none⟩) (show w.heap.size+2≠w.heap.size by omega) (.int .i64 (r.now)));have aj:=zh (HR.out.far (p:=⟨w.heap.size,9,none⟩) (show w.heap.size+3≠w.heap.size by omega) (.int .i64 (r.now)));have ah:=zh (HB.out.setCell (p:=⟨w.heap.size,9,none⟩) (zG _) (.int .i64 (r.now)));have H3:Hid (RAt (D.setCell ⟨w.heap.size,9,none⟩ (.int .i64 (r.now))) S K { m with now:=r.now } y):=zh ((H1.out.same (S':=S) (fun b hb=>⟨hb,vN _ _ _ _ (fun e=>by have e:b=w.heap.size:=e;have:=l.out.1 b hb;omega)⟩) (fun b hb=>zT (H1.out.lt b hb) (by simp[World.setCell]))).set rfl (⟨v.out.c,v.out.ret,v.out.doc,v.out.fl,au.out.nw,v.out.ak⟩))
   go_upto_region 12 with(fail);generalize D.setCell ⟨w.heap.size,9,none⟩ (.int .i64 (r.now))=H at *;obtain⟨k,L⟩:∃k:M,({ m with now:=r.now }:M)=k:=⟨_,rfl⟩;rw[L]at Z H3;have W:=zh L;clear L;have O:=zh (zz H (w.heap.size+2) zmC (rmC k y) _ _ ad.out);have u:Hid (Blk (H.setRow (w.heap.size+2) (rmC k y)) (w.heap.size+3) 42 rs0):=zh ((vL H (w.heap.size+2) (w.heap.size+3) (rmC k y) B).trans aj.out);have P:Hid (Blk ((H.setRow (w.heap.size+2) (rmC k y)).setRow (w.heap.size+3) (rs0)) (w.heap.size+2) 29 (rmC k y)):=zh ((vL (H.setRow (w.heap.size+2) (rmC k y)) (w.heap.size+3) (w.heap.size+2) (rs0) F).trans O.out);have N:=zh (zz (H.setRow (w.heap.size+2) (rmC k y)) (w.heap.size+3) rs0 (rs0) _ _ u.out);go_wp2_with (first|(refine wpList_load_row (o:=⟨some 37,.load 29 _,_,_,_,_⟩) rfl 29 _ rfl (w.heap.size) rfl 29 (rmC k y) (0,0) _ Z.out underlying29 rfl jk ?_)|(refine zx (o:=⟨none,.store 29 _ _,_,_,_,_⟩) rfl 29 _ _ rfl (w.heap.size+2) (rmC k y) rfl rfl 29 (zmC) ad.out jk rfl (by simp[rmC,zmC,Value.oneCell']) ?_)|(refine zx (o:=⟨none,.store 42 _ _,_,_,_,_⟩) rfl 42 _ _ rfl (w.heap.size+3) (rs0) rfl rfl 42 (rs0) u.out jk rfl (by simp[rsC,Value.oneCell']) ?_));refine zw (mK rfl rfl rfl (zv _ (w.heap.size+2) 29 29 (rmC k y) (0,0) _ P.out underlying29 rfl jk) (zv _ (w.heap.size+3) 42 42 (rs0) (0,0) _ N.out underlying42 rfl jk)) rfl ?_;exact am.out _ _ (HG.out k (fun a=>a=an0 0 0 0) _ _ ((ai.out.2.2.1 i.out).trans (by rw[←W.out];unfold nP;rw[zH (by have:=R.out;omega)])) (fun a I=>.inr (.inr (.inl ⟨i.out,by rw[I];unfold mE;rw[zH (by have:=R.out;omega)]⟩))) ⟨y,_,an0 0 0 0,rfl,vI (vI ah.out jo _) jo _,rfl,iq ..,H3.out.two l.out.1 l.out.2 ah.out.size _ _⟩)
 rotate_left;have e3:(r.op==3)=false:=by rw[zM];exact h3
 by_cases h6:r.op=6
 case' pos=>
  have i:=zh h6;have e6:(r.op==6)=true:=by rw[h6];rfl
  clear J T h3 h4 h5 h6 h7 h8 h9 G X;have k9:=HM.out.cell 9;simp only[rmC,zA,zB,zC]at k9;by_cases Y:m.now=-9223372036854775808
  case' pos=>
   have R:=zh Y;have aQ:(m.now == -9223372036854775808)=true:=by rw[Y];rfl
   clear Y;have CC:=zh (fun d (j:zWW D d)=>wH 271 d);have U:Hid (∀a,a=an0 271 0 0→AnsR m r a):=zh (fun a I=>.inr (.inr (.inr (.inr (.inl ⟨i.out,by rw[I];unfold oN;rw[zI R.out]⟩)))));have aa:Hid (gD m r=m):=zh ((ai.out.2.2.2 i.out).trans (by unfold nS;rw[zI R.out]))
   go_upto_region 18 with(fail);clear k9
  case' neg=>
   have R:=zh Y;have aQ:(m.now == -9223372036854775808)=false:=by simpa using Y
   clear Y;have CF:=zh (F4 H1.out);obtain⟨fr,ay⟩:∃fr,lK m=fr:=⟨_,rfl⟩
   have ax:I64 fr:=by
    have J:=v.out.c;unfold okC at J;have T:=v.out.fl;have h3:=v.out.nw;rw[←ay];unfold lK I64 at *
    split<;>omega
   rw[ay]at CF;have aM:=zh ay;have aG:=zh ax;clear ay ax;go_wp2_with (first|(refine wpList_load_row (o:=⟨some 51,.load 29 _,_,_,_,_⟩) rfl 29 _ rfl (w.heap.size) rfl 29 (rmC m y) (0,0) _ HM.out underlying29 rfl jk ?_)|fail);refine CF.out.mono ?_;rintro e w2 ⟨rfl,an⟩;have aF:=zb HM an;have aS:=zb HN an;have aT:=zb HR an;have aW:=zt HB an;have aO:=zh (H1.out.below an);clear an CF k9 q0 q1 q2 q3 q4 q5 q6 q7 q8 q9 aL H1 HM HN HR HB Hc;have aU:=aF.out.frozen 8;have k8:=aF.out.cell 8;simp only[rmC,zA,zB,zC]at k8
   have Z:Hid (Blk (w2.setCell ⟨w.heap.size,8,none⟩ (.int .i64 (fr))) w.heap.size 29 (rmC { m with floor:=fr } y)):=zh (by
    have:=aF.out.set_ 8 (.int .i64 (fr))
    simpa[rmC]using this)
   have ad:=zh (aS.out.far (p:=⟨w.heap.size,8,none⟩) (show w.heap.size+2≠w.heap.size by omega) (.int .i64 (fr)));have aj:=zh (aT.out.far (p:=⟨w.heap.size,8,none⟩) (show w.heap.size+3≠w.heap.size by omega) (.int .i64 (fr)));have ah:=zh (aW.out.setCell (p:=⟨w.heap.size,8,none⟩) (zG _) (.int .i64 (fr)));have H3:Hid (RAt (w2.setCell ⟨w.heap.size,8,none⟩ (.int .i64 (fr))) S K { m with floor:=fr } y):=zh ((aO.out.same (S':=S) (fun b hb=>⟨hb,vN _ _ _ _ (fun e=>by have e:b=w.heap.size:=e;have:=l.out.1 b hb;omega)⟩) (fun b hb=>zT (aO.out.lt b hb) (by simp[World.setCell]))).set rfl (⟨v.out.c,v.out.ret,v.out.doc,aG.out,v.out.nw,v.out.ak⟩))
   go_upto_region 20 with(fail);generalize w2.setCell ⟨w.heap.size,8,none⟩ (.int .i64 (fr))=H at *;obtain⟨k,L⟩:∃k:M,({ m with floor:=fr }:M)=k:=⟨_,rfl⟩;rw[L]at Z H3;have W:=zh L;clear L;clear k8 aU;have aX:Hid (k.floor=fr):=zh (by rw[←W.out]);have aA:=zh ad.out.drew;have az:=zh aj.out.drew;refine kK 5 (fF [(4,⟨Unit,fun _=>undef,fun _ d=>d=H.drew.setRow (w.heap.size+2) (rmC k y)⟩)]) (fun d=>Blk d w.heap.size 29 (rmC k y)∧Blk d (w.heap.size+3) 42 rs0) (fun d=>d=H.drew) jk jk (kN jk) ⟨Z.out,aj.out⟩ rfl ?_;simp only[zX,List.take_zero,zo,List.drop_zero]
   iterate 4
    refine ik _ ?_ rfl jr jr (fun d j=>?_) ?_;rotate_left
    ·have u0:=j.1.cell 0;have u1:=j.1.cell 1;have u2:=j.1.cell 2;have u3:=j.1.cell 3;have u4:=j.1.cell 4;have u5:=j.1.cell 5;have u6:=j.1.cell 6;have u7:=j.1.cell 7;have u8:=j.1.cell 8;have u9:=j.1.cell 9;have u10:=j.1.cell 10;have u11:=j.1.cell 11;simp only[rmC,zA,zB,zC]at u0 u1 u2 u3 u4 u5 u6 u7 u8 u9 u10 u11;go_simp;all_goals with_reducible rfl
    try simp only[Act.put,zD,zE,zF]
   refine kw 5 _ rfl jr jr (fun d j hI=>?_) (fun x=>?_)
   ·subst hI;exact xP 29 _ _ rfl (w.heap.size+2) (rmC k y) rfl rfl 29 zmC aA.out jk rfl (by simp[rmC,zmC,Value.oneCell']) ⟨⟨(vL H.drew (w.heap.size+2) w.heap.size (rmC k y) jo).trans Z.out.drew,(vL H.drew (w.heap.size+2) (w.heap.size+3) (rmC k y) B).trans az.out⟩,(),rfl,rfl⟩
   obtain⟨⟩:=x;try simp only[Act.put,zD,zE,zF]
   refine kT (fun w6 j hI=>?_);subst hI;clear j;have O:Hid (Blk (H.drew.setRow (w.heap.size+2) (rmC k y)) (w.heap.size+2) 29 (rmC k y)):=zh (zz H.drew (w.heap.size+2) zmC (rmC k y) _ _ aA.out);have u:Hid (Blk (H.drew.setRow (w.heap.size+2) (rmC k y)) (w.heap.size+3) 42 rs0):=zh ((vL H.drew (w.heap.size+2) (w.heap.size+3) (rmC k y) B).trans az.out);have aI:=zh (vI (g:=w.heap.size+2) ah.out.drew jo (rmC k y));have H8:Hid (RAt (H.drew.setRow (w.heap.size+2) (rmC k y)) S K k y):=zh (RAt.rows (w:=H.drew) (H3.out.same (fun b hb=>⟨hb,rfl⟩) H3.out.lt) (fun b hb=>by have:=l.out.1 b hb;omega) (rmC k y));generalize H.drew.setRow (w.heap.size+2) (rmC k y)=w8 at *;have P:Hid (Blk (w8.setRow (w.heap.size+3) (rsC 0 0 k.floor nil nil nil 0 0 0 0)) (w.heap.size+2) 29 (rmC k y)):=zh ((vL w8 (w.heap.size+3) (w.heap.size+2) (rsC 0 0 k.floor nil nil nil 0 0 0 0) F).trans O.out);have N:=zh (zz w8 (w.heap.size+3) rs0 (rsC 0 0 k.floor nil nil nil 0 0 0 0) _ _ u.out);go_wp2_with (first|(refine zx (o:=⟨none,.store 42 _ _,_,_,_,_⟩) rfl 42 _ _ rfl (w.heap.size+3) (rsC 0 0 k.floor nil nil nil 0 0 0 0) rfl rfl 42 (rs0) u.out jk rfl (by simp[rsC,Value.oneCell']) ?_));refine zw (mK rfl rfl rfl (zv _ (w.heap.size+2) 29 29 (rmC k y) (0,0) _ P.out underlying29 rfl jk) (zv _ (w.heap.size+3) 42 42 (rsC 0 0 k.floor nil nil nil 0 0 0 0) (0,0) _ N.out underlying42 rfl jk)) rfl ?_;have h9:=H8.out.rows (g:=w.heap.size+3) (fun b hb=>by have:=l.out.1 b hb;omega) (rsC 0 0 k.floor nil nil nil 0 0 0 0);have hz:(w8.setRow (w.heap.size+3) (rsC 0 0 k.floor nil nil nil 0 0 0 0)).heap.size=w8.heap.size:=jz;have be:=aI.out.size;exact am.out _ _ (HG.out k (fun a=>a=an0 0 0 fr) _ _ ((ai.out.2.2.2 i.out).trans (by rw[←W.out,←aM.out];unfold nS;rw[zH R.out])) (fun a I=>.inr (.inr (.inr (.inr (.inl ⟨i.out,by rw[I];unfold oN;rw[zH R.out,aM.out]⟩))))) ⟨y,_,an0 0 0 fr,rfl,vI aI.out jo _,rfl,by rw[←aX.out];exact iq ..,(h9.mono (fun b hb=>.inl hb) (fun b hb=>by rw[hz]at hb ⊢;rcases hb with hb|hb|hb;(have:=l.out.1 b hb;omega);(have:=l.out.2 b hb;omega);exact hb.2)).more jo⟩)
 rotate_left;have e6:(r.op==6)=false:=by rw[zM];exact h6
 have aK:Hid (¬(1≤r.op∧r.op≤11)):=zh jo;clear J T h3 h4 h5 h6 h7 h8 h9 G X;have CC:=zh (fun d (j:zWW D d)=>wH 272 d);have U:Hid (∀a,a=an0 272 0 0→AnsR m r a):=zh (fun a I=>.inr (.inr (.inr (.inr (.inr (.inr (.inr (.inr (.inr (.inr ⟨aK.out,I⟩))))))))));have aa:Hid (gD m r=m):=zh (ag.out (by have:=aK.out;omega))
 go_upto_region 2 with(fail);rotate_left
 iterate 3
  refine kJ 4 (fF [(3,⟨Array Value,fun cs=>.agg cs,fun cs d=>∃a,AnsR m r a∧AnsO d cs a⟩)]) (fun d=>zWW D d) (fun D w2=>zWW D w2) jk jk (fN (fun x wa wb hg ⟨a,J,T⟩=>⟨a,J,T.below hg⟩) (fQ)) ((zy _ _).drew) ?_;simp only[zX,List.take_zero,zo,List.drop_zero]
  iterate 3
   refine fG _ ?_ rfl jr jr (fun d j hD=>?_) ?_;rotate_left
   ·have aw:=Hc.out d j;go_simp;all_goals with_reducible rfl
   try simp only[Act.put,zD,zE,zF]
  refine fo 4 _ rfl jr jr (fun d j hD=>?_) (fun x=>?_)
  ·refine fZ (f:=?_) (args:=?_) ?_ ?_;rotate_left 2
   ·have aw:=Hc.out d j;go_simp;all_goals first|with_reducible rfl|(refine⟨?_,?_⟩<;>with_reducible rfl)
   refine(CC.out d j).mono ?_;rintro e w9 ⟨ab,a9,rfl,ac,aq,av⟩;exact⟨_,rfl,ac,j.trans (ac.mono j.size),ab,rfl,a9,U.out a9 aq,av⟩
  rename Array Value=>ab
  try simp only[Act.put,zD,zE,zF]
  refine fW (fun w6 j hF=>?_);obtain⟨a,ae,hO⟩:=gZ (hF 3) jd;rotate_left
 iterate 2
  refine kJ 3 (fF [(2,⟨Array Value,fun cs=>.agg cs,fun cs d=>∃a,AnsR m r a∧AnsO d cs a⟩)]) (fun d=>zWW D d) (fun D w2=>zWW D w2) jk jk (fN (fun x wa wb hg ⟨a,J,T⟩=>⟨a,J,T.below hg⟩) (fQ)) ((zy _ _).drew) ?_;simp only[zX,List.take_zero,zo,List.drop_zero]
  iterate 2
   refine fG _ ?_ rfl jr jr (fun d j hD=>?_) ?_;rotate_left
   ·have aw:=Hc.out d j;go_simp;all_goals with_reducible rfl
   try simp only[Act.put,zD,zE,zF]
  refine fo 3 _ rfl jr jr (fun d j hD=>?_) (fun x=>?_)
  ·refine fZ (f:=?_) (args:=?_) ?_ ?_;rotate_left 2
   ·have aw:=Hc.out d j;go_simp;all_goals first|with_reducible rfl|(refine⟨?_,?_⟩<;>with_reducible rfl)
   refine(CC.out d j).mono ?_;rintro e w9 ⟨ab,a9,rfl,ac,aq,av⟩;exact⟨_,rfl,ac,j.trans (ac.mono j.size),ab,rfl,a9,U.out a9 aq,av⟩
  rename Array Value=>ab
  try simp only[Act.put,zD,zE,zF]
  refine fW (fun w6 j hF=>?_);obtain⟨a,ae,hO⟩:=gZ (hF 2) jd;rotate_left
 iterate 3
  refine kJ 2 (fF [(1,⟨Array Value,fun cs=>.agg cs,fun cs d=>∃a,AnsR m r a∧AnsO d cs a⟩)]) (fun d=>zWW D d) (fun D w2=>zWW D w2) jk jk (fN (fun x wa wb hg ⟨a,J,T⟩=>⟨a,J,T.below hg⟩) (fQ)) ((zy _ _).drew) ?_;simp only[zX,List.take_zero,zo,List.drop_zero];refine fG 1 ?_ rfl jr jr (fun d j hD=>?_) ?_;rotate_left
  ·have aw:=Hc.out d j;go_simp;all_goals with_reducible rfl
  try simp only[Act.put,zD,zE,zF]
  refine fo 2 _ rfl jr jr (fun d j hD=>?_) (fun x=>?_)
  ·refine fZ (f:=?_) (args:=?_) ?_ ?_;rotate_left 2
   ·have aw:=Hc.out d j;go_simp;all_goals first|with_reducible rfl|(refine⟨?_,?_⟩<;>with_reducible rfl)
   refine(CC.out d j).mono ?_;rintro e w9 ⟨ab,a9,rfl,ac,aq,av⟩;exact⟨_,rfl,ac,j.trans (ac.mono j.size),ab,rfl,a9,U.out a9 aq,av⟩
  rename Array Value=>ab
  try simp only[Act.put,zD,zE,zF]
  refine fW (fun w6 j hF=>?_);obtain⟨a,ae,hO⟩:=gZ (hF 1) jd;rotate_left
 all_goals
  obtain⟨A9,n9,c9,B9,k9,d9,C9,l9,f9,rfl,_⟩:=hO.at_;have aE:=zh ae;have HO:=zh hO;clear ae hO;have V:=zb HN j;have ap:=zb HR j;have H6:=zh (H1.out.below j);have af:=zt HB j;clear hF j;have O:=zh (zz w6 (w.heap.size+2) zmC (rmC m y) _ _ V.out);have u:Hid (Blk (w6.setRow (w.heap.size+2) (rmC m y)) (w.heap.size+3) 42 rs0):=zh ((vL w6 (w.heap.size+2) (w.heap.size+3) (rmC m y) B).trans ap.out);have P:Hid (Blk ((w6.setRow (w.heap.size+2) (rmC m y)).setRow (w.heap.size+3) (rsC a.E a.seq a.fl (.slice A9 n9 c9) (.slice B9 k9 d9) (.slice C9 l9 f9) a.ev a.nx a.nw a.ak)) (w.heap.size+2) 29 (rmC m y)):=zh ((vL (w6.setRow (w.heap.size+2) (rmC m y)) (w.heap.size+3) (w.heap.size+2) (rsC a.E a.seq a.fl (.slice A9 n9 c9) (.slice B9 k9 d9) (.slice C9 l9 f9) a.ev a.nx a.nw a.ak) F).trans O.out);have N:=zh (zz (w6.setRow (w.heap.size+2) (rmC m y)) (w.heap.size+3) rs0 (rsC a.E a.seq a.fl (.slice A9 n9 c9) (.slice B9 k9 d9) (.slice C9 l9 f9) a.ev a.nx a.nw a.ak) _ _ u.out);go_wp2_with (first|(refine zx (o:=⟨none,.store 29 _ _,_,_,_,_⟩) rfl 29 _ _ rfl (w.heap.size+2) (rmC m y) rfl rfl 29 (zmC) V.out jk rfl (by simp[rmC,zmC,Value.oneCell']) ?_)|(refine zx (o:=⟨none,.store 42 _ _,_,_,_,_⟩) rfl 42 _ _ rfl (w.heap.size+3) (rsC a.E a.seq a.fl (.slice A9 n9 c9) (.slice B9 k9 d9) (.slice C9 l9 f9) a.ev a.nx a.nw a.ak) rfl rfl 42 (rs0) u.out jk rfl (by simp[rsC,Value.oneCell']) ?_));refine zw (mK rfl rfl rfl (zv _ (w.heap.size+2) 29 29 (rmC m y) (0,0) _ P.out underlying29 rfl jk) (zv _ (w.heap.size+3) 42 42 (rsC a.E a.seq a.fl (.slice A9 n9 c9) (.slice B9 k9 d9) (.slice C9 l9 f9) a.ev a.nx a.nw a.ak) (0,0) _ N.out underlying42 rfl jk)) rfl ?_;exact am.out _ _ (HG.out m (AnsR m r) _ _ aa.out (fun _ h=>h) ⟨y,_,a,rfl,vI (vI af.out jo _) jo _,aE.out,(HO.out.row V.out ⟨jd,jd,jd⟩ wW _).row u.out ⟨jd,jd,jd⟩ rf _,H6.out.two l.out.1 l.out.2 af.out.size _ _⟩)
end
end Md

namespace Md
open Go.RowKit Ut Tk Qy Qp Ev Cu
structure Lp (w0:World) (n0 X rb K:Nat) (v lv:Value) (mp md:M) (y:Rz) (S:Nat→Prop) (Lc:List UInt8) (wr:World):Prop where
 at_:At wr n0 X K v mp
 blk:Blk wr rb 29 (rmC md y)
 rt:RAt wr S K md y
 far:Far S X v
 frb:∀b,S b→rb<b
 last:∃base,wr.ownsRow base 5 1 lv Lc.length (bv Lc)
 ll:Lc.length≤1048576
 bel:zWW w0 wr
 hx:n0≤X
 h0:w0.heap.size≤n0∧w0.heap.size≤rb
section
variable {w0 w w':World} {n0 X rb K K2:Nat} {v v' lv:Value} {mp mp' md md':M} {y y':Rz} {S Se:Nat→Prop} {Lc:List UInt8}
theorem Lp.below(h:Lp w0 n0 X rb K v lv mp md y S Lc w)(hb:zWW w w'):Lp w0 n0 X rb K v lv mp md y S Lc w':=by
 obtain⟨a,b⟩:=h.last;exact⟨h.at_.below hb,h.blk.below hb h.blk.lt,h.rt.below hb,h.far,h.frb,⟨a,b.kept (fH hb none) (by cases hv:lv.ownBlock<;>simp)⟩,h.ll,h.bel.trans (hb.mono h.bel.size),h.hx,h.h0⟩
theorem Lp.more(h:Lp w0 n0 X rb K v lv mp md y S Lc w)(hK:K≤K2):Lp w0 n0 X rb K2 v lv mp md y S Lc w:=⟨h.at_.more hK,h.blk,h.rt.more hK,h.far,h.frb,h.last,h.ll,h.bel,h.hx,h.h0⟩
theorem Lp.step(h:Lp w0 n0 X rb K v lv mp md y S Lc w)(hA:At w' n0 X (K+64) v' mp')(hc:Chg (fun b=>b=X∨v.ownBlock=some b) w w')(ho:OwnN w v v'):Lp w0 n0 X rb (K+65) v' lv mp' md y S Lc w':=by
 obtain⟨a,c⟩:=h.last;exact⟨hA.more jo,rE hc h.at_ h.blk jd jd,(h.rt.chg hc h.far).more jo,h.far.step h.rt.lt ho,h.frb,⟨a,chg_own hc h.at_ c jd jd⟩,h.ll,h.bel.trans ((nu hc h.at_.own h.hx h.at_.n0).mono h.h0.1),h.hx,h.h0⟩
theorem Lp.next{w5 w6:World}(h:Lp w0 n0 X rb K v lv mp md y S Lc w)(hb:zWW w w5)(hR:RAt w5 (fun b=>S b∨Se b∨(w.heap.size≤b∧b<w5.heap.size)) K2 mp y')(hK:K≤K2)(hfe:Far Se X v)(hre:∀b,Se b→rb<b)(hb6:zWW w5 w6) :
  Lp w0 n0 X rb K2 v lv mp mp y' (fun b=>S b∨Se b∨(w.heap.size≤b∧b<w5.heap.size)) Lc (w6.setRow rb (rmC mp y')):=by
 have a:=h.below (hb.trans (hb6.mono hb.size));have k:=h.at_.blk.lt;have j:=h.blk.lt;have g:=DV h.at_
 have c:∀b,(S b∨Se b∨(w.heap.size≤b∧b<w5.heap.size))→rb<b:=fun b hb'=>by
  rcases hb' with hb'|hb'|hb'
  ·exact h.frb b hb'
  ·exact hre b hb'
  omega
 have f:∀b,(S b∨Se b∨(w.heap.size≤b∧b<w5.heap.size))→b≠rb:=fun b hb'=>by have:=c b hb';omega
 obtain⟨d,i⟩:=a.last
 refine⟨(a.at_.kp jz (fun b hb=>vL w6 rb b _ (fun e=>by
   subst e;rcases hb with hb|hb|hb
   ·exact absurd (hb.one ⟨_,_,a.blk⟩) jd
   ·exact absurd (hb.one ⟨_,_,a.blk⟩) jd
   ·exact absurd (hb.one ⟨_,_,a.blk⟩) jd))).more hK,zz w6 rb _ _ _ _ a.blk,(hR.below hb6).rows f _,fun b hb'=>?_,c,⟨d,gz i (fun b hb=>vL w6 rb b _ (fun e=>by
   subst e
   exact absurd ((fO i hb).one ⟨_,_,a.blk⟩) jd))⟩,h.ll,vI a.bel h.h0.2 _,h.hx,h.h0⟩
 rcases hb' with hb'|hb'|hb'
 ·exact h.far b hb'
 ·exact hfe b hb'
 exact⟨jo,fun e=>by have:=g b e;omega⟩
theorem Lp.ret{g:Nat}{old:Array Value}(h:Lp w0 n0 X rb K v lv mp md y S Lc w)(hg:Blk w g 29 old)(h0:w0.heap.size≤g)(hr:g<rb)(cs:Array Value):Lp w0 n0 X rb K v lv mp md y S Lc (w.setRow g cs):=by
 obtain⟨a,c⟩:=h.last
 exact⟨h.at_.kp jz (fun b hb=>vL w g b _ (fun e=>by
   subst e;rcases hb with hb|hb|hb
   ·exact absurd (hb.one ⟨_,_,hg⟩) jd
   ·exact absurd (hb.one ⟨_,_,hg⟩) jd
   ·exact absurd (hb.one ⟨_,_,hg⟩) jd)),(vL w g rb _ jo).trans h.blk,h.rt.rows (fun b hb=>by have:=h.frb b hb;omega) _,h.far,h.frb,⟨a,gz c (fun b hb=>vL w g b _ (fun e=>by
   subst e
   exact absurd ((fO c hb).one ⟨_,_,hg⟩) jd))⟩,h.ll,vI h.bel h0 _,h.hx,h.h0⟩
theorem Lp.told{lv':Value}{Lc':List UInt8}(h:Lp w0 n0 X rb K v lv mp md y S Lc w)(hl:∃base,w.ownsRow base 5 1 lv' Lc'.length (bv Lc'))(hn:Lc'.length≤1048576):Lp w0 n0 X rb K v lv' mp md y S Lc' w:=⟨h.at_,h.blk,h.rt,h.far,h.frb,hl,hn,h.bel,h.hx,h.h0⟩
theorem J7{rq:Rq}{zq:Rw}(hq:RqAt w rq zq)(hE:EvsS w' Se zq.E zq.en zq.ec rq.evs)(hSe:∀b,Se b→b<w'.heap.size)(hcur:Reads w' w'.heap.size 1 zq.C zq.cn (bv rq.cur)):RqAt w' rq zq:=⟨wI hE hSe hq.ev.few (ul hq.ev),hcur,hq.cn,hq.ti,hq.nw,hq.wd⟩
theorem AnsO.chg_own{cs:Array Value}{a:Ans}(h:AnsO w cs a)(hb:zWW w w'):AnsO w' cs a:=h.below hb
end
end Md

namespace Md
open Go.RowKit Ut Tk Qy Qp Ev Cu
structure RowK (T:TypeId) (k:Nat) {α:Type} (Q:α→List Value→Prop) (w:World) (v:Value) (l:List α):Prop where
 ex:∃(base:Nat) (vss:List (List Value)),vss.length=l.length∧w.ownsRow base T k v l.length vss.flatten∧∀i (h:i<l.length) (h':i<vss.length),vss[i].length=k∧Q l[i] vss[i]
section
variable {α:Type} {T:TypeId} {k:Nat} {Q Q':α→List Value→Prop} {w w':World} {v v':Value} {l:List α}
theorem RowK.start(T:TypeId)(k:Nat)(Q:α→List Value→Prop)(w:World):RowK T k Q w nil []:=⟨0,[],rfl,vO _ _ _ _,fun i h=>absurd h (by simp)⟩
theorem RowK.same(h:RowK T k Q w v l)(hk:∀b,Tg w T b→w'.heap[b]?=w.heap[b]?)(hQ:∀x u,Q x u→Q' x u):RowK T k Q' w' v l:=by
 obtain⟨c,d,g,f,e⟩:=h.ex;exact⟨c,d,g,gz f (fun b j=>hk b (fO f j)),fun i a b=>⟨(e i a b).1,hQ _ _ (e i a b).2⟩⟩
theorem RowK.below(h:RowK T k Q w v l)(hb:zWW w w')(hQ:∀x u,Q x u→Q' x u):RowK T k Q' w' v l:=h.same (fun b a=>hb.block b a.lt) hQ
theorem RowK.at_(h:RowK T k Q w v l){i:Nat}(hi:i<l.length):∃b o u c,v=.slice (some ⟨b,o,none⟩) l.length c∧b<w.heap.size∧Q l[i] u∧∀j x,u[j]?=some x→w.cell? ⟨b,o+i*k+j,none⟩=some x:=by
 obtain⟨g,a,z,q,e⟩:=h.ex;obtain⟨A,c,rfl,n,_⟩:=Ev.fP q;obtain⟨b,o,rfl,t,s⟩:=n.2 jo
 have p:∀v∈a,v.length=k:=fun v y=>by
  obtain⟨j,d,rfl⟩:=zu.1 y;exact(e j jo d).1
 refine⟨b,o,a[i]'jo,c,rfl,t,(e i hi jo).2,fun j x d=>?_⟩
 have f:j<k:=by
  have:=(List.getElem?_eq_some_iff.1 d).1;rw[(e i hi jo).1]at this;exact this
 have:=s _ _ ((iM p i j jo f).trans d)
 rwa[←Nat.add_assoc]at this
theorem RowK.put{base:Nat}{vss:List (List Value)}{u:List Value}{x:α}(h1:vss.length=l.length)(h3:∀i (h:i<l.length) (h':i<vss.length),vss[i].length=k∧Q l[i] vss[i])(hp:w'.ownsRow base T k v' (l.length+1) (vss.flatten++u))(hu:u.length=k)(hx:Q' x u)(hQ:∀x u,Q x u→Q' x u):RowK T k Q' w' v' (l ++ [x]):=by
 refine⟨base,vss ++ [u],by simp[h1],by simpa using hp,fun i a b=>?_⟩;by_cases d:i<l.length
 ·rw[zl d,zl jo];exact⟨(h3 i d jo).1,hQ _ _ (h3 i d jo).2⟩
 have c:i=l.length:=by simp at a;omega
 subst c;rw[zn jo,zn jo];simp only[Nat.sub_self,h1,List.getElem_cons_zero];exact⟨hu,hx⟩
end
structure RqK (No:Nat→Prop) (w:World) (r:Rq) (u:List Value):Prop where
 ex:∃(z:Rw) (S:Nat→Prop),u=(rqC r z).toList∧EvsS w S z.E z.en z.ec r.evs∧ReadsS w S 1 z.C z.cn (bv r.cur)∧(∀b,S b→b<w.heap.size∧¬No b)∧∃wq,RqAt wq r z
section
variable {No No':Nat→Prop} {n0 X K:Nat} {v v':Value} {w w':World} {r:Rq} {u:List Value} {m:M}
theorem RqK.kp(h:RqK No w r u)(hs:w.heap.size≤w'.heap.size)(hk:∀b,b<w.heap.size→¬No b→w'.heap[b]?=w.heap[b]?)(hN:∀b,b<w.heap.size→No' b→No b):RqK No' w' r u:=by
 obtain⟨z,S,e,i,g,c,f⟩:=h.ex;have d:∀b,S b→S b∧w'.heap[b]?=w.heap[b]?:=fun b a=>⟨a,hk b (c b a).1 (c b a).2⟩
 exact⟨z,S,e,i.same d,g.same d,fun b a=>⟨zT (c b a).1 hs,fun j=>(c b a).2 (hN b (c b a).1 j)⟩,f⟩
theorem RqK.below(h:RqK No w r u)(hb:zWW w w'):RqK No w' r u:=h.kp hb.size (fun b a _=>hb.block b a) (fun _ _ h=>h)
theorem RqK.at_(h:RqK No w r u):∃(z:Rw) (S:Nat→Prop),u=(rqC r z).toList∧RqAt w r z∧EvsS w S z.E z.en z.ec r.evs∧∀b,S b→b<w.heap.size∧¬No b:=by
 obtain⟨z,S,e,d,g,a,i,f⟩:=h.ex;exact⟨z,S,e,J7 f d (fun b c=>(a b c).1) (g.reads fun b c=>(a b c).1),d,a⟩
def AnK(v:Value)(w:World)(a:Ans)(u:List Value):Prop:=∃cs,u=cs.toList∧AnsP w v cs a
theorem ry{T:TypeId}{b:Nat}(hc:Chg (fun b=>b=X∨v.ownBlock=some b) w w')(hA:At w n0 X K v m)(h1:T≠81)(h2:T≠48)(hb:Tg w T b):w'.heap[b]?=w.heap[b]?:=
 hc.block b hb.lt (fun hk=>by
  rcases hk with rfl|hk
  ·exact h1 (hb.one ⟨_,_,hA.blk⟩)
  obtain⟨a,_,c,_⟩:=hA.own.ex
  exact h2 (hb.one (fO c hk)))
theorem J8{w2:World}(hc:Chg (fun b=>b=X∨v.ownBlock=some b) w w')(ho:OwnN w v v')(hc2:Chg (fun b=>b=X∨v'.ownBlock=some b) w' w2):Chg (fun b=>b=X∨v.ownBlock=some b) w w2:=
 hc.trans hc2 (fun b hb=>by
  rcases hb with hb|hb
  ·exact .inl (.inl hb)
  rcases ho with ho|ho
  ·exact .inl (.inr (ho ▸ hb))
  exact .inr (ho b hb))
theorem J9{v2:Value}(ho:OwnN w v v')(ho2:OwnN w' v' v2)(hs:w.heap.size≤w'.heap.size):OwnN w v v2:=by
 rcases ho2 with h|h
 ·rcases ho with h'|h'
  ·exact .inl (h.trans h')
  exact .inr (fun b a=>h' b (h ▸ a))
 exact .inr (fun b a=>zY hs (h b a))
end
def iV(m:M)(l:List Rq):M:=l.foldl gD m
theorem Ah(m:M)(l:List Rq)(r:Rq):iV m (l ++ [r])=gD (iV m l) r:=by simp[iV]
def RunR(m:M)(l:List Rq)(aa:List Ans):Prop:=aa.length=l.length∧∀i (h:i<l.length) (h':i<aa.length),AnsR (iV m (l.take i)) l[i] aa[i]
theorem RunR.start(m:M):RunR m [] []:=⟨rfl,fun i h=>absurd h (by simp)⟩
theorem RunR.put{m:M}{l:List Rq}{aa:List Ans}{k:Nat}{a:Ans}(h:RunR m (l.take k) aa)(hk:k<l.length)(ha:AnsR (iV m (l.take k)) l[k] a):RunR m (l.take (k+1)) (aa ++ [a]):=by
 obtain⟨f,c⟩:=h;have j:(l.take k).length=k:=jw;have b:(l.take (k+1)).length=k+1:=jw;refine⟨by rw[b,zJ,f,j];rfl,fun i o d=>?_⟩;have e:(l.take (k+1)).take i=l.take i:=by rw[List.take_take,Nat.min_eq_left jo]
 rw[e];by_cases g:i<k
 ·have:=c i jo jo;rw[List.take_take,Nat.min_eq_left jo,List.getElem_take]at this;rw[zl jo,List.getElem_take];exact this
 obtain rfl:i=k:=jo;rw[zn jo,List.getElem_take];have n:i-aa.length=0:=jo;simp only[n,List.getElem_cons_zero];exact ha
end Md

namespace Md
open Go.RowKit Ut Tk Qy Qp Ev Cu
def Dk(K:Nat)(m:M)(w:World)(e:Ending)(w':World):Prop:=∃X' v',e=.returned (.pointer (some ⟨X',0,none⟩))∧w.heap.size≤X'∧At w' w.heap.size X' K v' m∧zWW w w'
theorem KA{w:World}{n0 X K:Nat}{v:Value}{m:M}(h:At w n0 X K v m)(hK:K≤60000):Calls prog 24 #[.pointer (some ⟨X,0,none⟩)] w (Dk K m w):=by
 have G:=zh h;have J:=h.blk.lt;obtain⟨a,f⟩:∃a,mdC m v=a:=⟨_,rfl⟩;have I:Hid (Blk w X 81 a):=zh (by rw[←f];exact h.blk);have E:=zh f
 have i:a.all (·.oneCell')=true:=by
  obtain⟨U,_,V,_⟩:=h.own.ex;obtain⟨A,c,rfl,_⟩:=Ev.fP V;rw[←f];simp[mdC,Value.oneCell']
 have z:a.size=12:=by rw[←f];rfl
 have k:=zh z;have O:=zh i;clear h f z i;go_enter func24,ntmps24;go_wp2_with fail;refine(qz G.out.blk).mono ?_;rintro e Y ⟨rfl,R⟩;subst R;have L:=zh (Blk.new w 81 #[.int .i64 0,.int .i64 0,.int .i64 0,.int .i64 0,.int .i64 0,.bool false,.bool false,.slice none 0 0,.int .i64 0,.int .i64 0,.int .i64 0,.bool false]);have n:zWW w (w.alloc (.cells #[.int .i64 0,.int .i64 0,.int .i64 0,.int .i64 0,.int .i64 0,.bool false,.bool false,.slice none 0 0,.int .i64 0,.int .i64 0,.int .i64 0,.bool false] 81)):=zRR _;have P:=zh (I.out.below n J);go_wp2_with (first|(refine wpList_load_row (o:=⟨some 8,.load 81 _,_,_,_,_⟩) rfl 81 _ rfl (X) rfl 81 (a) (0,0) _ I.out underlying81 rfl (by rw[k.out];kernel_rfl) ?_)|(refine zx (o:=⟨none,.store 81 _ _,_,_,_,_⟩) rfl 81 _ _ rfl (w.heap.size) a rfl rfl 81 (#[.int .i64 0,.int .i64 0,.int .i64 0,.int .i64 0,.int .i64 0,.bool false,.bool false,.slice none 0 0,.int .i64 0,.int .i64 0,.int .i64 0,.bool false]) L.out (by rw[k.out];kernel_rfl) (by rw[k.out];rfl) O.out ?_)|fail);have t:zWW w ((w.alloc (.cells #[.int .i64 0,.int .i64 0,.int .i64 0,.int .i64 0,.int .i64 0,.bool false,.bool false,.slice none 0 0,.int .i64 0,.int .i64 0,.int .i64 0,.bool false] 81)).setRow w.heap.size a):=vI n (zG _) a;have y:=zh (G.out.below t);have q:Hid (Blk ((w.alloc (.cells #[.int .i64 0,.int .i64 0,.int .i64 0,.int .i64 0,.int .i64 0,.bool false,.bool false,.slice none 0 0,.int .i64 0,.int .i64 0,.int .i64 0,.bool false] 81)).setRow w.heap.size a) w.heap.size 81 a):=zh (zz (w.alloc (.cells #[.int .i64 0,.int .i64 0,.int .i64 0,.int .i64 0,.int .i64 0,.bool false,.bool false,.slice none 0 0,.int .i64 0,.int .i64 0,.int .i64 0,.bool false] 81)) w.heap.size _ a _ _ L.out);have s:=zh t;clear n t P L
 go_upto_region 4 with(fail);generalize (w.alloc (.cells #[.int .i64 0,.int .i64 0,.int .i64 0,.int .i64 0,.int .i64 0,.bool false,.bool false,.slice none 0 0,.int .i64 0,.int .i64 0,.int .i64 0,.bool false] 81)).setRow w.heap.size a=w2 at *;refine(Ai y.out hK).mono ?_;rintro e D ⟨g,rfl,F,l⟩;show _;have d:=q.out.below l q.out.lt;rw[←E.out]at d;have r:=zh d;have x:=zt s l;have j:=zh (F.mono s.out.size);have S:=d.frozen 7;have T:=d.cell 7;simp only[mdC,zA,zB,zC]at T;have B:=d.set_ 7 g;have u:Hid (Blk (D.setCell ⟨w.heap.size,7,none⟩ g) w.heap.size 81 (mdC m g)):=zh (by simpa[mdC]using B);have N:=zh (x.out.setCell (p:=⟨w.heap.size,7,none⟩) (zG _) g)
 have C:Hid (DOwn (D.setCell ⟨w.heap.size,7,none⟩ g) w.heap.size g m.ds):=zh (l8 j.out (fun b hb=>vN _ _ _ _ (fun e=>by
  have e:b=w.heap.size:=e;subst e;rcases hb with hb|hb
  ·exact absurd (hb.one ⟨_,_,r.out⟩) jd
  exact absurd (hb.one ⟨_,_,r.out⟩) jd)))
 have H:Hid (Dk K m w (.returned (.pointer (some ⟨w.heap.size,0,none⟩))) (D.setCell ⟨w.heap.size,7,none⟩ g)):=zh ⟨_,g,rfl,zG _,⟨u.out,C.out,by rw[show (D.setCell ⟨w.heap.size,7,none⟩ g).heap.size=D.heap.size by simp[World.setCell]];exact x.out.size,G.out.ok,G.out.few⟩,N.out⟩;obtain⟨W,Z,rfl,_⟩:=j.out.read;clear d B F l y q s r j u C I E G;go_wp2_with fail;go_ret;exact H.out
end Md
end Go.Proofs.YtmomjpolkkbhnaaGreat
