/- ModelCounts: the law's walk (printed by gen_mez.py). -/
import Derived.Test.YtmomjpolkkbhnaaGreatQModelCountsRow44
set_option linter.unusedSimpArgs false
set_option linter.unusedVariables false
set_option maxRecDepth 20000
set_option maxHeartbeats 100000000
open Go.Proofs.Tryz
namespace Go.Proofs.YtmomjpolkkbhnaaGreat
namespace Md
open Go.RowKit Ut Tk Qy Qp Ev Cu
open Hi (Bk bkC ofF OwnB)
theorem JA{m:M}{r r2:Rq}{a b:Ans}(ha:SeA m r a)(hb:HgA m r2 b)(hq:r2.q=r.q)(hf:r2.frm=r.frm)(ht:r2.til=r.til)(hl:bz r.lim=true)(hlim:(m.ds.length:Int)≤r.lim) :
  (a.E≠0∧b.E=a.E)∨(a.E=0∧r2.width<1∧b.E=1)∨(a.E=0∧1≤r2.width∧(∀d∈a.docs,d∈m.ds)∧a.docs.length≤m.ds.length∧((m.c.buckets<((ofF r2.width (a.docs.map (·.at_))).length:Nat)∧b.E=241∧b.bk=[])∨(((ofF r2.width (a.docs.map (·.at_))).length:Nat)≤m.c.buckets∧b.E=0∧b.bk=ofF r2.width (a.docs.map (·.at_))))):=by
 obtain⟨E,o,hp,ha⟩:=ha;obtain⟨E',o',hp',hb⟩:=hb;rw[hq]at hp';obtain⟨rfl,rfl⟩:=hp.det hp';rcases ha with⟨h1,rfl⟩|⟨h1,h2,rfl⟩|⟨q,D,h1,h2,h3,h4,rfl⟩
 ·rcases hb with⟨g1,rfl⟩|⟨g1,g2,rfl⟩|⟨q',D',g1,g2,g3,g4,g5⟩
  ·exact .inl ⟨h1,rfl⟩
  ·exact absurd g1 h1
  exact absurd g1 h1
 ·rw[h2]at hl;cases hl
 have hDl:D.length≤m.ds.length:=by rw[h4.perm.length_eq];exact qZ ..
 have e:D.take (min D.length r.lim.toNat)=D:=zR jo;rcases hb with⟨g1,rfl⟩|⟨g1,g2,rfl⟩|⟨q',D',g1,g2,g3,g4,g5⟩
 ·exact absurd h1 g1
 ·exact .inr (.inl ⟨rfl,g2,rfl⟩)
 rw[h2]at g2
 cases g2;rw[hf,ht]at g4;rw[←h4.det g4]at g5;refine .inr (.inr ⟨rfl,g3,fun d hd=>?_,?_,?_⟩)
 ·have hd:d∈D.take (min D.length r.lim.toNat):=hd;rw[e]at hd;exact(List.mem_filter.1 (h4.perm.mem_iff.1 hd)).1
 ·show (D.take _).length≤_;rw[e];exact hDl
 show ((_:Int)<(((ofF r2.width ((D.take (min D.length r.lim.toNat)).map (fun x=>x.at_))).length:Nat):Int)∧_)∨_;rw[e];rcases g5 with⟨g5,rfl⟩|⟨g5,rfl⟩
 ·exact .inl ⟨g5,rfl,rfl⟩
 exact .inr ⟨g5,rfl,rfl⟩
theorem J8(r:Rq)(z:Rw):NoS (rqC r z):=fun o s t h1 h2=>by
 rcases zg o 11 with ho|ho
 ·rcases(by omega:o=0∨o=1∨o=2∨o=3∨o=4∨o=5∨o=6∨o=7∨o=8∨o=9∨o=10)with rfl|rfl|rfl|rfl|rfl|rfl|rfl|rfl|rfl|rfl|rfl;all_goals first|(cases h1;done)|(cases h2;done)
 rw[zn (by simpa[rqC]using ho)]at h1
 cases h1
theorem JB{w0 w:World}{r r':Rq}{z:Rw}(h:RqAt w0 r z)(he:r.evs=[])(hc:r.cur=[])(h1:r'.evs=r.evs)(h2:r'.cur=r.cur)(h3:r'.now=r.now)(h4:r'.width≤9223372036854775807):RqAt w r' z:=by
 have hn:=h.ev.ln;have hk:=h.cur.1;rw[he]at hn;rw[hc]at hk;have hn0:z.en=0:=by simpa using hn.symm
 have hk0:z.cn=0:=by rw[dH]at hk;simpa using hk.symm
 refine⟨⟨by rw[h1,he,hn0];rfl,jo,by rw[hn0];exact zS _,[],by rw[hn0];rfl,⟨by rw[hn0];rfl,fun hp=>jo⟩,fun i hi=>absurd hi (by rw[h1,he];simp)⟩,⟨by rw[h2,hc,hk0];rfl,fun hp=>jo⟩,h.cn,fun e hh=>absurd hh (by rw[h1,he];simp),by rw[h3];exact h.nw,h4⟩
theorem GK(w:World):(Instr.field 25 conf.v 4).run prog w=.ok (.int .i64 20) w:=by kernel_rfl
theorem Ce(A:Option Addr)(n cc:Nat)(LL:List Rq)(TT:List Bool)(q0:ByteArray)(fr ti wd:Int)(hwd:wd≤9223372036854775807)(w:World)(hL:StepsAt w A n cc LL)(hT:StepsT w A n TT) :
  Calls prog 3 #[.slice A n cc,.string q0,.int .i64 fr,.int .i64 ti,.int .i64 wd] w fun e w'=>e=.returned (.bool true)∧zWW w w':=by
 obtain⟨i0,hi0,hz0,hz1,hz2⟩:=info_parts iY;have CA:=zh (uj A n cc LL TT w hL hT);clear hL hT;go_enter func3,ntmps3;go_wp2_with fail;refine CA.out.mono ?_;rintro e w2 ⟨n0,X,rb,K,v,lv,m,y,S,Lc,rfl,hK,hcf,hLp⟩;have hb2:=hLp.bel
 obtain⟨LA,lc,rfl,_⟩:∃LA lc,lv=.slice LA Lc.length lc∧True:=by
  obtain⟨_,hl⟩:=hLp.last;obtain⟨LA,lc,e,_⟩:=Ev.aP hl;exact⟨LA,lc,e,trivial⟩
 have hbx:zWW w2 (w2.alloc (.cells (rmC m y) 29)):=zRR _;have HL3:=zh (hLp.below hbx);have HB3:=zh (hb2.trans (hbx.mono hb2.size));have HCF:=zh hcf;clear hLp hb2 hbx CA hcf
 go_upto_region 2 with(fail);generalize w2.alloc (.cells (rmC m y) 29)=w3 at *;go_wp2_with fail;refine(l8 w3).mono ?_;rintro e w4 ⟨rfl,hb4⟩;have HA4:=zh (HL3.out.below hb4).at_;have hX:=HL3.out.hx;have HB4:=zt HB3 hb4;clear hb4 HL3 HB3;have CF:=zh (xW { rq0 with op:=7,q:=q0,frm:=fr,til:=ti,lim:=10000 } ⟨none,0,0,none,0,0⟩ w4 (nI { rq0 with op:=7,q:=q0,frm:=fr,til:=ti,lim:=10000 } rfl rfl ⟨by show (-9223372036854775808:Int)≤0;decide,by show (0:Int)≤9223372036854775807;decide⟩ (by show (0:Int)≤9223372036854775807;decide)));go_wp2_with fail;refine CF.out.mono ?_;rintro e w5 ⟨zq,rfl,hrq,hb5,_,_⟩;obtain⟨rq,hrqe⟩:∃rq,fN { rq0 with op:=7,q:=q0,frm:=fr,til:=ti,lim:=10000 }=rq:=⟨_,rfl⟩;have HEV0:Hid (rq.evs=[]):=zh (by rw[←hrqe];rfl);have HCU0:Hid (rq.cur=[]):=zh (by rw[←hrqe];rfl);have hr7:rq.op=7:=by rw[←hrqe];rfl
 have hrl:rq.lim=10000:=by rw[←hrqe];rfl
 rw[hrqe]at hrq ⊢;have hbx:zWW w5 (w5.alloc (.cells (rqC rq zq) 37)):=zRR _;have hb6:=hb5.trans (hbx.mono hb5.size);have HA6:=zh (HA4.out.below hb6);have HB6:=zt HB4 hb6;have HQ6:=zh (Blk.new w5 37 (rqC rq zq));have HRQ6:=zh (hrq.below hbx);have HR7:=zh hr7;have HRL:=zh hrl;have hn4:=HB4.out.size;have hw5:w.heap.size≤w5.heap.size:=zY hn4 hb5.size;clear hrq hb5 hbx hb6 HA4 HB4 CF hrqe hr7 hrl
 go_upto_region 5 with(fail);generalize hbq:w5.heap.size=bq at *;generalize w5.alloc (.cells (rqC rq zq) 37)=w6 at *;clear hbq;have CD:=zh (gY HA6.out jo hX rq zq HRQ6.out);go_wp2_with (first|(refine wpList_load_row (o:=⟨some 39,.load 37 _,_,_,_,_⟩) rfl 37 _ rfl (bq) rfl 37 (rqC rq zq) (0,0) _ HQ6.out underlying37 rfl jk ?_)|fail);refine CD.out.mono ?_;rintro e w7 ⟨v7,m7,cs7,rfl,hR7,_,_,hbl7,_⟩;obtain⟨hb7,_⟩:=hbl7 (by rw[HR7.out];decide)
 have hse:SeR w6.heap.size w7 m rq cs7:=by
  have h7:=HR7.out;rcases hR7 with h|h|h|h|h|h|h|h|h|h|h;all_goals first|exact h.2.2|(exfalso;omega)
 obtain⟨a,hSa,hOa⟩:=hse.ansO (by have:=HA6.out.few;omega);obtain⟨A1,n1,c1,B1,k1,d1,C1,l1,f1,rfl,_⟩:=hOa.at_;have hbx:zWW w7 (w7.alloc (.cells (rsC a.E a.seq a.fl (.slice A1 n1 c1) (.slice B1 k1 d1) (.slice C1 l1 f1) a.ev a.nx a.nw a.ak) 42)):=zRR _;have hb8:=hb7.trans (hbx.mono hb7.size);have HA8:=zh (HA6.out.below hb8);have HB8:=zt HB6 hb8;have HQ8:=zb HQ6 hb8;have HRQ8:=zh (HRQ6.out.below hb8);have HOa8:=zh (hOa.below hbx);have HBa8:=zh (Blk.new w7 42 (rsC a.E a.seq a.fl (.slice A1 n1 c1) (.slice B1 k1 d1) (.slice C1 l1 f1) a.ev a.nx a.nw a.ak));have HSa:=zh hSa;have hw7:bq<w7.heap.size:=zT HQ6.out.lt hb7.size;clear hR7 hbl7 hb7 hse hSa hOa hbx hb8 CD HA6 HB6 HQ6 HRQ6
 go_upto_region 6 with(fail);generalize hba:w7.heap.size=ba at *;generalize w7.alloc (.cells (rsC a.E a.seq a.fl (.slice A1 n1 c1) (.slice B1 k1 d1) (.slice C1 l1 f1) a.ev a.nx a.nw a.ak) 42)=w8 at *;clear hba;have q0:=HQ8.out.cell 0;have q8:=HQ8.out.cell 8;simp only[rqC,zA,zB,zC]at q0 q8;have q0f:=HQ8.out.frozen 0;have q8f:=HQ8.out.frozen 8
 have HQ9:Hid (Blk ((w8.setCell ⟨bq,0,none⟩ (.int .i64 8)).setCell ⟨bq,8,none⟩ (.int .i64 wd)) bq 37 (rqC { rq with op:=8,width:=wd } zq)):=zh (by
  have:=(HQ8.out.set_ 0 (.int .i64 8)).set_ 8 (.int .i64 wd)
  simpa[rqC]using this)
 have hne:ba≠bq:=jo;have HBa9:=zh ((HBa8.out.far (p:=⟨bq,0,none⟩) hne (.int .i64 8)).far (p:=⟨bq,8,none⟩) hne (.int .i64 wd));have HB9:=zh ((HB8.out.setCell (p:=⟨bq,0,none⟩) hw5 (.int .i64 8)).setCell (p:=⟨bq,8,none⟩) hw5 (.int .i64 wd));have hk9:∀b,b≠bq→((w8.setCell ⟨bq,0,none⟩ (.int .i64 8)).setCell ⟨bq,8,none⟩ (.int .i64 wd)).heap[b]?=w8.heap[b]?:=fun b hb=>(vL _ _ _ _ hb).trans (vL _ _ _ _ hb)
 have hz9:((w8.setCell ⟨bq,0,none⟩ (.int .i64 8)).setCell ⟨bq,8,none⟩ (.int .i64 wd)).heap.size=w8.heap.size:=by simp[World.setCell]
 have HA9:Hid (At ((w8.setCell ⟨bq,0,none⟩ (.int .i64 8)).setCell ⟨bq,8,none⟩ (.int .i64 wd)) n0 X K v m):=zh (HA8.out.kp (by rw[hz9];exact zG _) (fun b hb=>hk9 b (fun e=>by
  subst e;rcases hb with hb|hb|hb
  ·exact absurd (hb.one ⟨_,_,HQ8.out⟩) jd
  ·exact absurd (hb.one ⟨_,_,HQ8.out⟩) jd
  exact absurd (hb.one ⟨_,_,HQ8.out⟩) jd)))
 have HOa9:Hid (DW ((w8.setCell ⟨bq,0,none⟩ (.int .i64 8)).setCell ⟨bq,8,none⟩ (.int .i64 wd)) (.slice A1 n1 c1) a.docs):=zh (by
  obtain⟨⟨v1,v2,v3,e9,h1,_⟩,_⟩:=HOa8.out
  have e3:Value.slice A1 n1 c1=v1:=by
   have h:=congrArg (fun x:Array Value=>x[3]?) e9
   simpa[rsC]using h
  rw[e3]
  exact h1.keep HQ8.out jd (J8 rq zq) (by rw[hz9];exact zG _) hk9)
 have HRQ9:=zh (JB (w:=(w8.setCell ⟨bq,0,none⟩ (.int .i64 8)).setCell ⟨bq,8,none⟩ (.int .i64 wd)) (r':={ rq with op:=8,width:=wd }) HRQ8.out HEV0.out HCU0.out rfl rfl rfl hwd);have HLW:Hid (({ rq with op:=8,width:=wd }:Rq).op=8∧({ rq with op:=8,width:=wd }:Rq).q=rq.q∧({ rq with op:=8,width:=wd }:Rq).frm=rq.frm∧({ rq with op:=8,width:=wd }:Rq).til=rq.til∧({ rq with op:=8,width:=wd }:Rq).width=wd):=zh ⟨rfl,rfl,rfl,rfl,rfl⟩;clear hk9 hz9 HA8 HB8 HQ8 HRQ8 HOa8 HBa8
 go_upto_region 8 with(fail);generalize ((w8.setCell ⟨bq,0,none⟩ (.int .i64 8)).setCell ⟨bq,8,none⟩ (.int .i64 wd))=w9 at *;clear q0 q8 q0f q8f;generalize ({ rq with op:=8,width:=wd }:Rq)=rp at *;have CD2:=zh (gY HA9.out jo hX rp zq HRQ9.out);go_wp2_with (first|(refine wpList_load_row (o:=⟨some 45,.load 37 _,_,_,_,_⟩) rfl 37 _ rfl (bq) rfl 37 (rqC rp zq) (0,0) _ HQ9.out underlying37 rfl jk ?_)|fail);refine CD2.out.mono ?_;rintro e wa ⟨va,ma,csa,rfl,hRa,_,_,hbla,_⟩;obtain⟨hba,_⟩:=hbla (by rw[HLW.out.1];decide)
 have hhg:HgR wa m rp w9.heap.size csa:=by
  have h8:=HLW.out.1;rcases hRa with h|h|h|h|h|h|h|h|h|h|h;all_goals first|exact h.2.2|(exfalso;omega)
 obtain⟨b,hHb,hOb⟩:=hhg.ansO HA9.out.ok.c.2.2.2.2.2.2.2;have hlaw:=JA HSa.out hHb HLW.out.2.1 HLW.out.2.2.1 HLW.out.2.2.2.1 (by rw[HRL.out];rfl) (by rw[HRL.out];have:=HA9.out.few;omega);rw[HLW.out.2.2.2.2,HCF.out]at hlaw
 have hmds:∀d∈m.ds,I64 d.at_:=fun d hd=>by
  obtain⟨i,hi,rfl⟩:=zp.1 hd;exact(HA9.out.ok.doc i hi).2.2
 have hmf:=HA9.out.few;obtain⟨A2,n2,c2,B2,k2,d2,C2,l2,f2,rfl,_,_,hbR,hbk,_⟩:=hOb.at_;have hbx:zWW wa (wa.alloc (.cells (rsC b.E b.seq b.fl (.slice A2 n2 c2) (.slice B2 k2 d2) (.slice C2 l2 f2) b.ev b.nx b.nw b.ak) 42)):=zRR _;have hbb:=hba.trans (hbx.mono hba.size);have HBb:=zt HB9 hbb;have HBab:=zb HBa9 hbb;have HDb:=zh (HOa9.out.below hbb);have HBbb:=zh (Blk.new wa 42 (rsC b.E b.seq b.fl (.slice A2 n2 c2) (.slice B2 k2 d2) (.slice C2 l2 f2) b.ev b.nx b.nw b.ak));have HKB:=zh (And.intro ((hbR.below hbx).more hbx.size) hbk);have HLAW:=zh hlaw;have HMDS:=zh hmds;clear hRa hbla hba hhg hHb hOb hlaw hmds hbx hbb CD2 HA9 HB9 HQ9 HRQ9 HOa9 HBa9 HSa hbR hbk
 go_upto_region 9 with(fail);generalize hbbe:wa.heap.size=bb at *;generalize wa.alloc (.cells (rsC b.E b.seq b.fl (.slice A2 n2 c2) (.slice B2 k2 d2) (.slice C2 l2 f2) b.ev b.nx b.nw b.ak) 42)=wb at *;clear hbbe;have x0:=HBab.out.cell 0;have x3:=HBab.out.cell 3;simp only[rsC,zA,zB,zC]at x0 x3;have y0:=HBbb.out.cell 0;have y4:=HBbb.out.cell 4;simp only[rsC,zA,zB,zC]at y0 y4;have hwbs:=HBb.out.size;rcases HLAW.out with⟨h1,h2⟩|⟨h1,h2,h3⟩|⟨h1,h2,h3,h4,h5⟩
 ·rw[h2]at y0;have hE1:(a.E != 0)=true:=by simpa using h1
  have hE2:(a.E==a.E)=true:=jz;have hbe:=zh HBb.out;clear h1 h2 HLAW HDb HBab HBbb;go_wp2;go_ret;exact⟨rfl,hbe.out⟩
 ·rw[h1]at x0;rw[h3]at y0;have hbe:=zh HBb.out;clear h1 h3 HLAW HDb HBab HBbb;go_wp2;go_ret;exact⟨rfl,hbe.out⟩
 rw[h1]at x0;have hw1:¬wd<1:=jo;have H3:=zh h3;have H5:=zh h5;obtain⟨A1',c1',e1,hDA⟩:=HDb.out.at_;injection e1 with e1a e1b e1c;subst e1a e1c;have HDA:=zh hDA;clear h1 h3 h5 hDA HDb HLAW;obtain⟨D,hD⟩:∃D,a.docs=D:=⟨_,rfl⟩;rw[hD]at H3 H5 HDA h4 e1b;have hnD:n1≤D.length:=by rw[e1b];exact zG _
 have hnD2:D.length≤n1:=by rw[e1b];exact zG _
 clear hD e1b;go_wp2_with fail;go_loopw [17,18] (fun v i wr=>∃(u:Value) (k:Nat),u=v∧k≤D.length∧i=.int .i64 k∧Hid (wr.ownsRow wb.heap.size 3 1 u k ((D.take k).map (fun d=>Value.int .i64 d.at_)))∧Hid (zWW wb wr)) (fun _ i _=>D.length-(intOf i).toNat)
 case atStart=>exact⟨_,0,rfl,zS _,rfl,zh (vM _ _ _ _),zh (zw _ _)⟩
 obtain⟨u,k,rfl,hk,rfl,hO,hB⟩:=hrel;have hbs:=hB.out.size;have z3:=(HBab.out.below hB.out HBab.out.lt).cell 3;simp only[rsC,zA,zB,zC]at z3;by_cases hlt:k<D.length
 ·have hki:(k:Int)<(n1:Int):=jo;have hki0:(0:Int)≤(k:Int):=jo;obtain⟨db,dq,F,fn,fc,hAe,hdb,a0,a1,a2,_⟩:=HDA.out.at_ hlt;subst hAe;have t1:=(hB.out.cell (p:=⟨db,dq+k*3+1,none⟩) hdb).trans a1;have HTK:Hid ((D.take (k+1)).map (fun d=>Value.int .i64 d.at_)=(D.take k).map (fun d=>Value.int .i64 d.at_) ++ [.int .i64 D[k].at_]):=zh (by rw[zL hlt,List.map_append];rfl);clear a0 a1 a2;generalize D[k].at_=ta at *;generalize hzs:(D.take k).map (fun d=>Value.int .i64 d.at_)=zs at *;clear hzs;have HO1:=zh (hO.out.alloc (.cells #[.int .i64 ta] 3));have HB1:=zh (hB.out.alloc hbs (.cells #[.int .i64 ta] 3))
  go_wp2_with (first
   | (at_builtin;refine wpList_append_own_at _ rfl _ _ 27 rfl wb.heap.size 3 i0 _ 1 8 underlying27 hi0 hz0 hz1 hz2 rfl jd _ k zs rfl HO1.out ⟨wr.heap.size,0,none⟩ 1 1 [.int .i64 ta] rfl rfl (zy (cs:=#[.int .i64 ta]) (t:=3) (fr:=(0,0)) (vI wr _)) jt ?k1 ?k2 ?k3 ?_)
   | fail)
  case k1=>unfold maxLen;omega
  case k2=>omega
  try(case k3=>have:=HB1.out.size;first|omega|(rw[vK]at *;omega))
  intro v4 w6 ho4 hg4 _ _;have HO6:=zh ho4;rw[←HTK.out]at HO6;have HB6:=zh (HB1.out.grown hg4 HB1.out.size (fun j hj=>(HO1.out.lt j hj).1));clear ho4 hg4 t1 z3;go_wp2_with fail;go_roundw
  case rel=>exact⟨_,k+1,rfl,jo,ju,HO6,HB6⟩
  simp[intOf];omega
 obtain rfl:k=D.length:=jo;have hkz:¬(D.length:Int)<(n1:Int):=jo;have hO:=hO.out;rw[List.take_length]at hO;obtain⟨A5,c5,rfl,hR5,_⟩:=Ev.aP hO;have hwn:¬wd<1:=jo
 have CO:Hid (Calls prog 12 #[.int .i64 wd,.slice A5 D.length c5] wr (fun e w'=>∃v,e=.returned (.tuple #[v,.int .i64 0])∧zWW wr w'∧OwnB w' wr.heap.size v (ofF wd (D.map (·.at_))))):=zh (by
  have hm:(D.map (·.at_)).length=D.length:=List.length_map _
  have:=Hi.xX A5 c5 wr.heap.size wd (D.map (·.at_)) wr (by rw[hm,List.map_map];exact hR5) (zG _) (by rw[hm];omega) hwd (fun t ht=>by
   obtain⟨d,hd,rfl⟩:=List.mem_map.1 ht
   exact HMDS.out d (H3.out d hd))
  simp only[zH hwn]at this
  rwa[hm]at this)
 have HB5:=zh (HBb.out.trans (hB.out.mono hwbs));have HY5:=zh (HBbb.out.below hB.out HBbb.out.lt);have HK5:=zh (And.intro ((HKB.out.1.below hB.out).more hB.out.size) HKB.out.2);clear hO hR5 hwn hB HBb HBbb HKB HBab HDA;go_wp2_with fail;refine CO.out.mono ?_;rintro e w7 ⟨v7,rfl,hbel,hown⟩;have HB7:=zt HB5 hbel;have HY7:=zb HY5 hbel;have HK7:=zh (And.intro ((HK5.out.1.below hbel).more hbel.size) HK5.out.2);obtain⟨LL2,hL2⟩:∃LL2,ofF wd (D.map (·.at_))=LL2:=⟨_,rfl⟩;rw[hL2]at hown H5;obtain⟨A8,c8,rfl,hR8,_⟩:=Ev.aP hown;have HR8:=zh hR8;have hlL:LL2.length≤900000∨900000<LL2.length:=jo;clear hbel hown hL2 CO hR8 z3 HB5 HY5 HK5;go_wp2_with fail;refine(mP w7).mono ?_;rintro e w8 ⟨rfl,hb8⟩;have HB8:=zt HB7 hb8;have HY8:=zb HY7 hb8;have HK8:=zh (And.intro ((HK7.out.1.below hb8).more hb8.size) HK7.out.2);have HR9:=zh ((HR8.out.below hb8).more hb8.size);have hfb:=GK w8;clear hb8 HB7 HY7 HK7 HR8;clear y0 y4;have y0:=HY8.out.cell 0;have y4:=HY8.out.cell 4;simp only[rsC,zA,zB,zC]at y0 y4;rcases H5.out with⟨g1,g2,g3⟩|⟨g1,g2,g3⟩
 ·have hg:(20:Int)<(LL2.length:Int):=g1;rw[g2]at y0;have hk0:k2=0:=by rw[←HK8.out.2,g3];rfl
  subst hk0;have hbe:=zh HB8.out;clear g1 g2 g3 H5 HK8 HR9 HY8;go_wp2;go_ret;exact⟨rfl,hbe.out⟩
 have hg:¬(20:Int)<(LL2.length:Int):=by have:(LL2.length:Int)≤20:=g1;omega
 rw[g2]at y0
 have CS2:Hid (Calls prog 14 #[.slice B2 k2 d2,.slice A8 LL2.length c8] w8 fun e w'=>e=.returned (.bool true)∧zWW w8 w'):=zh (by
  have hk:=HK8.out.2;have hR:=HK8.out.1;rw[g3]at hk hR;subst hk;have:=Hi.ub B2 A8 d2 c8 w8.heap.size w8.heap.size LL2 LL2 w8 hR HR9.out jo jo
  simpa using this)
 clear g1 g2 g3 H5 HK8 HR9 HY8;go_wp2_with fail;refine CS2.out.mono ?_;rintro e w9 ⟨rfl,hb9⟩;have hbe:=zt HB8 hb9;clear hb9 CS2;go_wp2;go_ret;exact⟨rfl,hbe.out⟩
end Md

namespace Md
open Go.RowKit Go.ChangeShapes Go.WideShapes Go.ChangeAt Go.Deep Go.Joins Ut Tk Qy Ev Qp Cu Mx
section
variable {H:Type} {enc:TypeId × Value→H} {W:World} {base:Nat}
theorem uk:prog.cellsOf 37=11:=by kernel_rfl
theorem uA:prog.cellsOf 64=12:=by kernel_rfl
theorem Cg:prog.bytesOf 64=136:=by kernel_rfl
theorem GM:prog.cellsOf 34=1:=by kernel_rfl
theorem GN:prog.cellsOf 5=1:=by kernel_rfl
theorem GQ:prog.bytesOf 5=1:=by kernel_rfl
theorem oW:prog.cellsOf 4=1:=by kernel_rfl
theorem BS:prog.cellsOf 30=1:=by kernel_rfl
theorem lV{m:Int}(hm:(Lit.int .i64 m).wf=true):I64 m:=by
 have h:IntKind.i64.min≤m∧m≤IntKind.i64.max:=by simpa[Lit.wf]using hm
 exact h
theorem KV{z:Int}(h:(Lit.int .u8 z).wf=true):0≤z∧z≤255:=by
 have:IntKind.u8.min≤z∧z≤IntKind.u8.max:=by simpa[Lit.wf]using h
 exact this
theorem KW{zs:List Int}(h:∀z∈zs,(Lit.int .u8 z).wf=true):∃L:List UInt8,zs.map (Value.int .u8)=bv L:=by
 refine⟨zs.map (fun z=>UInt8.ofNat z.toNat),?_⟩;unfold bv;rw[List.map_map];refine List.map_congr_left fun z hz=>?_
 have:=KV (h z hz);show Value.int .u8 z=Value.int .u8 ((UInt8.ofNat z.toNat).toNat:Int);rw[UInt8.toNat_ofNat'];congr 1;omega
theorem GR{fuel:Nat}{v:Value}{x:DataW H × List MemPlace}(h:DataW.trod enc prog W 0 (fun _=>true) true fuel 30 [v]=some x)(hw:∀n∈x.1.weights prog 30,n≤140737488351232) :
  ∃(A:Option Addr) (n c:Nat) (L:List UInt8),v=.slice A n c∧Reads W W.heap.size 1 A n (bv L)∧n≤140737488351232∧n≤c∧(A=none→c=0):=by
 rcases open_ints underlying30 underlying5 GN h with⟨hcs,_⟩|⟨a,len,cap,zs,hcs,_,hl,hm,hz,hx,hcell,hwz⟩
 ·simp only[zQ,and_true]at hcs;subst hcs;exact⟨none,0,0,[],rfl,Reads.none_,jo,zG _,fun _=>rfl⟩
 simp only[zQ,and_true]at hcs;subst hcs;have hlen:zs.length=cap:=by simpa using hz
 have hd:x.1=.slice (lits .u8 (zs.take len)) (lits .u8 (zs.drop len)):=by rw[hx]
 rw[hd]at hw
 have h1:=hw ((zs.take len).length*1+(zs.drop len).length*1) (by
  simp only[DataW.weights,underlying30,lits,List.length_map,GQ,←Nat.add_mul]
  exact List.mem_cons_self)
 have hle:len≤140737488351232:=by
  rw[zK,Nat.min_eq_left jo]at h1;omega
 obtain⟨L,hL⟩:=KW (zs:=zs.take len) (fun z hz=>hwz z (List.mem_of_mem_take hz));refine⟨some a,len,cap,L,rfl,?_,hle,hl,fun h=>nomatch h⟩;rw[←hL,←AB zs 0 len jo,List.map_map];by_cases h0:0<len
 ·exact Reads.of_in rfl (World.block_lt_of_cell? W _ (by simpa[Addr.add]using hcell 0 jo)) (fun i hi=>hcell i jo)
 obtain rfl:len=0:=jo;exact Reads.none_
theorem Ch{fuel:Nat}{cs:List Value}{x:DataW H × List MemPlace}(h:DataW.trod enc prog W 0 (fun _=>true) true fuel 46 cs=some x)(hw:∀n∈x.1.weights prog 46,n≤140737488351232) :
  ∃e:Evn,EvV W W.heap.size e cs∧I64 e.1:=by
 obtain⟨y0,y1,n',rfl,hlen,t0,t1⟩:=trod_struct2 underlying46 h;rw[sS]at hlen
 match cs,hlen with
 | [u0,u1],_=>
  simp only[pG,Ag,List.drop_zero,zm,zX,List.take_zero]at t0 t1;obtain⟨k,e0,rfl,wk⟩:=DataW.trod_int underlying3 t0;simp only[zQ,and_true]at e0;subst e0;obtain⟨F,n,c,fs,rfl,hf⟩:=EU t1 (jB (j:=1) underlying46 hw rfl rfl);exact⟨(k,fs),⟨F,n,c,rfl,hf⟩,lV wk⟩
theorem BU{fuel:Nat}{v:Value}{x:DataW H × List MemPlace}(h:DataW.trod enc prog W 0 (fun _=>true) true fuel 35 [v]=some x)(hw:∀n∈x.1.weights prog 35,n≤140737488351232) :
  ∃(A:Option Addr) (n c:Nat) (l:List Evn),v=.slice A n c∧EvsAt W W.heap.size A n c l∧∀e∈l,I64 e.1:=by
 obtain⟨A,len,cap,vss,ds,spare,rfl,hl,hvl,h3,hR,hd,hx,hall⟩:=qB underlying35 sS jo h
 have each:∀i:Nat,∃e:Evn,∀(h1:i<vss.length),EvV W W.heap.size e vss[i]∧I64 e.1:=fun i=>by
  by_cases hi:i<vss.length
  ·obtain⟨n',y,g1,g2⟩:=hall i hi jo;have hm:ds[i]'jo∈ds:=za _;rcases hx with hx|⟨z0,_⟩
   ·rw[hx]at hw;obtain⟨q,hq⟩:=Ch g1 (by rw[g2];exact oF underlying35 hw hm);exact⟨q,fun _=>hq⟩
   omega
  exact⟨(0,[]),fun h=>absurd h hi⟩
 obtain⟨f,hf⟩:=Classical.skolem.1 each
 have hbd:len≤4398046511104:=by
  rcases hx with hx|⟨z0,_⟩
  ·rw[hx]at hw;have:=oI underlying35 hw;rw[BR]at this;omega
  omega
 refine⟨A,len,cap,(List.range len).map f,rfl,⟨jz,hbd,hl,vss,hvl,hR,fun i h1 h2=>?_⟩,fun e he=>?_⟩
 ·have:=(hf i h2).1
  simpa using this
 obtain⟨i,hi,rfl⟩:=List.mem_map.1 he;exact(hf i (by have:=List.mem_range.1 hi;omega)).2
theorem AR{P:Program}{t:TypeId}{f0 f1 f2 f3 f4 f5 f6 f7 f8 f9 f10:Field}{fuel:Nat}{cs:List Value}{x:DataW H × List MemPlace}(ht:P.underlying t=some (.struct #[f0,f1,f2,f3,f4,f5,f6,f7,f8,f9,f10]))(h:DataW.trod enc P W 0 (fun _=>true) true fuel t cs=some x) :
  ∃y0 y1 y2 y3 y4 y5 y6 y7 y8 y9 y10 n,x.1=.agg [y0.1,y1.1,y2.1,y3.1,y4.1,y5.1,y6.1,y7.1,y8.1,y9.1,y10.1]∧cs.length=P.cellsOf t∧DataW.trod enc P W 0 (fun _=>true) true n f0.type ((cs.drop f0.offset).take (P.cellsOf f0.type))=some y0∧DataW.trod enc P W 0 (fun _=>true) true n f1.type ((cs.drop f1.offset).take (P.cellsOf f1.type))=some y1∧DataW.trod enc P W 0 (fun _=>true) true n f2.type ((cs.drop f2.offset).take (P.cellsOf f2.type))=some y2∧DataW.trod enc P W 0 (fun _=>true) true n f3.type ((cs.drop f3.offset).take (P.cellsOf f3.type))=some y3∧DataW.trod enc P W 0 (fun _=>true) true n f4.type ((cs.drop f4.offset).take (P.cellsOf f4.type))=some y4∧DataW.trod enc P W 0 (fun _=>true) true n f5.type ((cs.drop f5.offset).take (P.cellsOf f5.type))=some y5∧DataW.trod enc P W 0 (fun _=>true) true n f6.type ((cs.drop f6.offset).take (P.cellsOf f6.type))=some y6∧DataW.trod enc P W 0 (fun _=>true) true n f7.type ((cs.drop f7.offset).take (P.cellsOf f7.type))=some y7∧DataW.trod enc P W 0 (fun _=>true) true n f8.type ((cs.drop f8.offset).take (P.cellsOf f8.type))=some y8∧DataW.trod enc P W 0 (fun _=>true) true n f9.type ((cs.drop f9.offset).take (P.cellsOf f9.type))=some y9∧DataW.trod enc P W 0 (fun _=>true) true n f10.type ((cs.drop f10.offset).take (P.cellsOf f10.type))=some y10:=by
 obtain⟨xs,n,_,rfl,hl,hlen,hf⟩:=DataW.trod_struct ht h
 match xs,hlen with
 | [y0,y1,y2,y3,y4,y5,y6,y7,y8,y9,y10],_=>exact⟨y0,y1,y2,y3,y4,y5,y6,y7,y8,y9,y10,n,jz,hl,by simpa using hf 0 f0 rfl,by simpa using hf 1 f1 rfl,by simpa using hf 2 f2 rfl,by simpa using hf 3 f3 rfl,by simpa using hf 4 f4 rfl,by simpa using hf 5 f5 rfl,by simpa using hf 6 f6 rfl,by simpa using hf 7 f7 rfl,by simpa using hf 8 f8 rfl,by simpa using hf 9 f9 rfl,by simpa using hf 10 f10 rfl⟩
theorem J9{fuel:Nat}{cs:List Value}{x:DataW H × List MemPlace}(h:DataW.trod enc prog W 0 (fun _=>true) true fuel 37 cs=some x)(hw:∀n∈x.1.weights prog 37,n≤140737488351232) :
  ∃r z,cs=(rqC r z).toList∧RqAt W r z:=by
 obtain⟨y0,y1,y2,y3,y4,y5,y6,y7,y8,y9,y10,n,hx,hl,t0,t1,t2,t3,t4,t5,t6,t7,t8,t9,t10⟩:=AR underlying37 h;rw[uk]at hl;rw[hx]at hw
 match cs,hl with
 | [u0,u1,u2,u3,u4,u5,u6,u7,u8,u9,u10],_=>
  simp only[GM,pG,oW,rV,Ah,BS,List.drop_zero,zm,zX,List.take_zero,zB,zC]at t0 t1 t2 t3 t4 t5 t6 t7 t8 t9 t10;obtain⟨k0,e0,_,w0⟩:=DataW.trod_int underlying34 t0;obtain⟨k2,e2,_⟩:=DataW.trod_bool underlying4 t2;obtain⟨k3,e3,_,w3⟩:=DataW.trod_int underlying3 t3;obtain⟨k4,e4,_,_⟩:=DataW.trod_string underlying9 t4;obtain⟨k5,e5,_,w5⟩:=DataW.trod_int underlying3 t5;obtain⟨k6,e6,_,w6⟩:=DataW.trod_int underlying3 t6;obtain⟨k7,e7,_,w7⟩:=DataW.trod_int underlying3 t7;obtain⟨k8,e8,_,w8⟩:=DataW.trod_int underlying3 t8;obtain⟨k9,e9,_,w9⟩:=DataW.trod_int underlying3 t9;simp only[zQ,and_true]at e0 e2 e3 e4 e5 e6 e7 e8 e9;subst e0 e2 e3 e4 e5 e6 e7 e8 e9;obtain⟨E,en,ec,l,rfl,hE,hl⟩:=BU t1 (jB (j:=1) underlying37 hw rfl rfl);obtain⟨C,cn,cc,L,rfl,hC,hc⟩:=GR t10 (jB (j:=10) underlying37 hw rfl rfl);exact⟨⟨k0,l,k2,k3,k4,k5,k6,k7,k8,k9,L⟩,⟨E,en,ec,C,cn,cc⟩,rfl,hE,hC,hc,hl,lV w3,(lV w8).2⟩
theorem qX{fuel:Nat}{cs:List Value}{x:DataW H × List MemPlace}(h:DataW.trod enc prog W 0 (fun _=>true) true fuel 64 cs=some x)(hw:∀n∈x.1.weights prog 64,n≤140737488351232) :
  ∃r z t,cs=(rqC r z).toList ++ [.bool t]∧RqAt W r z:=by
 obtain⟨y0,y1,n',rfl,hl,t0,t1⟩:=trod_struct2 underlying64 h;rw[uA]at hl
 match cs,hl with
 | [u0,u1,u2,u3,u4,u5,u6,u7,u8,u9,u10,u11],_=>
  simp only[uk,oW,List.drop_zero,zm,zX,List.take_zero]at t0 t1;obtain⟨k,e1,_⟩:=DataW.trod_bool underlying4 t1;simp only[zQ,and_true]at e1;subst e1;obtain⟨r,z,e,hr⟩:=J9 t0 (jB (j:=0) underlying64 hw rfl rfl);refine⟨r,z,k,?_,hr⟩;rw[←e];rfl
theorem qC{v:Value}{d:DataW H}{p:List MemPlace}(hv:Value.okWide prog W .any base 22 v)(h:DataW.Trod enc prog W 0 (fun _=>true) true 22 v d p)(hw:∀n∈d.weights prog 22,n≤140737488351232) :
  ∃(A:Option Addr) (n c:Nat) (L:List Rq) (T:List Bool),v=.slice A n c∧StepsAt W A n c L∧StepsT W A n T:=by
 obtain⟨A0,n0,c0,rfl⟩:=okWide_slice underlying22 hv;obtain⟨fuel,hf⟩:=h;have hf:DataW.trod enc prog W 0 (fun _=>true) true fuel 22 [.slice A0 n0 c0]=some (d,p):=by simpa[Value.cells]using hf
 obtain⟨A,len,cap,vss,ds,spare,e,hl,hvl,h3,hR,hd,hx,hall⟩:=qB underlying22 uA jo hf;injection e with ea el ec;subst ea el ec
 have each:∀i:Nat,∃b:Rq × Rw × Bool,∀(h1:i<vss.length),vss[i]=(rqC b.1 b.2.1).toList ++ [.bool b.2.2]∧RqAt W b.1 b.2.1:=fun i=>by
  by_cases hi:i<vss.length
  ·obtain⟨n',y,g1,g2⟩:=hall i hi jo;have hm:ds[i]'jo∈ds:=za _;rcases hx with hx|⟨z0,_⟩
   ·have hx:d=.slice ds spare:=hx;rw[hx]at hw;obtain⟨r,z,t,hq⟩:=qX g1 (by rw[g2];exact oF underlying22 hw hm);exact⟨(r,z,t),fun _=>hq⟩
   omega
  exact⟨(rq0,⟨none,0,0,none,0,0⟩,false),fun h=>absurd h hi⟩
 obtain⟨f,hf'⟩:=Classical.skolem.1 each
 have hbd:n0≤4398046511104:=by
  rcases hx with hx|⟨z0,_⟩
  ·have hx:d=.slice ds spare:=hx;rw[hx]at hw;have:=oI underlying22 hw;rw[Cg]at this;omega
  omega
 refine⟨A0,n0,c0,(List.range n0).map (fun i=>(f i).1),(List.range n0).map (fun i=>(f i).2.2),rfl,⟨jz,hbd,fun i hi=>?_⟩,⟨jz,fun i hi=>?_⟩⟩
 ·have hi':i<n0:=by simpa using hi
  obtain⟨b,o,eA,hb,hc⟩:=hR.2 jo;obtain⟨e1,e2⟩:=hf' i jo;refine⟨b,o,(f i).2.1,eA,hb,fun j u hj=>?_,by simpa using e2⟩;obtain⟨hq,_⟩:=Array.getElem?_eq_some_iff.1 hj;have hj':j<11:=by simpa using hq
  have g:=cQ h3 i j jo jo;rw[Nat.add_assoc];refine hc _ _ (g.trans ?_);rw[e1,List.getElem?_append_left (by simpa using hj')]
  simpa using hj
 have hi':i<n0:=by simpa using hi
 obtain⟨b,o,eA,hb,hc⟩:=hR.2 jo;obtain⟨e1,e2⟩:=hf' i jo;refine⟨b,o,eA,hb,?_⟩;have g:=cQ h3 i 11 jo jo;rw[Nat.add_assoc];refine hc _ _ (g.trans ?_);rw[e1];simp
end
end Md

namespace Md
open Go.RowKit Ut Tk Qy Qp Ev Cu
theorem EW{m:M}{r:Rq}(h:¬(r.op=1∨r.op=2∨r.op=3∨r.op=6)):aQ m r=m:=by
 unfold aQ;rw[zH (fun e=>h (.inl e)),zH (fun e=>h (.inr (.inl e))),zH (fun e=>h (.inr (.inr (.inl e)))),zH (fun e=>h (.inr (.inr (.inr e))))]
theorem JD(w:World):RqAt w kT ⟨none,0,0,none,0,0⟩:=nI kT rfl rfl ⟨by show (-9223372036854775808:Int)≤0;decide,by show (0:Int)≤9223372036854775807;decide⟩ (by show (0:Int)≤9223372036854775807;decide)
theorem xj{w:World}{n0 X K:Nat}{v:Value}{m:M}(h:At w n0 X K v m)(hK:K≤59000)(hX:n0≤X):Calls prog 11 #[.pointer (some ⟨X,0,none⟩),.agg (rqC kT ⟨none,0,0,none,0,0⟩)] w fun e w'=>e=.returned (.agg (fH m))∧zWW w w':=
 (gY h hK hX kT _ (JD w)).mono (by
  rintro e w' ⟨v',m',cs,rfl,hR,_,_,hb,_⟩;obtain⟨rfl,rfl⟩:=hR.k11 rfl
  exact⟨rfl,(hb (by show (7:Int)≤11;decide)).1⟩)
theorem xk(w:World)(m:M):AnsAt w (fH m) (kP m):=Kg ..
theorem EX(A:Option Addr)(n cc:Nat)(LL:List Rq)(TT:List Bool)(r:Rq)(z:Rw)(fl:Bool)(w:World)(hL:StepsAt w A n cc LL)(hT:StepsT w A n TT)(hr:RqAt w r z) :
  Calls prog 6 #[.slice A n cc,.agg (stC r z fl)] w fun e w'=>e=.returned (.bool true)∧zWW w w':=by
 have hb0:=(zw w.heap.size w).alloc (zG _) (.cells (stC r z fl) 64);have HS0:=zh (Blk.new w 64 (stC r z fl));have HB0:=zh hb0
 have CA:Hid (∀wx,zWW w wx→Calls prog 8 #[.slice A n cc] wx (yx wx)):=zh (fun wx hb=>uj A n cc LL TT wx (hL.below hb) ⟨hT.ln,fun i hi=>by
  obtain⟨b,o,e,hlt,hc⟩:=hT.ex i hi
  exact⟨b,o,e,zT hlt hb.size,(hb.cell hlt).trans hc⟩⟩)
 have HRr:=zh hr;clear hL hT hr hb0;go_enter func6,ntmps6
 go_upto_region 1 with(fail);generalize w.alloc (.cells (stC r z fl) 64)=w1 at *;go_wp2_with fail;refine(CA.out w1 HB0.out).mono ?_;rintro e w2 ⟨n0,X,rb,K,v,lv,m,y,S,Lc,rfl,hK,hcc,hLp⟩;clear hcc;obtain⟨s1,s2,hst⟩:∃s1 s2:Int,fH m=rsC 0 0 m.floor nil nil nil s1 s2 m.now m.acked:=⟨_,_,rfl⟩;have HST:=zh hst;clear hst;have hb2:=hLp.bel;have hbx:zWW w2 (w2.alloc (.cells (rmC m y) 29)):=zRR _;have HL3:=zh (hLp.below hbx);have HS3:=zh (HS0.out.below (hb2.trans (hbx.mono hb2.size)) HS0.out.lt);have HM3:=zh (Blk.new w2 29 (rmC m y));have HB3:=zh (HB0.out.trans ((hb2.trans (hbx.mono hb2.size)).mono HB0.out.size));have hn0:=zh (And.intro (zY HB0.out.size hLp.h0.1) hLp.hx);clear hLp hb2 hbx HS0 HB0 CA
 go_upto_region 2 with(fail);generalize hbm:w2.heap.size=bm at *;generalize w2.alloc (.cells (rmC m y) 29)=w3 at *;clear hbm;go_wp2_with fail;refine(l8 w3).mono ?_;rintro e w4 ⟨rfl,hb4⟩;have HL4:=zh (HL3.out.below hb4);have HS4:=zb HS3 hb4;have HM4:=zb HM3 hb4;have HB4:=zt HB3 hb4;clear hb4 HL3 HS3 HM3 HB3;obtain⟨lb,hlb⟩:=HL4.out.last;obtain⟨LA,lc,rfl,hLR,hlc,hln,_⟩:=Ev.aP hlb;have hll:=HL4.out.ll;have CO:=zh (ij r z fl LA Lc.length lc Lc w4 (HRr.out.below HB4.out) hLR ⟨jo,hlc,hln⟩);clear hlb hLR hlc hln;go_wp2_with (first|(refine wpList_load_row (o:=⟨some 22,.load 64 _,_,_,_,_⟩) rfl 64 _ rfl (w.heap.size) rfl 64 (stC r z fl) (0,0) _ HS4.out underlying64 rfl jk ?_)|fail);refine CO.out.mono ?_;rintro e w5 ⟨zq,rfl,hrq,hb5,_,_⟩;have hbx:zWW w5 (w5.alloc (.cells (rqC (ofR r fl Lc) zq) 37)):=zRR _;have hb6:=hb5.trans (hbx.mono hb5.size);have HL6:=zh (HL4.out.below hb6);have HM6:=zb HM4 hb6;have HB6:=zt HB4 hb6;have HQ6:=zh (Blk.new w5 37 (rqC (ofR r fl Lc) zq));have HRQ6:=zh (hrq.below hbx);clear hrq hb5 hbx hb6 HL4 HS4 HM4 HB4 CO;generalize hrqe:ofR r fl Lc=rq at *;clear hrqe
 go_upto_region 5 with(fail);generalize hbq:w5.heap.size=bq at *;generalize w5.alloc (.cells (rqC rq zq) 37)=w6 at *;clear hbq;have q0:=HQ6.out.cell 0;simp only[rqC,zA,zB,zC]at q0;by_cases hop:rq.op=1∨rq.op=2∨rq.op=3∨rq.op=6
 ·have hbe:=zh HB6.out;clear HL6 HM6 HQ6 HRQ6 HB6;obtain⟨op,hope⟩:∃op,rq.op=op:=⟨_,rfl⟩;rw[hope]at q0 hop;clear hope;rcases hop with rfl|rfl|rfl|rfl
  all_goals
   go_wp2;go_ret;exact⟨rfl,hbe.out⟩
 have HOP:=zh hop;have o1:(rq.op==1)=false:=by rw[zM];exact fun e=>hop (.inl e)
 have o2:(rq.op==2)=false:=by rw[zM];exact fun e=>hop (.inr (.inl e))
 have o3:(rq.op==3)=false:=by rw[zM];exact fun e=>hop (.inr (.inr (.inl e)))
 have o6:(rq.op==6)=false:=by rw[zM];exact fun e=>hop (.inr (.inr (.inr e)))
 have CS:=zh (xj HL6.out.at_ jo hn0.out.2);rw[HST.out]at CS;clear hop;go_wp2_with fail;refine CS.out.mono ?_;rintro e w7 ⟨rfl,hb7⟩;have hbx:zWW w7 (w7.alloc (.cells (rsC 0 0 m.floor nil nil nil s1 s2 m.now m.acked) 42)):=zRR _;have hb8:=hb7.trans (hbx.mono hb7.size);have HL8:=zh (HL6.out.below hb8);have HM8:=zb HM6 hb8;have HQ8:=zb HQ6 hb8;have HRQ8:=zh (HRQ6.out.below hb8);have HB8:=zt HB6 hb8;have HW8:=zh (Blk.new w7 42 (rsC 0 0 m.floor nil nil nil s1 s2 m.now m.acked));clear hb7 hbx hb8 CS HL6 HM6 HQ6 HRQ6 HB6 q0 o1 o2 o3 o6
 go_upto_region 12 with(fail);generalize hbw:w7.heap.size=bw at *;generalize w7.alloc (.cells (rsC 0 0 m.floor nil nil nil s1 s2 m.now m.acked) 42)=w8 at *;clear hbw;have CD:=zh (gY HL8.out.at_ jo hn0.out.2 rq zq HRQ8.out);go_wp2_with (first|(refine wpList_load_row (o:=⟨some 36,.load 37 _,_,_,_,_⟩) rfl 37 _ rfl (bq) rfl 37 (rqC rq zq) (0,0) _ HQ8.out underlying37 rfl jk ?_)|fail);refine CD.out.mono ?_;rintro e w9 ⟨v9,m9,cs9,rfl,hR9,hA9,hc9,_,ho9⟩;obtain⟨rfl,_⟩:=hR9.ansO (by have:=HL8.out.at_.few;omega) HL8.out.at_.ok;have HL9:=zh (HL8.out.step hA9 hc9 ho9);rw[EW HOP.out]at HL9;have HM9:=zh (jh hc9 HL8.out.at_ HM8.out jd jd);have HW9:=zh (jh hc9 HL8.out.at_ HW8.out jd jd);have HB9:=zh (HB8.out.trans ((mQ hc9 HL8.out.at_.own hn0.out.2 HL8.out.at_.n0).mono hn0.out.1));clear hR9 hA9 hc9 ho9 CD HL8 HM8 HW8 HB8 HQ8 HRQ8;have CSt:=zh (fun wx (hb:zWW w9 wx)=>xj (HL9.out.at_.below hb) jo hn0.out.2);rw[HST.out]at CSt;have CDo:=zh (fun wx (hb:zWW w9 wx)=>um (HL9.out.at_.below hb) jo);have CSR:Hid (∀wx,Calls prog 20 #[.agg (rsC 0 0 m.floor nil nil nil s1 s2 m.now m.acked),.agg (rsC 0 0 m.floor nil nil nil s1 s2 m.now m.acked)] wx fun e w'=>e=.returned (.bool true)∧zWW wx w'):=zh (fun wx=>by rw[←HST.out];exact wW _ _ (kP m) wx (xk wx m) (xk wx m))
 have CT:Hid (∀wx A9 c9,zWW w9 wx→DocsAt wx wx.heap.size A9 m.ds.length m.ds→Calls prog 21 #[.slice A9 m.ds.length c9,.slice y.A y.n y.c] wx fun e w'=>e=.returned (.bool true)∧zWW wx w'):=zh (fun wx A9 c9 hb hD=>by
  have h:=(HL9.out.rt.below hb).docs;have hl:=h.ln;have hf:=HL9.out.rt.few;rw[←hl]at h ⊢
  exact ul A9 y.A m.ds.length c9 y.c m.ds wx hD h jo)
 have Hc:Hid (∀wx,zWW w9 wx→wx.cell? ⟨bm,7,none⟩=some (.slice y.A y.n y.c)∧wx.cell? ⟨bw,0,none⟩=some (.int .i64 0)∧wx.cell? ⟨bw,1,none⟩=some (.int .i64 0)∧wx.cell? ⟨bw,2,none⟩=some (.int .i64 m.floor)∧wx.cell? ⟨bw,3,none⟩=some (nil)∧wx.cell? ⟨bw,4,none⟩=some (nil)∧wx.cell? ⟨bw,5,none⟩=some (nil)∧wx.cell? ⟨bw,6,none⟩=some (.int .i64 s1)∧wx.cell? ⟨bw,7,none⟩=some (.int .i64 s2)∧wx.cell? ⟨bw,8,none⟩=some (.int .i64 m.now)∧wx.cell? ⟨bw,9,none⟩=some (.int .i64 m.acked)):=zh (fun wx hb=>by
  have x:=(HM9.out.below hb HM9.out.lt).cell 7;have t:=HW9.out.below hb HW9.out.lt;have t0:=t.cell 0;have t1:=t.cell 1;have t2:=t.cell 2;have t3:=t.cell 3;have t4:=t.cell 4;have t5:=t.cell 5;have t6:=t.cell 6;have t7:=t.cell 7;have t8:=t.cell 8;have t9:=t.cell 9;simp only[rmC,rsC,zA,zB,zC]at x t0 t1 t2 t3 t4 t5 t6 t7 t8 t9
  exact⟨x,t0,t1,t2,t3,t4,t5,t6,t7,t8,t9⟩)
 obtain⟨dl,hdl⟩:∃dl,m.ds.length=dl:=⟨_,rfl⟩;rw[hdl]at CT;have HDL:=zh hdl;clear hdl
 go_upto_region 13 with(fail);refine cH (aI [(2,⟨Unit,fun _=>(.agg (rsC 0 0 m.floor nil nil nil s1 s2 m.now m.acked)),fun _ _=>True⟩),(4,⟨Unit,fun _=>(.bool true),fun _ _=>True⟩),(7,⟨Option Addr × Nat,fun x=>.slice x.1 dl x.2,fun x wz=>DocsAt wz wz.heap.size x.1 dl m.ds⟩),(10,⟨Unit,fun _=>(.bool true),fun _ _=>True⟩)]) (fun wx=>Below (World.heap w9).size w9 wx) (fun w1 w2=>zWW w1 w2) jk jk (aN (fun _ _ _ _ h=>h) (aN (fun _ _ _ _ h=>h) (aN (fun x wa wb hg h=>h.grow hg) (aN (fun _ _ _ _ h=>h) (aX))))) (zw _ _).drew ?_
 iterate 2
  refine aH _ ?_ rfl jr jr (fun wx hC hD=>?_) ?_;rotate_left
  ·have hSw:=Hc.out wx hC;go_simp;all_goals with_reducible rfl
  try simp only[Act.put,zD,zE,zF]
 refine ae 3 _ rfl jr jr (fun wx hC hD=>?_) (fun x=>?_)
 ·refine aZ (f:=?_) (args:=?_) ?_ ?_;rotate_left 2
  ·have hSw:=Hc.out wx hC;go_simp;all_goals first|with_reducible rfl|(refine⟨?_,?_⟩<;>with_reducible rfl)
  exact cz hC (CSt.out wx hC)
 obtain⟨⟩:=x;try simp only[Act.put,zD,zE,zF]
 refine aH 4 ?_ rfl jr jr (fun wx hC hD=>?_) ?_;rotate_left
 ·have hSw:=Hc.out wx hC;go_simp;all_goals with_reducible rfl
 try simp only[Act.put,zD,zE,zF]
 refine ae 5 _ rfl jr jr (fun wx hC hD=>?_) (fun x=>?_)
 ·refine aZ (f:=?_) (args:=?_) ?_ ?_;rotate_left 2
  ·have hSw:=Hc.out wx hC;go_simp;all_goals first|with_reducible rfl|(refine⟨?_,?_⟩<;>with_reducible rfl)
  exact cz hC (CSR.out wx)
 obtain⟨⟩:=x;try simp only[Act.put,zD,zE,zF]
 iterate 2
  refine aH _ ?_ rfl jr jr (fun wx hC hD=>?_) ?_;rotate_left
  ·have hSw:=Hc.out wx hC;go_simp;all_goals with_reducible rfl
  try simp only[Act.put,zD,zE,zF]
 refine ae 8 _ rfl jr jr (fun wx hC hD=>?_) (fun x=>?_)
 ·refine aZ (f:=?_) (args:=?_) ?_ ?_;rotate_left 2
  ·have hSw:=Hc.out wx hC;go_simp;all_goals first|with_reducible rfl|(refine⟨?_,?_⟩<;>with_reducible rfl)
  refine(CDo.out wx hC).mono ?_;rintro e w9 ⟨v9,rfl,hD9,hb9⟩;obtain⟨A9,c9,rfl,_⟩:=hD9.read;exact⟨_,rfl,hb9,hC.trans (hb9.mono hC.size),(A9,c9),by rw[←HDL.out],by have:=xY hD9 rfl;rw[←HDL.out];exact this⟩
 obtain⟨A6,c6⟩:=x;try simp only[Act.put,zD,zE,zF]
 iterate 2
  refine aH _ ?_ rfl jr jr (fun wx hC hD=>?_) ?_;rotate_left
  ·have hSw:=Hc.out wx hC;go_simp;all_goals with_reducible rfl
  try simp only[Act.put,zD,zE,zF]
 refine ae 11 _ rfl jr jr (fun wx hC hD=>?_) (fun x=>?_)
 ·refine aZ (f:=?_) (args:=?_) ?_ ?_;rotate_left 2
  ·have hSw:=Hc.out wx hC;go_simp;all_goals first|with_reducible rfl|(refine⟨?_,?_⟩<;>with_reducible rfl)
  have hd:=bf (fC hD 7 jk) jd;exact cz hC (CT.out wx A6 c6 hC hd)
 obtain⟨⟩:=x;try simp only[Act.put,zD,zE,zF]
 iterate 2
  refine aH _ ?_ rfl jr jr (fun wx hC hD=>?_) ?_;rotate_left
  ·have hSw:=Hc.out wx hC;go_simp;all_goals with_reducible rfl
  try simp only[Act.put,zD,zE,zF]
 refine ah (fun wE hC hF=>?_);have HBe:=zt HB9 hC;clear hF hC CSt CDo CSR CT Hc HL9 HM9 HW9 HB9;go_wp2;go_ret;exact⟨rfl,HBe.out⟩
end Md

namespace Md
open Go.RowKit Go.ChangeShapes Go.WideShapes Go.ChangeAt Go.Deep Go.Joins Ut Tk Qy Ev Qp Cu Mx
section
variable {H:Type} {enc:TypeId × Value→H} {W:World} {base:Nat}
theorem JE{v:Value}{d:DataW H}{p:List MemPlace}(hv:Value.okWide prog W .any base 64 v)(h:DataW.Trod enc prog W 0 (fun _=>true) true 64 v d p)(hw:∀n∈d.weights prog 64,n≤140737488351232) :
  ∃(r:Rq) (z:Rw) (fl:Bool),v=.agg (stC r z fl)∧RqAt W r z:=by
 obtain⟨cs,rfl,_⟩:=okWide_struct underlying64 hv;obtain⟨fuel,hf⟩:=h;obtain⟨r,z,t,h1,h2⟩:=qX hf hw;refine⟨r,z,t,?_,h2⟩;have e:cs.toList=(stC r z t).toList:=h1;exact congrArg Value.agg (Array.toList_inj.1 e)
end
end Md

namespace Md
open Go.RowKit
theorem Ci(A:Option Addr)(n cc:Nat)(LL:List Rq)(TT:List Bool)(q0:ByteArray)(fr ti wd:Int)(h:(Lit.int .i64 wd).wf=true)(w:World)(hL:StepsAt w A n cc LL)(hT:StepsT w A n TT) :
  Calls prog 3 #[.slice A n cc,.string q0,.int .i64 fr,.int .i64 ti,.int .i64 wd] w fun e w'=>e=.returned (.bool true)∧zWW w w':=
 Ce A n cc LL TT q0 fr ti wd (lV h).2 w hL hT
end Md
end Go.Proofs.YtmomjpolkkbhnaaGreat
