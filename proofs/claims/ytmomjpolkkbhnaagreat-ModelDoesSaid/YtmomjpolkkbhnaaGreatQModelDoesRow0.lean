/- ModelDoes: the law's walk (printed by gen_met.py). -/
import Derived.Test.YtmomjpolkkbhnaaGreatQModelCountsRow44
import Derived.Test.YtmomjpolkkbhnaaGreatQModelCountsRow37
import Derived.Test.YtmomjpolkkbhnaaGreatQModelCountsRow19
import Derived.Test.YtmomjpolkkbhnaaGreatQModelCountsRow0
set_option linter.unusedSimpArgs false
set_option linter.unusedVariables false
set_option maxRecDepth 20000
set_option maxHeartbeats 100000000
open Go.Proofs.Tryz
namespace Go.Proofs.YtmomjpolkkbhnaaGreat
namespace Md
open Go.RowKit Ut Tk Qy Qp Ev Cu
theorem GV(c:Cf)(hret:c.retain≤9223372036854775807)(A:Option Addr)(n cc:Nat)(LL:List Rq)(TT:List Bool)(w:World)(hL:StepsAt w A n cc LL)(hT:StepsT w A n TT) :
  Calls prog 5 #[c.v,.slice A n cc] w fun e w'=>e=.returned (.bool true)∧zWW w w':=by
 have HSL:=zh hL;have HST:=zh hT;have hLn:=hL.ln;have hTn:=hT.ln;have hLn1:LL.length≤n:=by rw[hLn];exact zG _
 have hLn2:n≤LL.length:=by rw[hLn];exact zG _
 have hTn2:n≤TT.length:=by rw[hTn];exact zG _
 have hLf:=hL.few;clear hL hT hLn hTn;have HCx:=zh (Blk.new w 25 #[.int .i64 c.size,.int .i64 c.age,.int .i64 c.retain,.int .i64 c.batch,.int .i64 c.buckets,.bool c.bt,.bool c.bb]);have HB:=zh ((zw w.heap.size w).alloc (zG _) (.cells #[.int .i64 c.size,.int .i64 c.age,.int .i64 c.retain,.int .i64 c.batch,.int .i64 c.buckets,.bool c.bt,.bool c.bb] 25));have CN:Hid (∀wx,Calls prog 15 #[.agg #[.int .i64 c.size,.int .i64 c.age,.int .i64 c.retain,.int .i64 c.batch,.int .i64 c.buckets,.bool c.bt,.bool c.bb]] wx (ni c wx)):=zh (fun wx=>qc c hret wx);have CM:Hid (∀wx,Calls prog 17 #[.agg #[.int .i64 c.size,.int .i64 c.age,.int .i64 c.retain,.int .i64 c.batch,.int .i64 c.buckets,.bool c.bt,.bool c.bb]] wx (nT c wx)):=zh (fun wx=>tv c wx);show Calls prog 5 #[.agg #[.int .i64 c.size,.int .i64 c.age,.int .i64 c.retain,.int .i64 c.batch,.int .i64 c.buckets,.bool c.bt,.bool c.bb],.slice A n cc] w _;go_enter func5,ntmps5
 go_upto_region 1 with(fail);generalize w.alloc (.cells #[.int .i64 c.size,.int .i64 c.age,.int .i64 c.retain,.int .i64 c.batch,.int .i64 c.buckets,.bool c.bt,.bool c.bb] 25)=w1 at *;have k0:=HCx.out.cell 0;have k1:=HCx.out.cell 1;have k2:=HCx.out.cell 2;have k3:=HCx.out.cell 3;have k4:=HCx.out.cell 4;have k5:=HCx.out.cell 5;have k6:=HCx.out.cell 6;simp only[zA,zB,zC]at k0 k1 k2 k3 k4 k5 k6;go_wp2_with fail;refine(CN.out w1).mono ?_;rintro e w2 hN;have hs1:=HB.out.size;rcases hN with⟨hok,X,rfl,hX,hA,hb2⟩|⟨hok,rfl,hb2⟩
 ·have HB2:=zt HB hb2;have HA2:=zh hA;have HC2:=zb HCx hb2;have HOK:=zh hok;clear hA hb2 hok HCx HB CN k0 k1 k2 k3 k4 k5 k6;have k0:=HC2.out.cell 0;have k1:=HC2.out.cell 1;have k2:=HC2.out.cell 2;have k3:=HC2.out.cell 3;have k4:=HC2.out.cell 4;have k5:=HC2.out.cell 5;have k6:=HC2.out.cell 6;simp only[zA,zB,zC]at k0 k1 k2 k3 k4 k5 k6;go_wp2_with fail;refine(CM.out w2).mono ?_;rintro e w3 ⟨hb3,hcs⟩
  obtain rfl:e=.returned (.tuple #[.agg (rmC (⟨c,[],-9223372036854775808,-9223372036854775808,0⟩:M) (⟨none,0,0,none,0,0⟩:Rz)),.int .i64 0]):=by
   rcases hcs with⟨_,h⟩|⟨h,_⟩
   ·exact h
   exact absurd HOK.out h
  obtain⟨m0,hm0⟩:∃m0:M,(⟨c,[],-9223372036854775808,-9223372036854775808,0⟩:M)=m0:=⟨_,rfl⟩;obtain⟨y0,hy0⟩:∃y0:Rz,(⟨none,0,0,none,0,0⟩:Rz)=y0:=⟨_,rfl⟩;have hbx:zWW w3 (w3.alloc (.cells (rmC m0 y0) 29)):=zRR _;have hrt:=xe (w:=w3.alloc (.cells (rmC m0 y0) 29)) HOK.out hret;have hA2:=HA2.out;rw[hm0]at hA2;rw[hm0,hy0]at hrt ⊢;have HB3:=zh (HB2.out.trans ((hb3.trans (hbx.mono hb3.size)).mono HB2.out.size));have hLp:Lp w w1.heap.size X w3.heap.size (130*0) nil nil m0 m0 y0 (fun _=>False) [] (w3.alloc (.cells (rmC m0 y0) 29)):=⟨hA2.below (hb3.trans (hbx.mono hb3.size)),Blk.new _ _ _,hrt,wT _ _,fun b hb=>hb.elim,⟨0,vM _ _ _ _⟩,jd,HB3.out,hX,hs1,by have:=HB2.out.size;have:=hb3.size;omega⟩;have HL0:=zh hLp;clear hm0 hy0 hbx hrt hA2 hb3 hcs hLp HA2 HB2 HC2 CM k0 k1 k2 k3 k4 k5 k6
  go_upto_region 3 with(fail);generalize hrb:w3.heap.size=rb at *;generalize w3.alloc (.cells (rmC m0 y0) 29)=w4 at *;clear hrb;go_wp2_with fail;refine(l8 w4).mono ?_;rintro e w5 ⟨rfl,hb5⟩;have HL5:=zh (HL0.out.below hb5);clear hb5 HL0;go_wp2_with fail;go_loopw [9,10] (fun lv iv wr=>∃(k:Nat) (v:Value) (m:M) (y:Rz) (S:Nat→Prop) (Lc:List UInt8) (lw:Value),lw=lv∧iv=.int .i64 k∧k≤n∧k≤40∧Hid (Lp w w1.heap.size X rb (130*k) v lw m m y S Lc wr)) (fun _ iv _=>40-(intOf iv).toNat)
  case atStart=>exact⟨0,_,_,_,_,_,_,rfl,rfl,zS _,zS _,HL5⟩
  clear HL5;obtain⟨k,v,m,y,S,Lc,lw,rfl,rfl,hkn,hk40,HL⟩:=hrel;by_cases hlt:k<n∧k<40
  ·obtain⟨hlt,hlt40⟩:=hlt;have hki:(k:Int)<(n:Int):=jo;have hki2:(k:Int)<40:=jo;have hki0:(0:Int)≤(k:Int):=jo;have hkl:k<LL.length:=jo;have hkt:k<TT.length:=jo;obtain⟨b,o,z,hAe,hbb,hc,hr⟩:=HSL.out.ex k hkl;obtain⟨b',o',hAe',hbb',hc11⟩:=HST.out.ex k hkt;rw[hAe]at hAe';injection hAe' with hAe';injection hAe' with e1 e2 _;subst e1 e2;subst hAe;have hBl:=HL.out.bel;have hs:∀j u,(rqC LL[k] z)[j]?=some u→wr.cell? ⟨b,o+k*12+j,none⟩=some u:=fun j u hj=>(hBl.cell (p:=⟨b,o+k*12+j,none⟩) hbb).trans (hc j u hj)
   have hs11:=(hBl.cell (p:=⟨b,o+k*12+11,none⟩) hbb').trans hc11;have HRr0:=zh hr;have HRr:=zh (hr.below hBl);clear hc hr hc11 hBl;generalize LL[k]=r at *;generalize TT[k]=fl at *;have s0:wr.cell? ⟨b,o+k*12,none⟩=some (.int .i64 r.op):=hs 0 _ rfl;have s1:wr.cell? ⟨b,o+k*12+1,none⟩=some (.slice z.E z.en z.ec):=hs 1 _ rfl;have s2:wr.cell? ⟨b,o+k*12+2,none⟩=some (.bool r.dur):=hs 2 _ rfl;have s3:wr.cell? ⟨b,o+k*12+3,none⟩=some (.int .i64 r.now):=hs 3 _ rfl;have s4:wr.cell? ⟨b,o+k*12+4,none⟩=some (.string r.q):=hs 4 _ rfl;have s5:wr.cell? ⟨b,o+k*12+5,none⟩=some (.int .i64 r.frm):=hs 5 _ rfl;have s6:wr.cell? ⟨b,o+k*12+6,none⟩=some (.int .i64 r.til):=hs 6 _ rfl;have s7:wr.cell? ⟨b,o+k*12+7,none⟩=some (.int .i64 r.lim):=hs 7 _ rfl;have s8:wr.cell? ⟨b,o+k*12+8,none⟩=some (.int .i64 r.width):=hs 8 _ rfl;have s9:wr.cell? ⟨b,o+k*12+9,none⟩=some (.int .i64 r.after):=hs 9 _ rfl;have s10:wr.cell? ⟨b,o+k*12+10,none⟩=some (.slice z.C z.cn z.cc):=hs 10 _ rfl;have s11:wr.cell? ⟨b,o+k*12+11,none⟩=some (.bool fl):=hs11;clear hs hs11;obtain⟨lb,hlb⟩:=HL.out.last;obtain⟨LA,lc,rfl,hLR,hlc,hln,_⟩:=Ev.aP hlb;have hll:=HL.out.ll;have CO:=zh (ij r z fl LA Lc.length lc Lc wr HRr.out hLR ⟨jo,hlc,hln⟩);clear hlb hLR hlc hln;obtain⟨ln,hln⟩:∃ln,Lc.length=ln:=⟨_,rfl⟩;rw[hln]at CO HL ⊢;have HLN:=zh hln;clear hln;go_wp2_with fail;refine CO.out.mono ?_;rintro e wa ⟨zq,rfl,hrq,hba,hEq,hcq⟩;have hwa:=hba.size;have hbx:zWW wa (wa.alloc (.cells (rqC (ofR r fl Lc) zq) 37)):=zRR _;have hb2:=hba.trans (hbx.mono hwa);have HL2:=zh (HL.out.below hb2);have HQ2:=zh (Blk.new wa 37 (rqC (ofR r fl Lc) zq));have HRQ2:=zh (hrq.below hbx);have HE2:=zh (hEq.same (S':=fun b=>wr.heap.size≤b∧b<wa.heap.size) (fun b hb=>⟨hb,hbx.block b hb.2⟩));have HCQ:=zh hcq;have h2s:wa.heap.size<(wa.alloc (.cells (rqC (ofR r fl Lc) zq) 37)).heap.size:=jz;have HSE0:=zh hwa;clear CO hba hbx hb2 hrq hEq hcq s0 s1 s2 s3 s4 s5 s6 s7 s8 s9 s10 s11 HRr;obtain⟨rq,hrqe⟩:∃rq,ofR r fl Lc=rq:=⟨_,rfl⟩;rw[hrqe]at HL2 HQ2 HRQ2 HE2 HCQ h2s ⊢;clear hrqe
   go_upto_region 10 with(fail);generalize wa.alloc (.cells (rqC rq zq) 37)=w2 at *;have CD:=zh (gY HL2.out.at_ jo HL2.out.hx rq zq HRQ2.out);go_wp2_with (first|(refine wpList_load_row (o:=⟨some 60,.load 37 _,_,_,_,_⟩) rfl 37 _ rfl (wa.heap.size) rfl 37 (rqC rq zq) (0,0) _ HQ2.out underlying37 rfl jk ?_)|fail);refine CD.out.mono ?_;rintro e w3 ⟨v3,m3,cs3,rfl,hR3,hA3,hc3,_,hon3⟩;obtain⟨rfl,a3,hAR3,hO3⟩:=hR3.ansO (by have:=HL2.out.at_.few;omega) HL2.out.at_.ok;have hfa3:=nJ (wb:=w2) HL.out hon3;have hfa2:=nJ (wb:=wa) HL.out (v':=v) (.inl rfl);have HL3:=zh (HL2.out.step hA3 hc3 hon3);have HQ3:=zh (jh hc3 HL2.out.at_ HQ2.out jd jd);have HE3:=zh (wV HE2.out hc3 hfa2 (fun b hb=>Nat.lt_trans hb.2 h2s));have HFE:=zh (fun b (hb:wr.heap.size≤b∧b<wa.heap.size)=>hfa3 b ⟨hb.1,jo⟩);have HAR3:=zh hAR3;have h3s:=hc3.size;obtain⟨A3,n3,c3,B3,k3,d3,C3,l3,f3,rfl,_⟩:=hO3.at_;have hbx4:zWW w3 (w3.alloc (.cells (rsC a3.E a3.seq a3.fl (.slice A3 n3 c3) (.slice B3 k3 d3) (.slice C3 l3 f3) a3.ev a3.nx a3.nw a3.ak) 42)):=zRR _;have HBA4:=zh (Blk.new w3 42 (rsC a3.E a3.seq a3.fl (.slice A3 n3 c3) (.slice B3 k3 d3) (.slice C3 l3 f3) a3.ev a3.nx a3.nw a3.ak));have HOA4:=zh (hO3.below hbx4);have HL4:=zh (HL3.out.below hbx4);have HQ4:=zb HQ3 hbx4;have HE4:=zh (HE3.out.same (S':=fun b=>wr.heap.size≤b∧b<wa.heap.size) (fun b hb=>⟨hb,hbx4.block b jo⟩));have h4s:=hbx4.size;clear hbx4 HL3 HQ3 HE3;clear CD HL2 HQ2 HE2 hR3 hA3 hc3 hon3 hfa3 hfa2 hAR3 hO3
   go_upto_region 11 with(fail);generalize w3.alloc (.cells (rsC a3.E a3.seq a3.fl (.slice A3 n3 c3) (.slice B3 k3 d3) (.slice C3 l3 f3) a3.ev a3.nx a3.nw a3.ak) 42)=w4 at *
   have hcur:Reads w4 w4.heap.size 1 zq.C zq.cn (bv rq.cur):=HCQ.out w4 w4.heap.size (HRr0.out.below HL4.out.bel).cur (by
    obtain⟨base,hl⟩:=HL4.out.last;rw[HLN.out]at hl
    exact Reads.of_own hl)
   have hrq4:RqAt w4 rq zq:=wU HRQ2.out HE4.out (fun b hb=>jo) hcur;have HRQ4:=zh hrq4;clear hcur hrq4;have CR:=zh (xh (Se:=fun b=>wr.heap.size≤b∧b<wa.heap.size) HL4.out.rt jo rq zq HRQ4.out HE4.out (fun b hb=>jo));have HMr4:=zh HL4.out.blk;go_wp2_with (first|(refine wpList_load_row (o:=⟨some 63,.load 29 _,_,_,_,_⟩) rfl 29 _ rfl (rb) rfl 29 (rmC m y) (0,0) _ HMr4.out underlying29 rfl jk ?_)|(refine wpList_load_row (o:=⟨some 64,.load 37 _,_,_,_,_⟩) rfl 37 _ rfl (wa.heap.size) rfl 37 (rqC rq zq) (0,0) _ HQ4.out underlying37 rfl jk ?_)|fail);refine CR.out.mono ?_;rintro e w5 ⟨y5,cs5,a5,rfl,hb5,hAR5,hO5,hRA5⟩;obtain⟨A5,n5,c5,B5,k5,d5,C5,l5,f5,rfl,_⟩:=hO5.at_;have haa:a5=a3:=hAR5.det HAR3.out;subst haa;have h5s:=hb5.size;have hbn:zWW w5 ((w5.alloc (.cells (rmC (aQ m rq) y5) 29)).alloc (.cells (rsC a5.E a5.seq a5.fl (.slice A5 n5 c5) (.slice B5 k5 d5) (.slice C5 l5 f5) a5.ev a5.nx a5.nw a5.ak) 42)):=(zRR _).alloc jz _;have hn6:=(Blk.new w5 29 (rmC (aQ m rq) y5)).alloc (.cells (rsC a5.E a5.seq a5.fl (.slice A5 n5 c5) (.slice B5 k5 d5) (.slice C5 l5 f5) a5.ev a5.nx a5.nw a5.ak) 42);have hb6:=Blk.new (w5.alloc (.cells (rmC (aQ m rq) y5) 29)) 42 (rsC a5.E a5.seq a5.fl (.slice A5 n5 c5) (.slice B5 k5 d5) (.slice C5 l5 f5) a5.ev a5.nx a5.nw a5.ak);rw[show (w5.alloc (.cells (rmC (aQ m rq) y5) 29)).heap.size=w5.heap.size+1 by simp]at hb6;have HN6:=zh hn6;have HBB6:=zh hb6;have HBN:=zh hbn;have HL7:=zh (HL4.out.next (K2:=130*(k+1)) hb5 (hRA5.more jo) jo HFE.out (fun b hb=>by have:=HL.out.blk.lt;omega) hbn);have hrb6:=(HL4.out.blk.below (hb5.trans (hbn.mono h5s)) HL4.out.blk.lt);have HRB6:=zh hrb6;have HO5:=zh ((hO5.below hbn).row hrb6 ⟨jd,jd,jd⟩ (rA _ _) (rmC (aQ m rq) y5));have HOA7:=zh ((HOA4.out.below (hb5.trans (hbn.mono h5s))).row hrb6 ⟨jd,jd,jd⟩ (rA _ _) (rmC (aQ m rq) y5));have HBA6:=zh (HBA4.out.below (hb5.trans (hbn.mono h5s)) HBA4.out.lt);clear HOA4 HBA4;clear hbn hn6 hb6 hrb6 CR hb5 hAR5 hO5 hRA5 HL4 HE4 HQ4 HRQ4 HMr4 HAR3 HCQ HRQ2;have hrbn:w5.heap.size≠rb:=by have:=HL.out.blk.lt;omega
   have hrbb:w5.heap.size+1≠rb:=by have:=HL.out.blk.lt;omega
   obtain⟨m7,hm7⟩:∃m7,aQ m rq=m7:=⟨_,rfl⟩;rw[hm7]at HN6 HBB6 HBN HL7 HRB6 HO5 HOA7 HBA6 ⊢;clear hm7
   go_upto_region 12 with(fail);generalize ((w5.alloc (.cells (rmC m7 y5) 29)).alloc (.cells (rsC a5.E a5.seq a5.fl (.slice A5 n5 c5) (.slice B5 k5 d5) (.slice C5 l5 f5) a5.ev a5.nx a5.nw a5.ak) 42))=w6 at *;have HBB7:Hid (Blk (w6.setRow rb (rmC m7 y5)) (w5.heap.size+1) 42 (rsC a5.E a5.seq a5.fl (.slice A5 n5 c5) (.slice B5 k5 d5) (.slice C5 l5 f5) a5.ev a5.nx a5.nw a5.ak)):=zh ((vJ w6 rb _ _ hrbb).trans HBB6.out);have hrba:w3.heap.size≠rb:=by have:=HL.out.blk.lt;omega
   have HBA7:Hid (Blk (w6.setRow rb (rmC m7 y5)) w3.heap.size 42 (rsC a5.E a5.seq a5.fl (.slice A3 n3 c3) (.slice B3 k3 d3) (.slice C3 l3 f3) a5.ev a5.nx a5.nw a5.ak)):=zh ((vJ w6 rb _ _ hrba).trans HBA6.out);clear HBA6;clear HBN
   go_upto_region 13 with(first|(refine wpList_load_row (o:=⟨some 68,.load 29 _,_,_,_,_⟩) rfl 29 _ rfl (w5.heap.size) rfl 29 (rmC m7 y5) (0,0) _ HN6.out underlying29 rfl jk ?_)|(refine zv (o:=⟨none,.store 29 _ _,_,_,_,_⟩) rfl 29 _ _ rfl (rb) (rmC m7 y5) rfl rfl 29 (rmC m y) HRB6.out jk rfl (by simp[rmC,Value.oneCell']) ?_)|fail);generalize w6.setRow rb (rmC m7 y5)=w7 at *;clear HN6 HBB6 HRB6;have hkk:130*(k+1)≤60000:=jo;have CDo:=zh (fun wx (hb:zWW w7 wx)=>um (HL7.out.at_.below hb) hkk)
   have Hc13:Hid (∀wx,zWW w7 wx→wx.cell? ⟨rb,7,none⟩=some (.slice y5.A y5.n y5.c)∧wx.cell? ⟨w3.heap.size,0,none⟩=some (.int .i64 a5.E)∧wx.cell? ⟨w3.heap.size,1,none⟩=some (.int .i64 a5.seq)∧wx.cell? ⟨w3.heap.size,2,none⟩=some (.int .i64 a5.fl)∧wx.cell? ⟨w3.heap.size,3,none⟩=some (.slice A3 n3 c3)∧wx.cell? ⟨w3.heap.size,4,none⟩=some (.slice B3 k3 d3)∧wx.cell? ⟨w3.heap.size,5,none⟩=some (.slice C3 l3 f3)∧wx.cell? ⟨w3.heap.size,6,none⟩=some (.int .i64 a5.ev)∧wx.cell? ⟨w3.heap.size,7,none⟩=some (.int .i64 a5.nx)∧wx.cell? ⟨w3.heap.size,8,none⟩=some (.int .i64 a5.nw)∧wx.cell? ⟨w3.heap.size,9,none⟩=some (.int .i64 a5.ak)∧wx.cell? ⟨w5.heap.size+1,0,none⟩=some (.int .i64 a5.E)∧wx.cell? ⟨w5.heap.size+1,1,none⟩=some (.int .i64 a5.seq)∧wx.cell? ⟨w5.heap.size+1,2,none⟩=some (.int .i64 a5.fl)∧wx.cell? ⟨w5.heap.size+1,3,none⟩=some (.slice A5 n5 c5)∧wx.cell? ⟨w5.heap.size+1,4,none⟩=some (.slice B5 k5 d5)∧wx.cell? ⟨w5.heap.size+1,5,none⟩=some (.slice C5 l5 f5)∧wx.cell? ⟨w5.heap.size+1,6,none⟩=some (.int .i64 a5.ev)∧wx.cell? ⟨w5.heap.size+1,7,none⟩=some (.int .i64 a5.nx)∧wx.cell? ⟨w5.heap.size+1,8,none⟩=some (.int .i64 a5.nw)∧wx.cell? ⟨w5.heap.size+1,9,none⟩=some (.int .i64 a5.ak)):=zh (fun wx hb=>by
    have t:=HBA7.out.below hb HBA7.out.lt;have s:=HBB7.out.below hb HBB7.out.lt;have x:=(HL7.out.blk.below hb HL7.out.blk.lt).cell 7;have t0:=t.cell 0;have s0:=s.cell 0;have t1:=t.cell 1;have s1:=s.cell 1;have t2:=t.cell 2;have s2:=s.cell 2;have t3:=t.cell 3;have s3:=s.cell 3;have t4:=t.cell 4;have s4:=s.cell 4;have t5:=t.cell 5;have s5:=s.cell 5;have t6:=t.cell 6;have s6:=s.cell 6;have t7:=t.cell 7;have s7:=s.cell 7;have t8:=t.cell 8;have s8:=s.cell 8;have t9:=t.cell 9;have s9:=s.cell 9;simp only[rsC,rmC,zA,zB,zC]at x t0 s0 t1 s1 t2 s2 t3 s3 t4 s4 t5 s5 t6 s6 t7 s7 t8 s8 t9 s9
    exact⟨x,t0,t1,t2,t3,t4,t5,t6,t7,t8,t9,s0,s1,s2,s3,s4,s5,s6,s7,s8,s9⟩)
   have h7f:=HL7.out.rt.few;have CS13:Hid (∀wx,zWW w7 wx→Calls prog 20 #[.agg (rsC a5.E a5.seq a5.fl (.slice A3 n3 c3) (.slice B3 k3 d3) (.slice C3 l3 f3) a5.ev a5.nx a5.nw a5.ak),.agg (rsC a5.E a5.seq a5.fl (.slice A5 n5 c5) (.slice B5 k5 d5) (.slice C5 l5 f5) a5.ev a5.nx a5.nw a5.ak)] wx fun e w'=>e=.returned (.bool true)∧zWW wx w'):=zh (fun wx hb=>wW _ _ a5 wx (HOA7.out.below hb).at_ (HO5.out.below hb).at_)
   have CT13:Hid (∀wx A9 c9,zWW w7 wx→DocsAt wx wx.heap.size A9 m7.ds.length m7.ds→Calls prog 21 #[.slice A9 m7.ds.length c9,.slice y5.A y5.n y5.c] wx fun e w'=>e=.returned (.bool true)∧zWW wx w'):=zh (fun wx A9 c9 hb hD=>by
    have h:=(HL7.out.rt.below hb).docs;have hl:=h.ln;rw[←hl]at h ⊢
    exact ul A9 y5.A m7.ds.length c9 y5.c m7.ds wx hD h jo)
   obtain⟨dl,hdl⟩:∃dl,m7.ds.length=dl:=⟨_,rfl⟩;rw[hdl]at CT13;have HDL:=zh hdl;clear hdl;refine cH (aI [(2,⟨Unit,fun _=>(.bool true),fun _ _=>True⟩),(6,⟨Option Addr × Nat,fun x=>.slice x.1 dl x.2,fun x wz=>DocsAt wz wz.heap.size x.1 dl m7.ds⟩),(9,⟨Unit,fun _=>(.bool true),fun _ _=>True⟩)]) (fun wx=>Below (World.heap w7).size w7 wx) (fun w1 w2=>zWW w1 w2) jk jk (aN (fun _ _ _ _ h=>h) (aN (fun x wa wb hg h=>h.grow hg) (aN (fun _ _ _ _ h=>h) (aX)))) (zw _ _).drew ?_
   iterate 2
    refine aH _ ?_ rfl jr jr (fun wx hC hD=>?_) ?_;rotate_left
    ·have hSw:=Hc13.out wx hC;go_simp;all_goals with_reducible rfl
    try simp only[Act.put,zD,zE,zF]
   refine ae 3 _ rfl jr jr (fun wx hC hD=>?_) (fun x=>?_)
   ·refine aZ (f:=?_) (args:=?_) ?_ ?_;rotate_left 2
    ·have hSw:=Hc13.out wx hC;go_simp;all_goals first|with_reducible rfl|(refine⟨?_,?_⟩<;>with_reducible rfl)
    exact cz hC (CS13.out wx hC)
   obtain⟨⟩:=x;try simp only[Act.put,zD,zE,zF]
   iterate 3
    refine aH _ ?_ rfl jr jr (fun wx hC hD=>?_) ?_;rotate_left
    ·have hSw:=Hc13.out wx hC;go_simp;all_goals with_reducible rfl
    try simp only[Act.put,zD,zE,zF]
   refine ae 7 _ rfl jr jr (fun wx hC hD=>?_) (fun x=>?_)
   ·refine aZ (f:=?_) (args:=?_) ?_ ?_;rotate_left 2
    ·have hSw:=Hc13.out wx hC;go_simp;all_goals first|with_reducible rfl|(refine⟨?_,?_⟩<;>with_reducible rfl)
    refine(CDo.out wx hC).mono ?_;rintro e w9 ⟨v9,rfl,hD9,hb9⟩;obtain⟨A9,c9,rfl,_⟩:=hD9.read;exact⟨_,rfl,hb9,hC.trans (hb9.mono hC.size),(A9,c9),by rw[←HDL.out],by have:=xY hD9 rfl;rw[←HDL.out];exact this⟩
   obtain⟨A6,c6⟩:=x;try simp only[Act.put,zD,zE,zF]
   iterate 2
    refine aH _ ?_ rfl jr jr (fun wx hC hD=>?_) ?_;rotate_left
    ·have hSw:=Hc13.out wx hC;go_simp;all_goals with_reducible rfl
    try simp only[Act.put,zD,zE,zF]
   refine ae 10 _ rfl jr jr (fun wx hC hD=>?_) (fun x=>?_)
   ·refine aZ (f:=?_) (args:=?_) ?_ ?_;rotate_left 2
    ·have hSw:=Hc13.out wx hC;go_simp;all_goals first|with_reducible rfl|(refine⟨?_,?_⟩<;>with_reducible rfl)
    have hd:=bf (fC hD 6 jk) jd;exact cz hC (CT13.out wx A6 c6 hC hd)
   obtain⟨⟩:=x;try simp only[Act.put,zD,zE,zF]
   iterate 2
    refine aH _ ?_ rfl jr jr (fun wx hC hD=>?_) ?_;rotate_left
    ·have hSw:=Hc13.out wx hC;go_simp;all_goals with_reducible rfl
    try simp only[Act.put,zD,zE,zF]
   refine ah (fun w8 hC hF=>?_);have HL8:=zh (HL7.out.below hC);have HBB8:=zb HBB7 hC;have HO8:=zh (HO5.out.below hC);clear hF hC CDo Hc13 CS13 CT13 HL7 HBB7 HBA7 HOA7 HO5 h7f hkk;have s5:=HBB8.out.cell 5;simp only[rsC,zA,zB,zC]at s5;by_cases hl0:l5=0
   ·have hlz:¬(0:Int)<(l5:Int):=jo;clear hl0;have HL9:=HL8;rw[←HLN.out]at HL9;go_wp2;exact⟨⟨k+1,_,m7,y5,_,Lc,_,rfl,by push_cast;rfl,jo,jo,by first|exact HL9|exact HL8|(rw[←HLN.out];exact HL9)⟩,by show _-((k:Int)+1).toNat < _-((k:Int)).toNat;omega⟩
   have hlz:(0:Int)<(l5:Int):=jo;clear hl0
   have HL9:Hid (Lp w w1.heap.size X rb (130*(k+1)) v3 (.slice C5 l5 f5) m7 m7 y5 _ a5.cur w8):=zh (by
    obtain⟨⟨v1,v2,v3',e9,_,_,b3,h3⟩,hf⟩:=HO8.out
    have e6:Value.slice C5 l5 f5=v3':=by
     have h:=congrArg (fun x:Array Value=>x[5]?) e9
     simpa[rsC]using h
    have hlc:a5.cur.length=l5:=by
     obtain⟨A',c',e',_⟩:=Ev.aP h3;rw[e']at e6;injection e6 with _ e7 _;exact e7.symm
    exact HL8.out.told ⟨b3,by rw[e6];exact h3⟩ hf.2.2)
   go_wp2;exact⟨⟨k+1,_,m7,y5,_,a5.cur,_,rfl,by push_cast;rfl,jo,jo,HL9⟩,by show _-((k:Int)+1).toNat < _-((k:Int)).toNat;omega⟩
  by_cases hkk:k<n
  ·have hki:(k:Int)<(n:Int):=jo;have hki2:¬(k:Int)<40:=jo;have hbe:=zh HL.out.bel;clear HL hlt;go_wp2;go_ret;exact⟨rfl,hbe.out⟩
  have hki:¬(k:Int)<(n:Int):=jo;have hbe:=zh HL.out.bel;clear HL hlt;go_wp2;go_ret;exact⟨rfl,hbe.out⟩
 have HB2:=zt HB hb2;have HC2:=zb HCx hb2;have HOK:=zh hok;clear hb2 hok HCx HB CN k0 k1 k2 k3 k4 k5 k6;have k0:=HC2.out.cell 0;have k1:=HC2.out.cell 1;have k2:=HC2.out.cell 2;have k3:=HC2.out.cell 3;have k4:=HC2.out.cell 4;have k5:=HC2.out.cell 5;have k6:=HC2.out.cell 6;simp only[zA,zB,zC]at k0 k1 k2 k3 k4 k5 k6;go_wp2_with fail;refine(CM.out w2).mono ?_;rintro e w3 ⟨hb3,hcs⟩
 obtain rfl:e=.returned (.tuple #[.agg zmC,.int .i64 270]):=by
  rcases hcs with⟨h,_⟩|⟨_,h⟩
  ·exact absurd h HOK.out
  exact h
 have hbx:zWW w3 (w3.alloc (.cells zmC 29)):=zRR _;have HB3:=zh (HB2.out.trans ((hb3.trans (hbx.mono hb3.size)).mono HB2.out.size));clear hbx hb3 hcs HB2 HC2 CM k0 k1 k2 k3 k4 k5 k6
 go_upto_region 3 with(fail);generalize w3.alloc (.cells zmC 29)=w4 at *;go_wp2_with fail;refine(l8 w4).mono ?_;rintro e w5 ⟨rfl,hb5⟩;have HB5:=zt HB3 hb5;clear hb5 HB3;by_cases hn0:0<n
 ·have hn1:(0:Int)<(n:Int):=jo;go_wp2_with fail;go_loopw [10] (fun iv wr=>w5=wr∧iv=.int .i64 0) (fun iv _=>40-(intOf iv).toNat)
  case atStart=>exact⟨rfl,rfl⟩
  obtain⟨rfl,rfl⟩:=hrel;go_wp2;go_ret;exact⟨rfl,HB5.out⟩
 have hn1:¬(0:Int)<(n:Int):=jo;go_wp2_with fail;go_loopw [10] (fun iv wr=>w5=wr∧iv=.int .i64 0) (fun iv _=>40-(intOf iv).toNat)
 case atStart=>exact⟨rfl,rfl⟩
 obtain⟨rfl,rfl⟩:=hrel;go_wp2;go_ret;exact⟨rfl,HB5.out⟩
end Md
end Go.Proofs.YtmomjpolkkbhnaaGreat
