/- The document's model: search (printed by gen_meh.py). -/
import Derived.Test.YtmomjpolkkbhnaaGreatQModelCountsRow39
import Derived.Test.YtmomjpolkkbhnaaGreatQModelCountsRow36
set_option linter.unusedSimpArgs false
set_option linter.unusedVariables false
set_option maxRecDepth 20000
set_option maxHeartbeats 100000000
open Go.Proofs.Tryz
namespace Go.Proofs.YtmomjpolkkbhnaaGreat
namespace Md
open Go.RowKit Ut Tk Qy Qp Ev Cu
def RaP(A:Ans→Prop)(w:World)(e:Ending)(w':World):Prop:=∃cs a,e=.returned (.agg cs)∧zWW w w'∧A a∧AnsO w' cs a
section
variable {w:World} {S:Nat→Prop} {K:Nat} {m:M} {y:Rz}
theorem BL(h:RAt w S K m y)(hK:K≤60000)(r:Rq)(z:Rw):Calls prog 50 #[.agg (rmC m y),.agg (rqC r z)] w (RaP (SeA m r) w):=by
 have hb:zWW w (((w.alloc (.cells (rmC m y) 29)).alloc (.cells (rqC r z) 37)).alloc (.cells rs0 42)):=((zRR _).alloc jz _).alloc jm _;have hm:=((Blk.new w 29 (rmC m y)).alloc (.cells (rqC r z) 37)).alloc (.cells rs0 42);have hq:=(Blk.new (w.alloc (.cells (rmC m y) 29)) 37 (rqC r z)).alloc (.cells rs0 42);have hr:=Blk.new ((w.alloc (.cells (rmC m y) 29)).alloc (.cells (rqC r z) 37)) 42 rs0;have z1:(w.alloc (.cells (rmC m y) 29)).heap.size=w.heap.size+1:=jz;have z2:((w.alloc (.cells (rmC m y) 29)).alloc (.cells (rqC r z) 37)).heap.size=w.heap.size+2:=jz;rw[z1]at hq;rw[z2]at hr;have H1:=zh (h.below hb);have HM:=zh hm;have HQ:=zh hq;have HR:=zh hr;have HB:=zh hb;have hsw:w.heap.size+3≤(World.heap (((w.alloc (.cells (rmC m y) 29)).alloc (.cells (rqC r z) 37)).alloc (.cells rs0 42))).size:=jz;have hfew:=h.few;have HSW:Hid (∀b,S b→b<w.heap.size):=zh h.lt;clear h hb hm hq hr z1 z2;go_enter func50,ntmps50
 go_upto_region 1 with(fail);generalize (((w.alloc (.cells (rmC m y) 29)).alloc (.cells (rqC r z) 37)).alloc (.cells rs0 42))=w1 at *;have q4:=HQ.out.cell 4;simp only[rqC,zA,zB,zC]at q4;go_wp2_with fail;refine(lD r.q w1).mono ?_;rintro e w2 ⟨E,o,a0,a1,a2,a3,hp,rfl,hF,hb2⟩;obtain⟨A1,n1,c1,A2,n2,c2,e4⟩:=hF.four;simp only[zQ,and_true]at e4;obtain⟨rfl,rfl,rfl,rfl⟩:=e4;have H2:=zh (H1.out.below hb2);have HM2:=zb HM hb2;have HR2:=zb HR hb2;have HQ2:=zb HQ hb2;have HB2:=zt HB hb2;have HP:=zh hp;have hqt:QAt w2 w2.heap.size (o.getD noQ) [.int .i64 (o.getD noQ).kind,.string (o.getD noQ).name,.slice A1 n1 c1,.slice A2 n2 c2]:=hF.at_ (fun b hb=>hb.2);have HQT:=zh hqt;have hb3:zWW w2 (w2.alloc (.cells #[.int .i64 (o.getD noQ).kind,.string (o.getD noQ).name,.slice A1 n1 c1,.slice A2 n2 c2] 60)):=zRR _;have HBQ:=zh (Blk.new w2 60 #[.int .i64 (o.getD noQ).kind,.string (o.getD noQ).name,.slice A1 n1 c1,.slice A2 n2 c2]);have HB32:=zh hb3;clear hF hb2 hp hqt hb3 q4;rcases iy HP.out with⟨rfl,q,rfl,hqs⟩|⟨hE,rfl⟩
 ·skip
  have hk1:((some q:Option Q).getD noQ)=q:=rfl;rw[hk1]at HQT HBQ HB32 ⊢;have HQS:=zh hqs;clear hk1 hqs;obtain⟨qk,hqk⟩:∃qk,q.kind=qk:=⟨_,rfl⟩;obtain⟨qn,hqn⟩:∃qn,q.name=qn:=⟨_,rfl⟩;have HKK:=zh (And.intro hqk hqn);rw[hqk,hqn]at HQT HBQ HB32 ⊢;clear hqk hqn;have HB3:=zh (HB2.out.trans (HB32.out.mono HB2.out.size));have HR3:=zh (HR2.out.below HB32.out HR2.out.lt);have HQ3:=zh (HQ2.out.below HB32.out HQ2.out.lt);have HM3:=zh (HM2.out.below HB32.out HM2.out.lt);have H3:=zh (H2.out.below HB32.out);have HQT3:=zh (HQT.out.grow HB32.out)
  go_upto_region 2 with(fail);generalize w2.alloc (.cells #[.int .i64 qk,.string qn,.slice A1 n1 c1,.slice A2 n2 c2] 60)=w3 at *;have q5:=HQ3.out.cell 5;have q6:=HQ3.out.cell 6;have q7:=HQ3.out.cell 7;simp only[rqC,zA,zB,zC]at q5 q6 q7;have k0:=HBQ.out.cell 0;have k1:=HBQ.out.cell 1;have k2:=HBQ.out.cell 2;have k3:=HBQ.out.cell 3;simp only[zA,zB,zC]at k0 k1 k2 k3;have CL:=zh (tZ r.lim w3);have CD:Hid (Calls prog 85 #[.agg (rmC m y),.agg #[.int .i64 qk,.string qn,.slice A1 n1 c1,.slice A2 n2 c2],.int .i64 r.frm,.int .i64 r.til] w3 (rB w3 S (upL m (inB r.frm r.til q)))):=zh (ui H3.out hK q HQS.out _ _ _ _ r.frm r.til ⟨A1,n1,c1,A2,n2,c2,by rw[HKK.out.1,HKK.out.2]⟩ HQT3.out);have HLF:Hid (bz r.lim=true→1≤r.lim∧r.lim≤10000):=zh (fun h=>by simpa[bz]using h);obtain⟨lb,hlb⟩:∃lb,bz r.lim=lb:=⟨_,rfl⟩;rw[hlb]at CL HLF;have HLB:=zh hlb;have HUL:Hid ((upL m (inB r.frm r.til q)).length≤60000):=zh (zY (List.length_filter_le _ _) (zY hfew hK));clear hlb;generalize hu:upL m (inB r.frm r.til q)=U at *;have HU:=zh hu;clear hu
  cases lb with
  | false=>
   clear CD;go_wp2_with fail;refine CL.out.mono ?_;rintro e w4 ⟨rfl,rfl⟩;go_wp2_with fail;refine(fS (1) w3).mono ?_;rintro e w9 ⟨rfl,hb9⟩;have HB9:=zt HB3 hb9;have HR9:=zb HR3 hb9;clear hb9;have HX9:=zh (zx _ (w.heap.size+2) _ (rsC (1) 0 0 nil nil nil 0 0 0 0) _ _ HR9.out);go_wp2_with (refine zv (o:=⟨none,.store 42 _ _,_,_,_,_⟩) rfl 42 _ _ rfl (w.heap.size+2) (rsC (1) 0 0 nil nil nil 0 0 0 0) rfl rfl 42 rs0 HR9.out jk rfl (by simp[rsC,Value.oneCell']) ?_);refine zu (aA rfl rfl (zr _ (w.heap.size+2) 42 42 _ (0,0) _ HX9.out underlying42 rfl jk)) rfl ?_;exact⟨_,_,rfl,zz HB9.out jo _,⟨0,_,HP.out,.inr (.inl ⟨rfl,HLB.out,rfl⟩)⟩,aT ..⟩
  | true=>
   go_wp2_with fail;refine CL.out.mono ?_;rintro e w4 ⟨rfl,rfl⟩;clear CL;have LROW:=zh HM3.out;go_wp2_with (first|(refine wpList_load_row (o:=⟨some 23,.load 29 _,_,_,_,_⟩) rfl 29 _ rfl (w.heap.size) rfl 29 (rmC m y) (0,0) _ LROW.out underlying29 rfl jk ?_)|fail);refine CD.out.mono ?_;rintro e w4 ⟨v4,D,rfl,hD,hT,hb4⟩;obtain⟨A3,c3,rfl,_,hc3,_⟩:=hD.read;have HB4:=zt HB3 hb4;have HR4:=zb HR3 hb4;have HQ4:=zb HQ3 hb4;have HD4:=zh hD;have HT:=zh hT;have hDl:D.length≤60000:=by rw[hT.perm.length_eq];exact HUL.out
   have hs3:=HB3.out.size;have hs4:=HB4.out.size;obtain⟨hl1,hl2⟩:=HLF.out (by first|rfl|trivial);have hmn:min (D.length:Int) r.lim=((min D.length r.lim.toNat:Nat):Int):=jo;have hmc:((min D.length r.lim.toNat:Nat):Int)≤(c3:Int):=jo;clear hD hT hb4 CD q5 q6 q7 k0 k1 k2 k3;have q7:=HQ4.out.cell 7;simp only[rqC,zA,zB,zC]at q7;obtain⟨mn,hmd⟩:∃mn,min D.length r.lim.toNat=mn:=⟨_,rfl⟩;have HMD:=zh hmd;rw[hmd]at hmn hmc;clear hmd;have HX9:=zh (zx _ (w.heap.size+2) _ (rsC 0 0 0 (.slice A3 mn c3) nil nil 0 0 0 0) _ _ HR4.out);go_wp2_with (refine zv (o:=⟨none,.store 42 _ _,_,_,_,_⟩) rfl 42 _ _ rfl (w.heap.size+2) (rsC 0 0 0 (.slice A3 mn c3) nil nil 0 0 0 0) rfl rfl 42 rs0 HR4.out jk rfl (by simp[rsC,Value.oneCell']) ?_);refine zu (aA rfl rfl (zr _ (w.heap.size+2) 42 42 _ (0,0) _ HX9.out underlying42 rfl jk)) rfl ?_;have hrow:=HD4.out.row HR4.out (fun b hb=>by have:=HSW.out b hb;omega) (rsC 0 0 0 (.slice A3 mn c3) nil nil 0 0 0 0);have hDW:=DW.ofS hrow (fun b hb=>zT (show b<w4.heap.size by have:=HSW.out b hb;omega) jz);have hmle:mn≤D.length:=by rw[←HMD.out];exact Nat.min_le_left _ _
   exact⟨_,{ an0 0 0 0 with docs:=D.take (min D.length r.lim.toNat) },rfl,zz HB4.out jo _,⟨0,_,HP.out,.inr (.inr ⟨q,D,rfl,rfl,HLB.out,by rw[HU.out];exact HT.out,rfl⟩)⟩,
    ⟨_,nil,nil,rfl,by rw[HMD.out];exact hDW.pre rfl hmle,⟨0,vM _ _ _ _⟩,0,vM _ _ _ _⟩,by rw[HMD.out];show (D.take mn).length≤1048576;rw[zK];omega,zS _,zS _⟩
 have hE2:(E != 0)=true:=by simpa using hE
 have HE:=zh hE;have HB3:=zh (HB2.out.trans (HB32.out.mono HB2.out.size));have HR3:=zh (HR2.out.below HB32.out HR2.out.lt);clear HBQ HQT hE;generalize ((none:Option Q).getD noQ).kind=z1 at *;generalize ((none:Option Q).getD noQ).name=z2 at *
 go_upto_region 2 with(fail);generalize w2.alloc (.cells #[.int .i64 z1,.string z2,.slice A1 n1 c1,.slice A2 n2 c2] 60)=w3 at *;go_wp2_with fail;refine(fS (E) w3).mono ?_;rintro e w9 ⟨rfl,hb9⟩;have HB9:=zt HB3 hb9;have HR9:=zb HR3 hb9;clear hb9;have HX9:=zh (zx _ (w.heap.size+2) _ (rsC (E) 0 0 nil nil nil 0 0 0 0) _ _ HR9.out);go_wp2_with (refine zv (o:=⟨none,.store 42 _ _,_,_,_,_⟩) rfl 42 _ _ rfl (w.heap.size+2) (rsC (E) 0 0 nil nil nil 0 0 0 0) rfl rfl 42 rs0 HR9.out jk rfl (by simp[rsC,Value.oneCell']) ?_);refine zu (aA rfl rfl (zr _ (w.heap.size+2) 42 42 _ (0,0) _ HX9.out underlying42 rfl jk)) rfl ?_;exact⟨_,_,rfl,zz HB9.out jo _,⟨E,_,HP.out,.inl ⟨HE.out,rfl⟩⟩,aT ..⟩
end
end Md

namespace Md
open Go.RowKit Ut Tk Qy Qp Ev Cu
theorem sQ(a:Int)(q:ByteArray)(w:World):Calls prog 86 #[.agg #[.int .i64 a,.string q]] w (BytesTo w (bF a q) (aG a q)):=by
 unfold bF aG;by_cases h:IsC a q
 ·rw[zI h,zI h];obtain⟨n,rfl⟩:∃n:Nat,a=(n:Int):=⟨a.toNat,by have:=h.1;omega⟩;rw[Int.toNat_natCast];exact sO n q w h
 rw[zH h,zH h];exact tT a q w h
theorem I7(a:Int)(q:ByteArray):aG a q=0∨aG a q=250:=by
 unfold aG;by_cases h:IsC a q
 ·rw[zI h];exact .inl rfl
 rw[zH h];exact .inr rfl
theorem I8{w:World}{base:Nat}{A:Option Addr}{c:Nat}{L:List UInt8}(h:w.ownsRow base 5 1 (.slice A L.length c) L.length (bv L))(hl:L.length≤1048576):AnsO w (rsC 0 0 0 nil nil (.slice A L.length c) 0 0 0 0) { an0 0 0 0 with cur:=L }:=
 ⟨⟨nil,nil,_,rfl,lU w,⟨0,vM _ _ _ _⟩,base,h⟩,zS _,zS _,hl⟩
section
variable {w:World} {S:Nat→Prop} {K:Nat} {m:M} {y:Rz}
theorem EP(r:Rq)(z:Rw):Calls prog 52 #[.agg (rqC r z)] w (RaP (OpA r) w):=by
 have hb:zWW w ((w.alloc (.cells (rqC r z) 37)).alloc (.cells rs0 42)):=(zRR _).alloc jz _;have hq:=(Blk.new w 37 (rqC r z)).alloc (.cells rs0 42);have hr:=Blk.new (w.alloc (.cells (rqC r z) 37)) 42 rs0;have z1:(w.alloc (.cells (rqC r z) 37)).heap.size=w.heap.size+1:=jz;rw[z1]at hr;have HQ:=zh hq;have HR:=zh hr;have HB:=zh hb;have hsw:w.heap.size+2≤(World.heap ((w.alloc (.cells (rqC r z) 37)).alloc (.cells rs0 42))).size:=jz;clear hb hq hr z1;go_enter func52,ntmps52
 go_upto_region 1 with(fail);generalize ((w.alloc (.cells (rqC r z) 37)).alloc (.cells rs0 42))=w1 at *;have q4:=HQ.out.cell 4;simp only[rqC,zA,zB,zC]at q4;go_wp2_with fail;refine(lD r.q w1).mono ?_;rintro e w2 ⟨E,o,a0,a1,a2,a3,hp,rfl,hF,hb2⟩;obtain⟨A1,n1,c1,A2,n2,c2,e4⟩:=hF.four;simp only[zQ,and_true]at e4;obtain⟨rfl,rfl,rfl,rfl⟩:=e4;have HR2:=zb HR hb2;have HQ2:=zb HQ hb2;have HB2:=zt HB hb2;have HP:=zh hp;have hqt:QAt w2 w2.heap.size (o.getD noQ) [.int .i64 (o.getD noQ).kind,.string (o.getD noQ).name,.slice A1 n1 c1,.slice A2 n2 c2]:=hF.at_ (fun b hb=>hb.2);have HQT:=zh hqt;have hb3:zWW w2 (w2.alloc (.cells #[.int .i64 (o.getD noQ).kind,.string (o.getD noQ).name,.slice A1 n1 c1,.slice A2 n2 c2] 60)):=zRR _;have HBQ:=zh (Blk.new w2 60 #[.int .i64 (o.getD noQ).kind,.string (o.getD noQ).name,.slice A1 n1 c1,.slice A2 n2 c2]);have HB32:=zh hb3;clear hF hb2 hp hqt hb3 q4;rcases iy HP.out with⟨rfl,q,rfl,hqs⟩|⟨hE,rfl⟩
 ·have HB3:=zh (HB2.out.trans (HB32.out.mono HB2.out.size));have HR3:=zh (HR2.out.below HB32.out HR2.out.lt);have HQ3:=zh (HQ2.out.below HB32.out HQ2.out.lt);clear HBQ HQT HR2 HQ2;generalize ((some q:Option Q).getD noQ).kind=z1 at *;generalize ((some q:Option Q).getD noQ).name=z2 at *
  go_upto_region 2 with(fail);generalize w2.alloc (.cells #[.int .i64 z1,.string z2,.slice A1 n1 c1,.slice A2 n2 c2] 60)=w3 at *;have q4:=HQ3.out.cell 4;have q9:=HQ3.out.cell 9;simp only[rqC,zA,zB,zC]at q4 q9;have CE:=zh (sQ r.after r.q w3);have hor:=I7 r.after r.q;obtain⟨en,hen⟩:∃en,aG r.after r.q=en:=⟨_,rfl⟩;rw[hen]at CE hor;have HEN:=zh hen;have HLL:=zh (mO r.after r.q);obtain⟨bs,hbs⟩:∃bs,bF r.after r.q=bs:=⟨_,rfl⟩;rw[hbs]at CE HLL;have HBS:=zh hbs;clear hen hbs;go_wp2_with fail;refine CE.out.mono ?_;rintro e w8 hBT;obtain⟨v8,rfl,ho8⟩:=hBT.ex;obtain⟨A4,c4,rfl,_⟩:=Ev.aP ho8;have HO8:=zh ho8;have HB8:=zh (HB3.out.trans (hBT.bel.mono HB3.out.size));have HR8:=zh (HR3.out.below hBT.bel HR3.out.lt);have hs3:=HB3.out.size;clear hBT ho8 CE q4 q9;rcases hor with rfl|rfl
  ·skip
   have HX9:=zh (zx _ (w.heap.size+1) _ (rsC 0 0 0 nil nil (.slice A4 bs.length c4) 0 0 0 0) _ _ HR8.out);go_wp2_with (refine zv (o:=⟨none,.store 42 _ _,_,_,_,_⟩) rfl 42 _ _ rfl (w.heap.size+1) (rsC 0 0 0 nil nil (.slice A4 bs.length c4) 0 0 0 0) rfl rfl 42 rs0 HR8.out jk rfl (by simp[rsC,Value.oneCell']) ?_);refine zu (aA rfl rfl (zr _ (w.heap.size+1) 42 42 _ (0,0) _ HX9.out underlying42 rfl jk)) rfl ?_
   have ho9:=cT (w':=w8.setRow (w.heap.size+1) (rsC 0 0 0 nil nil (.slice A4 bs.length c4) 0 0 0 0)) HO8.out (fun b hb=>vJ w8 _ b _ (fun e=>by
    subst e
    exact absurd ((aY HO8.out hb).one ⟨_,_,HR8.out⟩) jd))
   exact⟨_,{ an0 0 0 0 with cur:=bF r.after r.q },rfl,zz HB8.out jo _,⟨0,_,HP.out,.inr (.inr ⟨rfl,HEN.out,rfl⟩)⟩,by rw[HBS.out];exact I8 ho9 (by have:=HLL.out;omega)⟩
  go_wp2_with fail;refine(fS (250) w8).mono ?_;rintro e w9 ⟨rfl,hb9⟩;have HB9:=zt HB8 hb9;have HR9:=zb HR8 hb9;clear hb9;have HX9:=zh (zx _ (w.heap.size+1) _ (rsC (250) 0 0 nil nil nil 0 0 0 0) _ _ HR9.out);go_wp2_with (refine zv (o:=⟨none,.store 42 _ _,_,_,_,_⟩) rfl 42 _ _ rfl (w.heap.size+1) (rsC (250) 0 0 nil nil nil 0 0 0 0) rfl rfl 42 rs0 HR9.out jk rfl (by simp[rsC,Value.oneCell']) ?_);refine zu (aA rfl rfl (zr _ (w.heap.size+1) 42 42 _ (0,0) _ HX9.out underlying42 rfl jk)) rfl ?_;exact⟨_,_,rfl,zz HB9.out jo _,⟨0,_,HP.out,.inr (.inl ⟨rfl,by rw[HEN.out];decide,by rw[HEN.out]⟩)⟩,aT ..⟩
 have hE2:(E != 0)=true:=by simpa using hE
 have HE:=zh hE;have HB3:=zh (HB2.out.trans (HB32.out.mono HB2.out.size));have HR3:=zh (HR2.out.below HB32.out HR2.out.lt);clear HBQ HQT hE;generalize ((none:Option Q).getD noQ).kind=z1 at *;generalize ((none:Option Q).getD noQ).name=z2 at *
 go_upto_region 2 with(fail);generalize w2.alloc (.cells #[.int .i64 z1,.string z2,.slice A1 n1 c1,.slice A2 n2 c2] 60)=w3 at *;go_wp2_with fail;refine(fS (E) w3).mono ?_;rintro e w9 ⟨rfl,hb9⟩;have HB9:=zt HB3 hb9;have HR9:=zb HR3 hb9;clear hb9;have HX9:=zh (zx _ (w.heap.size+1) _ (rsC (E) 0 0 nil nil nil 0 0 0 0) _ _ HR9.out);go_wp2_with (refine zv (o:=⟨none,.store 42 _ _,_,_,_,_⟩) rfl 42 _ _ rfl (w.heap.size+1) (rsC (E) 0 0 nil nil nil 0 0 0 0) rfl rfl 42 rs0 HR9.out jk rfl (by simp[rsC,Value.oneCell']) ?_);refine zu (aA rfl rfl (zr _ (w.heap.size+1) 42 42 _ (0,0) _ HX9.out underlying42 rfl jk)) rfl ?_;exact⟨_,_,rfl,zz HB9.out jo _,⟨E,_,HP.out,.inl ⟨HE.out,rfl⟩⟩,aT ..⟩
theorem Cc(h:RAt w S K m y)(hK:K≤60000):Calls prog 54 #[.agg (rmC m y)] w (RaP (fun a=>a=kP m) w):=by
 have hb:zWW w ((w.alloc (.cells (rmC m y) 29)).alloc (.cells rs0 42)):=(zRR _).alloc jz _;have hq:=(Blk.new w 29 (rmC m y)).alloc (.cells rs0 42);have hr:=Blk.new (w.alloc (.cells (rmC m y) 29)) 42 rs0;have z1:(w.alloc (.cells (rmC m y) 29)).heap.size=w.heap.size+1:=jz;rw[z1]at hr;have H1:=zh (h.below hb);have HM:=zh hq;have HR:=zh hr;have HB:=zh hb;have hsw:w.heap.size+2≤(World.heap ((w.alloc (.cells (rmC m y) 29)).alloc (.cells rs0 42))).size:=jz;have hfew:=h.few;have hzn1:m.ds.length≤y.n:=by rw[h.ds.ln];exact zG _
 have hzn2:y.n≤m.ds.length:=by rw[h.ds.ln];exact zG _
 have HUP:Hid (∀k,(h:k<m.ds.length)→((m.ds.take (k+1)).filter (fun d=>decide (m.floor≤d.at_)&&true)).length=((m.ds.take k).filter (fun d=>decide (m.floor≤d.at_)&&true)).length+if m.floor≤m.ds[k].at_ then 1 else 0):=zh (fun k hk=>by
  rw[zL hk,List.filter_append,zJ];congr 1
  by_cases hp:m.floor≤m.ds[k].at_<;>simp[List.filter_cons,hp])
 have HLE:Hid (∀k,((m.ds.take k).filter (fun d=>decide (m.floor≤d.at_)&&true)).length≤k):=zh (fun k=>zY (List.length_filter_le _ _) jw)
 have HST:Hid (∀n k:Nat,n=((m.ds.take k).filter (fun d=>decide (m.floor≤d.at_)&&true)).length→k=m.ds.length→(⟨0,0,m.floor,[],[],[],(n:Int),((m.ds.length:Nat):Int)+1,m.now,m.acked⟩:Ans)=kP m):=zh (fun n k hn hk=>by
  subst hk;rw[List.take_length]at hn;subst hn
  rfl)
 obtain⟨fl,hfl⟩:∃fl:Nat→Nat,(fun k=>((m.ds.take k).filter (fun d=>decide (m.floor≤d.at_)&&true)).length)=fl:=⟨_,rfl⟩;have HFL:Hid (∀k,fl k=((m.ds.take k).filter (fun d=>decide (m.floor≤d.at_)&&true)).length):=zh (fun k=>by rw[←hfl]);clear h hb hq hr z1 hfl;go_enter func54,ntmps54
 go_upto_region 1 with(fail);generalize ((w.alloc (.cells (rmC m y) 29)).alloc (.cells rs0 42))=w1 at *;go_wp2_with fail;go_loopw [3,4] (fun nv iv wr=>∃(k:Nat) (n:Nat),nv=.int .i64 (n:Nat)∧iv=.int .i64 (k:Nat)∧k≤m.ds.length∧n≤k∧Hid (n=fl k)∧Hid (zWW w1 wr)) (fun _ iv _=>m.ds.length-(intOf iv).toNat)
 case atStart=>exact⟨0,0,rfl,rfl,zS _,zG _,zh (by rw[HFL.out];simp),zh (zw _ _)⟩
 obtain⟨k,n,rfl,rfl,hk,hnk,HN,hBr⟩:=hrel;have hbw:=hBr.out.size;have hMr:=HM.out.below hBr.out HM.out.lt;by_cases hlt:k<m.ds.length
 ·have hkz:(k:Int)<(y.n:Int):=jo;have hk0:(0:Int)≤(k:Int):=jo;obtain⟨gb,go,F,fc,hzA,hgb,q0,q1,q2,_,_⟩:=(H1.out.below hBr.out).doc hlt;have hup:=HUP.out k hlt;rw[←HFL.out,←HFL.out]at hup;have HUPK:=zh hup;have hm7:=hMr.cell 7;simp only[rmC,zA,zB,zC]at hm7
  have Hcy:Hid (∀wx,zWW wr wx→wx.cell? ⟨w.heap.size,7,none⟩=some (.slice y.A y.n y.c)∧wx.cell? ⟨w.heap.size,8,none⟩=some (.int .i64 m.floor)∧wx.cell? ⟨gb,go+k*3+1,none⟩=some (.int .i64 m.ds[k].at_)):=zh (fun wx hb=>by
   have r:=hMr.below hb hMr.lt;have r7:=r.cell 7;have r8:=r.cell 8;simp only[rmC,zA,zB,zC]at r7 r8
   exact⟨r7,r8,(hb.cell hgb).trans q1⟩)
  clear hup q0 q1 q2 hMr;generalize m.ds[k].at_=ta at *;obtain⟨cA,hcA⟩:∃cA,y.c=cA:=⟨_,rfl⟩;rw[hzA,hcA]at Hcy hm7;clear hcA
  go_upto_region 5 with(fail);clear hm7;by_cases hfa:m.floor≤ta
  ·rw[zI hfa]at HUPK;refine cH (aI []) (fun wx=>Below (World.heap wr).size wr wx) (fun w1 w2=>zWW w1 w2) jk jk (aX) (zw _ _).drew ?_
   iterate 10
    refine aH _ ?_ rfl jr jr (fun wx hC hD=>?_) ?_;rotate_left
    ·have hSw:=Hcy.out wx hC;go_simp;all_goals with_reducible rfl
    try simp only[Act.put,zD,zE,zF]
   refine ah (fun w5 hC hF=>?_);have HB2:=zh (hBr.out.trans (hC.mono hbw));have hwn:IntKind.i64.wrap ((n:Int)+1)=((n+1:Nat):Int):=by rw[IntKind.wrap_i64];omega
   clear hF hC;go_wp2;go_roundw
   case rel=>exact⟨k+1,n+1,rfl,ju,jo,jo,zh (by rw[HUPK.out,←HN.out]),HB2⟩
   simp[intOf];omega
  rw[zH hfa]at HUPK;refine cH (aI []) (fun wx=>Below (World.heap wr).size wr wx) (fun w1 w2=>zWW w1 w2) jk jk (aX) (zw _ _).drew ?_
  iterate 10
   refine aH _ ?_ rfl jr jr (fun wx hC hD=>?_) ?_;rotate_left
   ·have hSw:=Hcy.out wx hC;go_simp;all_goals with_reducible rfl
   try simp only[Act.put,zD,zE,zF]
  refine ah (fun w5 hC hF=>?_);have HB2:=zh (hBr.out.trans (hC.mono hbw));clear hF hC;go_wp2;go_roundw
  case rel=>exact⟨k+1,n,rfl,ju,jo,jo,zh (by rw[HUPK.out,←HN.out];rfl),HB2⟩
  simp[intOf];omega
 obtain rfl:k=m.ds.length:=jo;have hnl:¬(m.ds.length:Int)<(y.n:Int):=jo;have HR5:=zh (HR.out.below hBr.out HR.out.lt);have HB5:=zh (HB.out.trans (hBr.out.mono HB.out.size));have HE:=zh (HST.out n m.ds.length (by rw[HN.out,HFL.out]) rfl);obtain⟨yn,hyn⟩:∃yn,((m.ds.length:Nat):Int)=yn:=⟨_,rfl⟩;have hyn2:(y.n:Int)=yn:=jo;have hwy:IntKind.i64.wrap ((y.n:Int)+1)=yn+1:=by rw[IntKind.wrap_i64];omega
 rw[hyn]at HE;have hMc:=zh hMr;have r7:=hMc.out.cell 7;have r8:=hMc.out.cell 8;have r9:=hMc.out.cell 9;have r10:=hMc.out.cell 10;simp only[rmC,zA,zB,zC]at r7 r8 r9 r10;clear hMr hyn hyn2;have HX9:=zh (zx _ (w.heap.size+1) _ (rsC 0 0 m.floor nil nil nil n (yn+1) m.now m.acked) _ _ HR5.out);go_wp2_with (refine zv (o:=⟨none,.store 42 _ _,_,_,_,_⟩) rfl 42 _ _ rfl (w.heap.size+1) (rsC 0 0 m.floor nil nil nil n (yn+1) m.now m.acked) rfl rfl 42 rs0 HR5.out jk rfl (by simp[rsC,Value.oneCell']) ?_);refine zu (aA rfl rfl (zr _ (w.heap.size+1) 42 42 _ (0,0) _ HX9.out underlying42 rfl jk)) rfl ?_;exact⟨_,_,rfl,zz HB5.out jo _,rfl,by rw[←HE.out];exact aT ..⟩
end
end Md
end Go.Proofs.YtmomjpolkkbhnaaGreat
