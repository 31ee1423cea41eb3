/- The model: open (printed by gen_mdi.py). -/
import Derived.Laws.AppendOwnNone
import Derived.Test.YtmomjpolkkbhnaaGreatQModelCountsRow20
import Derived.Test.YtmomjpolkkbhnaaGreatQModelCountsRow24
import Derived.Test.YtmomjpolkkbhnaaGreatQModelCountsRow34
set_option linter.unusedSimpArgs false
set_option linter.unusedVariables false
set_option maxRecDepth 20000
set_option maxHeartbeats 100000000
open Go.Proofs.Tryz
namespace Go.Proofs.YtmomjpolkkbhnaaGreat
namespace Md
open Go.RowKit Ut Tk Qy Qp Ev Cu
open Classical in
noncomputable def bF (a:Int) (q:ByteArray):List UInt8:=if IsC a q then enc a.toNat q.data.toList else[]
open Classical in
noncomputable def aG (a:Int) (q:ByteArray):Int:=if IsC a q then 0 else 250
theorem li(a:Int)(q:ByteArray)(w:World):Calls prog 69 #[.agg #[.int .i64 a,.string q]] w (BytesTo w (bF a q) (aG a q)):=by
 unfold bF aG;by_cases h:IsC a q
 ·rw[zI h,zI h];obtain⟨n,rfl⟩:∃n:Nat,a=(n:Int):=⟨a.toNat,by have:=h.1;omega⟩;rw[Int.toNat_natCast];exact tP n q w h
 rw[zH h,zH h];exact uV a q w h
def OpR(base:Nat)(w':World)(r:Rq)(cs:Array Value):Prop:=∃E o,PrsR r.q.data.toList E o∧((E≠0∧cs=rsC E 0 0 nil nil nil 0 0 0 0)∨(E=0∧aG r.after r.q≠0∧cs=rsC (aG r.after r.q) 0 0 nil nil nil 0 0 0 0) ∨
 (∃v,E=0∧aG r.after r.q=0∧w'.ownsRow base 5 1 v (bF r.after r.q).length (bv (bF r.after r.q))∧cs=rsC 0 0 0 nil nil v 0 0 0 0))
section
variable {w:World} {n0 X K:Nat} {v:Value} {m:M}
theorem Ft(h:At w n0 X K v m)(r:Rq)(z:Rw):Calls prog 35 #[.pointer (some ⟨X,0,none⟩),.agg (rqC r z)] w (ReP (fun w w' cs=>OpR w.heap.size w' r cs) w):=by
 have hb:zWW w ((w.alloc (.cells (rqC r z) 37)).alloc (.cells rs0 42)):=(zRR _).alloc jz _;have hq:=(Blk.new w 37 (rqC r z)).alloc (.cells rs0 42);have hr:=Blk.new (w.alloc (.cells (rqC r z) 37)) 42 rs0;have z1:(w.alloc (.cells (rqC r z) 37)).heap.size=w.heap.size+1:=jz;rw[z1]at hr;have H1:=zh (h.below hb);have HQ:=zh hq;have HR:=zh hr;have HB:=zh hb;have hsw:w.heap.size+2≤(World.heap ((w.alloc (.cells (rqC r z) 37)).alloc (.cells rs0 42))).size:=jz;have hxl:=h.blk.lt;clear h hb hq hr z1;go_enter func35,ntmps35
 go_upto_region 1 with(fail);generalize ((w.alloc (.cells (rqC r z) 37)).alloc (.cells rs0 42))=w1 at *;have q4:=HQ.out.cell 4;simp only[rqC,zA,zB,zC]at q4;go_wp2_with fail;refine(kr r.q w1).mono ?_;rintro e w2 ⟨E,o,a0,a1,a2,a3,hp,rfl,hF,hb2⟩;obtain⟨A1,n1,c1,A2,n2,c2,e4⟩:=hF.four;simp only[zQ,and_true]at e4;obtain⟨rfl,rfl,rfl,rfl⟩:=e4;have H2:=zh (H1.out.below hb2);have HR2:=zb HR hb2;have HQ2:=zb HQ hb2;have HB2:=zt HB hb2;have HP:=zh hp;have hqt:QAt w2 w2.heap.size (o.getD noQ) [.int .i64 (o.getD noQ).kind,.string (o.getD noQ).name,.slice A1 n1 c1,.slice A2 n2 c2]:=hF.at_ (fun b hb=>hb.2);have HQT:=zh hqt;have hb3:zWW w2 (w2.alloc (.cells #[.int .i64 (o.getD noQ).kind,.string (o.getD noQ).name,.slice A1 n1 c1,.slice A2 n2 c2] 60)):=zRR _;have HBQ:=zh (Blk.new w2 60 #[.int .i64 (o.getD noQ).kind,.string (o.getD noQ).name,.slice A1 n1 c1,.slice A2 n2 c2]);have HB32:=zh hb3;clear hF hb2 hp hqt hb3 q4;clear HQT HBQ;have HB3:=zh (HB2.out.trans (HB32.out.mono HB2.out.size));have HR3:=zh (HR2.out.below HB32.out HR2.out.lt);have HQ3:=zh (HQ2.out.below HB32.out HQ2.out.lt);clear HB32;generalize (o.getD noQ).kind=z5 at *;generalize (o.getD noQ).name=z6 at *;have hEE:E=0∨E≠0:=jo
 go_upto_region 2 with(fail);generalize w2.alloc (.cells #[.int .i64 z5,.string z6,.slice A1 n1 c1,.slice A2 n2 c2] 60)=w3 at *;rcases hEE with rfl|hE
 ·have CE:=zh (li r.after r.q w3);have q9:=HQ3.out.cell 9;have q4:=HQ3.out.cell 4;simp only[rqC,zA,zB,zC]at q4 q9;obtain⟨en,hen⟩:∃en,aG r.after r.q=en:=⟨_,rfl⟩;rw[hen]at CE;have HEN:=zh hen;clear hen;go_wp2_with fail;refine CE.out.mono ?_;rintro e w4 hBT;obtain⟨v4,rfl,ho4⟩:=hBT.ex;obtain⟨A4,c4,rfl,_⟩:=Ev.aP ho4;have HO4:=zh ho4;have HB4:=zh (HB3.out.trans (hBT.bel.mono HB3.out.size));have HR4:=zh (HR3.out.below hBT.bel HR3.out.lt);have hs3:=HB3.out.size;clear hBT ho4 CE q4 q9;by_cases hn:en=0
  ·subst hn;have HX9:=zh (zx _ (w.heap.size+1) _ (rsC 0 0 0 nil nil (.slice A4 (bF r.after r.q).length c4) 0 0 0 0) _ _ HR4.out);go_wp2_with (refine zv (o:=⟨none,.store 42 _ _,_,_,_,_⟩) rfl 42 _ _ rfl (w.heap.size+1) (rsC 0 0 0 nil nil (.slice A4 (bF r.after r.q).length c4) 0 0 0 0) rfl rfl 42 rs0 HR4.out jk rfl (by simp[rsC,Value.oneCell']) ?_);refine zu (aA rfl rfl (zr _ (w.heap.size+1) 42 42 _ (0,0) _ HX9.out underlying42 rfl jk)) rfl ?_
   exact⟨_,rfl,zz HB4.out (zZ _) _,0,_,HP.out,.inr (.inr ⟨_,rfl,HEN.out,cT (iD HO4.out hs3) (fun b hb=>vJ w4 _ b _ (fun e=>by
    subst e
    exact absurd ((aY HO4.out hb).one ⟨_,_,HR4.out⟩) jd)),rfl⟩)⟩
  have hn2:(en != 0)=true:=by simpa using hn
  have HN:=zh hn;have HB3:=HB4;have HR3:=HR4;clear hn HB4 HR4;go_wp2_with fail;refine(dK en _).mono ?_;rintro e w5 ⟨rfl,hb4⟩;have HB4:=zt HB3 hb4;have HR4:=zb HR3 hb4;clear hb4;have HX9:=zh (zx _ (w.heap.size+1) _ (rsC en 0 0 nil nil nil 0 0 0 0) _ _ HR4.out);go_wp2_with (refine zv (o:=⟨none,.store 42 _ _,_,_,_,_⟩) rfl 42 _ _ rfl (w.heap.size+1) (rsC en 0 0 nil nil nil 0 0 0 0) rfl rfl 42 rs0 HR4.out jk rfl (by simp[rsC,Value.oneCell']) ?_);refine zu (aA rfl rfl (zr _ (w.heap.size+1) 42 42 _ (0,0) _ HX9.out underlying42 rfl jk)) rfl ?_;exact⟨_,rfl,zz HB4.out (zZ _) _,0,_,HP.out,.inr (.inl ⟨rfl,by rw[HEN.out];exact HN.out,by rw[HEN.out]⟩)⟩
 have hE2:(E != 0)=true:=by simpa using hE
 have HE:=zh hE;clear hE;go_wp2_with fail;refine(dK E _).mono ?_;rintro e w4 ⟨rfl,hb4⟩;have HB4:=zt HB3 hb4;have HR4:=zb HR3 hb4;clear hb4;have HX9:=zh (zx _ (w.heap.size+1) _ (rsC E 0 0 nil nil nil 0 0 0 0) _ _ HR4.out);go_wp2_with (refine zv (o:=⟨none,.store 42 _ _,_,_,_,_⟩) rfl 42 _ _ rfl (w.heap.size+1) (rsC E 0 0 nil nil nil 0 0 0 0) rfl rfl 42 rs0 HR4.out jk rfl (by simp[rsC,Value.oneCell']) ?_);refine zu (aA rfl rfl (zr _ (w.heap.size+1) 42 42 _ (0,0) _ HX9.out underlying42 rfl jk)) rfl ?_;exact⟨_,rfl,zz HB4.out (zZ _) _,E,_,HP.out,.inl ⟨HE.out,rfl⟩⟩
end
end Md

namespace Md
open Go.RowKit Ut Tk Qy Qp Ev
open Hi (Bk bkC ofF OwnB lT)
def HgR(w':World)(m:M)(r:Rq)(base:Nat)(cs:Array Value):Prop:=∃E o,PrsR r.q.data.toList E o∧((E≠0∧cs=rsC E 0 0 nil nil nil 0 0 0 0)∨(E=0∧r.width<1∧cs=rsC 1 0 0 nil nil nil 0 0 0 0) ∨
 (∃q D,E=0∧o=some q∧1≤r.width∧ByT (upL m (inB r.frm r.til q)) D∧((m.c.buckets<((ofF r.width (D.map (·.at_))).length:Nat)∧cs=rsC 241 0 0 nil nil nil 0 0 0 0) ∨
  (((ofF r.width (D.map (·.at_))).length:Nat)≤m.c.buckets∧∃v,OwnB w' base v (ofF r.width (D.map (·.at_)))∧cs=rsC 0 0 0 nil v nil 0 0 0 0))))
theorem iY:(prog.info? 3).map (fun i=>(i.zero,i.size,i.bytes))=some (some (.int .i64 0),1,8):=by kernel_rfl
section
variable {w:World} {n0 X K:Nat} {v:Value} {m:M}
theorem Fz(h:At w n0 X K v m)(hK:K≤60000)(r:Rq)(z:Rw)(hwd:r.width≤9223372036854775807) :
  Calls prog 34 #[.pointer (some ⟨X,0,none⟩),.agg (rqC r z)] w (ReP (fun w w' cs=>HgR w' m r w.heap.size cs) w):=by
 obtain⟨i0,hi0,hz0,hz1,hz2⟩:=info_parts iY;have hb:zWW w ((w.alloc (.cells (rqC r z) 37)).alloc (.cells rs0 42)):=(zRR _).alloc jz _;have hq:=(Blk.new w 37 (rqC r z)).alloc (.cells rs0 42);have hr:=Blk.new (w.alloc (.cells (rqC r z) 37)) 42 rs0;have z1:(w.alloc (.cells (rqC r z) 37)).heap.size=w.heap.size+1:=jz;rw[z1]at hr;have H1:=zh (h.below hb);have HQ:=zh hq;have HR:=zh hr;have HB:=zh hb;have hsw:w.heap.size+2≤(World.heap ((w.alloc (.cells (rqC r z) 37)).alloc (.cells rs0 42))).size:=jz;have hxl:=h.blk.lt;have hfew:=h.few;have HOK:=zh h.ok;clear h hb hq hr z1;go_enter func34,ntmps34
 go_upto_region 1 with(fail);generalize ((w.alloc (.cells (rqC r z) 37)).alloc (.cells rs0 42))=w1 at *;have q4:=HQ.out.cell 4;simp only[rqC,zA,zB,zC]at q4;go_wp2_with fail;refine(kr r.q w1).mono ?_;rintro e w2 ⟨E,o,a0,a1,a2,a3,hp,rfl,hF,hb2⟩;obtain⟨A1,n1,c1,A2,n2,c2,e4⟩:=hF.four;simp only[zQ,and_true]at e4;obtain⟨rfl,rfl,rfl,rfl⟩:=e4;have H2:=zh (H1.out.below hb2);have HR2:=zb HR hb2;have HQ2:=zb HQ hb2;have HB2:=zt HB hb2;have HP:=zh hp;have hqt:QAt w2 w2.heap.size (o.getD noQ) [.int .i64 (o.getD noQ).kind,.string (o.getD noQ).name,.slice A1 n1 c1,.slice A2 n2 c2]:=hF.at_ (fun b hb=>hb.2);have HQT:=zh hqt;have hb3:zWW w2 (w2.alloc (.cells #[.int .i64 (o.getD noQ).kind,.string (o.getD noQ).name,.slice A1 n1 c1,.slice A2 n2 c2] 60)):=zRR _;have HBQ:=zh (Blk.new w2 60 #[.int .i64 (o.getD noQ).kind,.string (o.getD noQ).name,.slice A1 n1 c1,.slice A2 n2 c2]);have HB32:=zh hb3;clear hF hb2 hp hqt hb3 q4;rcases iy HP.out with⟨rfl,q,rfl,hqs⟩|⟨hE,rfl⟩
 ·have hk1:((some q:Option Q).getD noQ)=q:=rfl;rw[hk1]at HQT HBQ HB32 ⊢;have HQS:=zh hqs;clear hk1 hqs;obtain⟨qk,hqk⟩:∃qk,q.kind=qk:=⟨_,rfl⟩;obtain⟨qn,hqn⟩:∃qn,q.name=qn:=⟨_,rfl⟩;have HKK:=zh (And.intro hqk hqn);rw[hqk,hqn]at HQT HBQ HB32 ⊢;clear hqk hqn;have HB3:=zh (HB2.out.trans (HB32.out.mono HB2.out.size));have HR3:=zh (HR2.out.below HB32.out HR2.out.lt);have HQ3:=zh (HQ2.out.below HB32.out HQ2.out.lt);have H3:=zh (H2.out.below HB32.out);have HQT3:=zh (HQT.out.grow HB32.out)
  go_upto_region 2 with(fail);generalize w2.alloc (.cells #[.int .i64 qk,.string qn,.slice A1 n1 c1,.slice A2 n2 c2] 60)=w3 at *;have q8:=HQ3.out.cell 8;have q5:=HQ3.out.cell 5;have q6:=HQ3.out.cell 6;have k0:=HBQ.out.cell 0;have k1:=HBQ.out.cell 1;have k2:=HBQ.out.cell 2;have k3:=HBQ.out.cell 3;simp only[rqC,zA,zB,zC]at q5 q6 q8 k0 k1 k2 k3;have CD:Hid (Calls prog 67 #[.pointer (some ⟨X,0,none⟩),.agg #[.int .i64 qk,.string qn,.slice A1 n1 c1,.slice A2 n2 c2],.int .i64 r.frm,.int .i64 r.til] w3 (nN w3 (upL m (inB r.frm r.til q)))):=zh (mI H3.out hK q HQS.out _ _ _ _ r.frm r.til ⟨A1,n1,c1,A2,n2,c2,by rw[HKK.out.1,HKK.out.2]⟩ HQT3.out);have HUL:Hid ((upL m (inB r.frm r.til q)).length≤60000):=zh (zY (List.length_filter_le _ _) (zY hfew hK))
  have HUI:Hid (∀d∈upL m (inB r.frm r.til q),I64 d.at_):=zh (fun d hd=>by
   obtain⟨i,hi,rfl⟩:=zp.1 (List.mem_filter.1 hd).1
   exact(HOK.out.doc i hi).2.2)
  generalize hu:upL m (inB r.frm r.til q)=U at *;have HU:=zh hu;clear hu;by_cases hw1:r.width<1
  ·clear CD;go_wp2_with fail;refine(dK 1 _).mono ?_;rintro e w9 ⟨rfl,hb9⟩;have HB9:=zt HB3 hb9;have HR9:=zb HR3 hb9;clear hb9;have HX9:=zh (zx _ (w.heap.size+1) _ (rsC 1 0 0 nil nil nil 0 0 0 0) _ _ HR9.out);go_wp2_with (refine zv (o:=⟨none,.store 42 _ _,_,_,_,_⟩) rfl 42 _ _ rfl (w.heap.size+1) (rsC 1 0 0 nil nil nil 0 0 0 0) rfl rfl 42 rs0 HR9.out jk rfl (by simp[rsC,Value.oneCell']) ?_);refine zu (aA rfl rfl (zr _ (w.heap.size+1) 42 42 _ (0,0) _ HX9.out underlying42 rfl jk)) rfl ?_;exact⟨_,rfl,zz HB9.out (zZ _) _,0,_,HP.out,.inr (.inl ⟨rfl,hw1,rfl⟩)⟩
  go_wp2_with fail;refine CD.out.mono ?_;rintro e w4 ⟨v4,D,rfl,hD,hT,hb4⟩;obtain⟨A3,c3,rfl,hR3,hc3,_⟩:=hD.read;have HB4:=zt HB3 hb4;have HR4:=zb HR3 hb4;have HQ4:=zb HQ3 hb4;have H4:=zh (H3.out.below hb4);have HD4:=zh hR3;have HT:=zh hT;have hDl:D.length≤60000:=by rw[hT.perm.length_eq];exact HUL.out
  have HDI:Hid (∀d∈D,I64 d.at_):=zh (fun d hd=>HUI.out d (hT.perm.mem_iff.1 hd));have hs3:=HB3.out.size;clear hD hT hb4 CD q5 q6 q8 k0 k1 k2 k3 hR3;go_wp2_with fail;go_loopw [7,35] (fun v i wr=>∃(u:Value) (k:Nat),u=v∧k≤D.length∧i=.int .i64 k∧Hid (wr.ownsRow w4.heap.size 3 1 u k ((D.take k).map (fun d=>Value.int .i64 d.at_)))∧Hid (zWW w4 wr)) (fun _ i _=>D.length-(intOf i).toNat)
  case atStart=>exact⟨_,0,rfl,zS _,rfl,zh (vM _ _ _ _),zh (zw _ _)⟩
  obtain⟨u,k,rfl,hk,rfl,hO,hB⟩:=hrel;have hbs:=hB.out.size;by_cases hlt:k<D.length
  ·have hki:(k:Int)<(D.length:Int):=jo;have hki0:(0:Int)≤(k:Int):=jo;obtain⟨b,o,F,fn,fc,rfl,hbb,a0,a1,a2,_⟩:=HD4.out.at_ hlt;have t0:=(hB.out.cell (p:=⟨b,o+k*3,none⟩) hbb.2).trans a0;have t1:=(hB.out.cell (p:=⟨b,o+k*3+1,none⟩) hbb.2).trans a1;have t2:=(hB.out.cell (p:=⟨b,o+k*3+2,none⟩) hbb.2).trans a2;have HTK:Hid ((D.take (k+1)).map (fun d=>Value.int .i64 d.at_)=(D.take k).map (fun d=>Value.int .i64 d.at_) ++ [.int .i64 D[k].at_]):=zh (by rw[zL hlt,List.map_append];rfl);clear a0 a1 a2;generalize D[k].at_=ta at *;generalize D[k].seq=sq at *;generalize hzs:(D.take k).map (fun d=>Value.int .i64 d.at_)=zs at *;clear hzs;have hB1:zWW wr (wr.alloc (.cells #[.int .i64 sq,.int .i64 ta,.slice F fn fc] 48)):=zRR _;have hX1:=Blk.new wr 48 #[.int .i64 sq,.int .i64 ta,.slice F fn fc];have x1:=hX1.cell 1;simp only[zA,zB,zC]at x1;have HO1:=zh ((hO.out.alloc (.cells #[.int .i64 sq,.int .i64 ta,.slice F fn fc] 48)).alloc (.cells #[.int .i64 ta] 3));have HB1:=zh ((hB.out.alloc hbs (.cells #[.int .i64 sq,.int .i64 ta,.slice F fn fc] 48)).alloc jm (.cells #[.int .i64 ta] 3));clear hX1 hB1
   go_upto_region 10 with(fail);generalize hw5:wr.alloc (.cells #[.int .i64 sq,.int .i64 ta,.slice F fn fc] 48)=w5 at *;clear hw5 t0 t1 t2
   go_wp2_with (first
    | (at_builtin;refine wpList_append_own_at _ rfl _ _ 27 rfl w4.heap.size 3 i0 _ 1 8 underlying27 hi0 hz0 hz1 hz2 rfl jd _ k zs rfl HO1.out ⟨w5.heap.size,0,none⟩ 1 1 [.int .i64 ta] rfl rfl (zy (cs:=#[.int .i64 ta]) (t:=3) (fr:=(0,0)) (vI w5 _)) jt ?k1 ?k2 ?k3 ?_)
    | fail)
   case k1=>unfold maxLen;omega
   case k2=>omega
   try(case k3=>have:=HB1.out.size;first|omega|(rw[vK]at *;omega))
   intro v4 w6 ho4 hg4 _ _;have HO6:=zh ho4;rw[←HTK.out]at HO6;have HB6:=zh (HB1.out.grown hg4 HB1.out.size (fun j hj=>(HO1.out.lt j hj).1));clear ho4 hg4 x1;go_wp2_with fail;go_roundw
   case rel=>exact⟨_,k+1,rfl,jo,ju,HO6,HB6⟩
   simp[intOf];omega
  obtain rfl:k=D.length:=jo;have hkz:¬(D.length:Int)<(D.length:Int):=jo;have hO:=hO.out;rw[List.take_length]at hO;obtain⟨A5,c5,rfl,hR5,_⟩:=Ev.aP hO;have HB5:=zh (HB4.out.trans (hB.out.mono HB4.out.size));have HR5:=zh (HR4.out.below hB.out HR4.out.lt);have H5:=zh (H4.out.below hB.out);have q8:=(HQ4.out.below hB.out HQ4.out.lt).cell 8;simp only[rqC,zA,zB,zC]at q8
  have CO:Hid (Calls prog 68 #[.int .i64 r.width,.slice A5 D.length c5] wr (lT wr.heap.size r.width (D.map (·.at_)) wr)):=zh (by
   have hm:(D.map (·.at_)).length=D.length:=List.length_map _
   have:=Hi.ij A5 c5 wr.heap.size r.width (D.map (·.at_)) wr (by rw[hm,List.map_map];exact hR5) (zG _) (by rw[hm];omega) hwd (fun t ht=>by
    obtain⟨d,hd,rfl⟩:=List.mem_map.1 ht
    exact HDI.out d hd)
   rwa[hm]at this)
  clear hO hR5 hB;go_wp2_with fail;refine CO.out.mono ?_;rintro e w7 ⟨v7,rfl,hrow⟩;have hwn:¬r.width<1:=jo;rw[zH hwn];rw[zH hwn]at hrow;clear hwn;have HOW:=zh hrow.own;have HB7:=zh (HB5.out.trans (hrow.bel.mono HB5.out.size));have HR7:=zh (HR5.out.below hrow.bel HR5.out.lt);have k4:=(H5.out.below hrow.bel).blk.cell 4;simp only[mdC,zA,zB,zC]at k4;have hs5:=HB5.out.size;have HL:Hid (∃L,ofF r.width (D.map (·.at_))=L):=zh ⟨_,rfl⟩;obtain⟨L,hL⟩:=HL.out;rw[hL]at HOW;have HLL:=zh hL;obtain⟨A8,c8,rfl,_⟩:=Ev.aP HOW.out;clear hrow CO q8 hL HL;by_cases hbk:m.c.buckets<(L.length:Int)
  ·have HBK:=zh hbk;go_wp2_with fail;refine(dK 241 _).mono ?_;rintro e w9 ⟨rfl,hb9⟩;have HB9:=zt HB7 hb9;have HR9:=zb HR7 hb9;clear hb9;have HX9:=zh (zx _ (w.heap.size+1) _ (rsC 241 0 0 nil nil nil 0 0 0 0) _ _ HR9.out);go_wp2_with (refine zv (o:=⟨none,.store 42 _ _,_,_,_,_⟩) rfl 42 _ _ rfl (w.heap.size+1) (rsC 241 0 0 nil nil nil 0 0 0 0) rfl rfl 42 rs0 HR9.out jk rfl (by simp[rsC,Value.oneCell']) ?_);refine zu (aA rfl rfl (zr _ (w.heap.size+1) 42 42 _ (0,0) _ HX9.out underlying42 rfl jk)) rfl ?_;exact⟨_,rfl,zz HB9.out (zZ _) _,0,_,HP.out,.inr (.inr ⟨q,D,rfl,rfl,jo,by rw[HU.out];exact HT.out,.inl ⟨by rw[HLL.out];exact HBK.out,rfl⟩⟩)⟩
  have HBK:=zh hbk;have HX9:=zh (zx _ (w.heap.size+1) _ (rsC 0 0 0 nil (.slice A8 L.length c8) nil 0 0 0 0) _ _ HR7.out);go_wp2_with (refine zv (o:=⟨none,.store 42 _ _,_,_,_,_⟩) rfl 42 _ _ rfl (w.heap.size+1) (rsC 0 0 0 nil (.slice A8 L.length c8) nil 0 0 0 0) rfl rfl 42 rs0 HR7.out jk rfl (by simp[rsC,Value.oneCell']) ?_);refine zu (aA rfl rfl (zr _ (w.heap.size+1) 42 42 _ (0,0) _ HX9.out underlying42 rfl jk)) rfl ?_
  exact⟨_,rfl,zz HB7.out (zZ _) _,0,_,HP.out,.inr (.inr ⟨q,D,rfl,rfl,jo,by rw[HU.out];exact HT.out,.inr ⟨by rw[HLL.out];have:=HBK.out;omega,.slice A8 L.length c8,by
   rw[HLL.out]
   exact cT (iD HOW.out hs5) (fun b hb=>vJ w7 _ b _ (fun e=>by
    subst e
    exact absurd ((aY HOW.out hb).one ⟨_,_,HR7.out⟩) jd)),rfl⟩⟩)⟩
 have hE2:(E != 0)=true:=by simpa using hE
 have HE:=zh hE;have HB3:=zh (HB2.out.trans (HB32.out.mono HB2.out.size));have HR3:=zh (HR2.out.below HB32.out HR2.out.lt);clear HBQ HQT hE;generalize ((none:Option Q).getD noQ).kind=z1 at *;generalize ((none:Option Q).getD noQ).name=z2 at *
 go_upto_region 2 with(fail);generalize w2.alloc (.cells #[.int .i64 z1,.string z2,.slice A1 n1 c1,.slice A2 n2 c2] 60)=w3 at *;go_wp2_with fail;refine(dK E _).mono ?_;rintro e w9 ⟨rfl,hb9⟩;have HB9:=zt HB3 hb9;have HR9:=zb HR3 hb9;clear hb9;have HX9:=zh (zx _ (w.heap.size+1) _ (rsC E 0 0 nil nil nil 0 0 0 0) _ _ HR9.out);go_wp2_with (refine zv (o:=⟨none,.store 42 _ _,_,_,_,_⟩) rfl 42 _ _ rfl (w.heap.size+1) (rsC E 0 0 nil nil nil 0 0 0 0) rfl rfl 42 rs0 HR9.out jk rfl (by simp[rsC,Value.oneCell']) ?_);refine zu (aA rfl rfl (zr _ (w.heap.size+1) 42 42 _ (0,0) _ HX9.out underlying42 rfl jk)) rfl ?_;exact⟨_,rfl,zz HB9.out (zZ _) _,E,_,HP.out,.inl ⟨HE.out,rfl⟩⟩
end
end Md

namespace Hi
open Go.RowKit
def Bks(w:World)(B:Nat)(v:Value)(l:List Bk):Prop:=
 (v=.slice none 0 0∧l=[])∨∃b o c,v=.slice (some ⟨b,o,none⟩) l.length c∧l.length≤c∧Reads w B 2 (some ⟨b,o,none⟩) l.length (bkC l)
theorem Bks.of_own{w:World}{base:Nat}{v:Value}{l:List Bk}(h:OwnB w base v l):Bks w w.heap.size v l:=by
 rcases h.2 with⟨rfl,h0⟩|⟨g,cap,cur,rfl,_,_,hnc,_⟩
 ·exact .inl ⟨rfl,List.eq_nil_of_length_eq_zero h0⟩
 exact .inr ⟨g,0,cap,rfl,hnc,Reads.of_own h⟩
theorem Bks.reads{w:World}{B:Nat}{v:Value}{l:List Bk}(h:Bks w B v l):∃A c,v=.slice A l.length c∧Reads w B 2 A l.length (bkC l):=by
 rcases h with⟨rfl,rfl⟩|⟨b,o,c,rfl,_,hr⟩
 ·exact⟨none,0,rfl,Reads.none_⟩
 exact⟨_,c,rfl,hr⟩
theorem Bks.below{w w':World}{B:Nat}{v:Value}{l:List Bk}(h:Bks w B v l)(hb:Below B w w'):Bks w' B v l:=by
 rcases h with h|⟨b,o,c,e,hc,hr⟩
 ·exact .inl h
 exact .inr ⟨b,o,c,e,hc,hr.below hb⟩
theorem Bks.more{w:World}{B B':Nat}{v:Value}{l:List Bk}(h:Bks w B v l)(hB:B≤B'):Bks w B' v l:=by
 rcases h with h|⟨b,o,c,e,hc,hr⟩
 ·exact .inl h
 exact .inr ⟨b,o,c,e,hc,hr.more hB⟩
theorem GA(k n:Int)(w:World):Calls prog 38 #[.slice none 0 0,.int .i64 k,.int .i64 n] w (dU w [] k n):=by
 obtain⟨inf,hi0,hz0,hz1,hz2⟩:=info_parts fw;have R0:=zh (Row.empty w);have F:Hid (bG [] k n=([(k,n)],decide (n≤bA))):=zh rfl;unfold dU;go_enter func38,ntmps38;go_wp2;go_loopw [8] (fun i wr=>i=.int .i64 0∧wr=w) (fun i _=>0)
 case atStart=>exact⟨rfl,rfl⟩
 obtain⟨rfl,rfl⟩:=hrel;go_wp2_with (at_builtin;refine vH _ rfl _ _ 40 rfl wr.heap.size 91 inf _ 2 16 underlying40 hi0 hz0 hz1 hz2 rfl jd (.slice (some ⟨wr.heap.size,0,none⟩) 0 0) 0 (bkC []) rfl (R0.out.more (by rw[vK];omega) _).own ⟨wr.heap.size+1,0,none⟩ 1 1 (bkC [(k,n)]) rfl rfl ?a1 (cg _) ?a3 ?a4 ?a5 ?_)
 case a1=>
  have:=jb (w:=wr.alloc (.cells #[] 91)) k n;rw[vK]at this;exact this
 case a3=>decide
 case a4=>omega
 case a5=>simp;omega
 intro v2 w2 ho2 hg2 _;have R2:Hid (Row wr.heap.size wr w2 v2 [(k,n)]):=zh ((R0.out.more (by rw[vK];omega) _).app jm rfl ho2 hg2);clear ho2 hg2;go_wp2_with (at_builtin;refine wpList_append_own_none rfl _ _ 40 rfl wr.heap.size 91 inf 2 underlying40 hi0 v2 1 (bkC [(k,n)]) rfl R2.out.own rfl ?_);go_wp2;go_ret2;exact⟨v2,by rw[F.out];rfl,by rw[F.out];exact R2.out⟩
theorem GD(v:Value)(l:List Bk)(k n:Int)(w:World)(h:Bks w w.heap.size v l)(hl:l.length≤1000000)(h1:∀b∈l,1≤b.2)(hn:1≤n)(hn2:n≤9223372036854775807) :
  Calls prog 38 #[v,.int .i64 k,.int .i64 n] w (dU w l k n):=by
 rcases h with⟨rfl,rfl⟩|⟨b,o,c,rfl,hc,hR⟩
 ·exact GA k n w
 by_cases hlt:pos l k<l.length
 ·have h0:=qz l k hlt;by_cases he:l[pos l k].1=k
  ·by_cases hbig:bA<n∨bA-n<l[pos l k].2
   ·exact F6 b o c l k n w hR hc hl hn hn2 h1 hlt he hbig
   by_cases hcc:c=pos l k+1
   ·exact EH b o c l k n w hR hc hl hn hn2 h1 hlt he hbig hcc
   exact F7 b o c l k n w hR hc hl hn hn2 h1 hlt he hbig hcc
  exact F8 b o c l k n w hR hc hl hlt jo
 by_cases hcc:c=pos l k
 ·exact EI b o c l k n w hR hc hl hlt hcc
 exact F9 b o c l k n w hR hc hl hlt hcc
theorem EJ{w:World}{base base':Nat}{v:Value}{l:List Bk}(h:OwnB w base v l)(hb:base'≤base):OwnB w base' v l:=
 ⟨h.1,h.2.elim .inl (fun⟨g,cap,cur,hv,hg,r⟩=>.inr ⟨g,cap,cur,hv,zY hb hg,r⟩)⟩
theorem xX(A:Option Addr)(c B:Nat)(d:Int)(ts:List Int)(w:World)(hR:Reads w B 1 A ts.length (ts.map (Value.int .i64)))(hB:B≤w.heap.size)(hl:ts.length≤900000)(hd2:d≤9223372036854775807)(hin:∀t∈ts,ng t) :
  Calls prog 12 #[.int .i64 d,.slice A ts.length c] w (fun e w'=>∃v,e=.returned (.tuple #[v,.int .i64 (if d<1 then 240 else 0)])∧zWW w w'∧OwnB w' w.heap.size v (if d<1 then[]else ofF d ts)):=by
 by_cases hd:d<1
 ·simp only[zI hd];go_enter func12,ntmps12;go_wp2;go_ret2;exact⟨.slice none 0 0,rfl,zw _ _,vM _ _ _ _⟩
 simp only[zH hd];have HR:=zh hR;have Hin:=zh hin;clear hR hin;go_enter func12,ntmps12;go_wp2;go_loopw [6,7] (fun v i wr=>∃k:Nat,k≤ts.length∧i=.int .i64 k∧zWW w wr∧OwnB wr w.heap.size v (ofF d (ts.take k))) (fun _ i _=>ts.length-(intOf i).toNat)
 case atStart=>exact⟨0,zS _,rfl,zw _ _,vM _ _ _ _⟩
 obtain⟨k,hk,rfl,hb,hT⟩:=hrel;by_cases hlt:k<ts.length
 ·obtain⟨bb,o,hl',rfl,hbb,hc1⟩:=HR.out.at_map hlt;have d1:=(hb.cell (p:=⟨bb,o+k,none⟩) (zT hbb hB)).trans hc1;have T:=zh (p5 d ts k hlt);have G:=p6 d ts k hk;have ht:=Hin.out _ (za hlt);have c1:=Fx ts[k] d wr jo ht hd2;have c2:=GD _ _ (ts[k]/d) 1 wr (Bks.of_own hT) jo G.1.one jo jo;have Hb:=zh hb;clear hT hc1 ht hb;generalize ts[k]=x at *;generalize ofF d (ts.take k)=l at *;go_wp2_with fail;refine c1.mono ?_;rintro e w1 ⟨rfl,rfl⟩;go_wp2_with fail;refine c2.mono ?_;rintro e w2 ⟨v',rfl,hv⟩;have HV:=zh hv;clear hv c1 c2;go_wp2;go_roundw
  case rel=>exact⟨k+1,jo,ju,Hb.out.trans (HV.out.bel.mono Hb.out.size),by rw[T.out];exact EJ HV.out.own Hb.out.size⟩
  simp[intOf];omega
 have hall:ts.take k=ts:=zR jo;rw[hall]at hT;have HT:=zh hT;have Hb:=zh hb;clear hT hb;go_wp2;go_ret2;exact⟨_,rfl,Hb.out,HT.out⟩
end Hi
end Go.Proofs.YtmomjpolkkbhnaaGreat
