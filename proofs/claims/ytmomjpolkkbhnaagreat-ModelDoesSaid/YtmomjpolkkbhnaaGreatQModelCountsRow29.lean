/- The document's Follow: the walk (printed by gen_cut.py). -/
import Derived.Laws.Bits64b
import Derived.IntWalk
import Derived.Laws.BytesArg
import Derived.Test.YtmomjpolkkbhnaaGreatQModelCountsRow24
import Derived.Test.YtmomjpolkkbhnaaGreatQModelCountsRow20
set_option linter.unusedSimpArgs false
set_option linter.unusedVariables false
set_option maxRecDepth 100000
set_option maxHeartbeats 100000000
open Go.Proofs.Tryz
namespace Go.Proofs.YtmomjpolkkbhnaaGreat
namespace Cu
open Go.RowKit Qy Ph
theorem BD(a k l:Int)(q:ByteArray)(A:Option Addr)(n c:Nat)(ds:List Dc)(w:World)(hD:DocsAt w w.heap.size A n ds)(hn:n≤1048576) :
  Calls prog 88 #[.agg #[.int .i64 a,.string q],.int .i64 k,.int .i64 l,.slice A n c] w (nP w (bL a k l ds) q):=by
 obtain⟨i0,hi0,hz0,hz1,hz2⟩:=info_parts fR;have HF0:=zh (uY w a q);have HD:=zh hD;have Hl:=zh hD.ln;clear hD;by_cases hl:l<1
 ·have Hfin:=zh (wP (a:=a) (k:=k) ds hl);go_enter func88,ntmps88
  go_upto_region 2 with(fail);generalize hw2:(w.alloc (.cells #[.int .i64 a,.string q] 122)).alloc (.cells #[.int .i64 0,.string ⟨#[]⟩] 122)=w2 at *;clear hw2;have hb0:=HF0.out.box.cell 0;have hb1:=HF0.out.box.cell 1;have hr0:=HF0.out.res.cell 0;have hr1:=HF0.out.res.cell 1;have hf0:=HF0.out.res.frozen 0;have hf1:=HF0.out.res.frozen 1;simp at hb0 hb1 hr0 hr1;have HD:=zh HF0.out.done;refine dN 2 (aI []) (fun wx=>wx=w2.drew) (fun _=>True) jk jk (dS jk) rfl trivial ?_;refine aD 1 ?_ rfl jr jr (fun wx hC=>?_) ?_;rotate_left
  ·subst hC;go_simp;all_goals with_reducible rfl
  try simp only[Act.put,zD,zE,zF]
  refine aD 2 ?_ rfl jr jr (fun wx hC=>?_) ?_;rotate_left
  ·subst hC;go_simp;all_goals with_reducible rfl
  try simp only[Act.put,zD,zE,zF]
  refine dZ (fun w9 hC hI=>?_);subst hC;clear hI;go_wp2;exact zu (iR rfl rfl rfl HD.out.1) rfl (by rw[Hfin.out];exact⟨_,rfl,HD.out.2⟩)
 have hl1:1≤l:=jo;go_enter func88,ntmps88;go_wp2_with fail;generalize hw2:(w.alloc (.cells #[.int .i64 a,.string q] 122)).alloc (.cells #[.int .i64 0,.string ⟨#[]⟩] 122)=w2 at *;clear hw2;go_loopw [10,11,12] (fun v m i wr=>∃j:Nat,j≤n∧i=.int .i64 (j:Int)∧m=.int .i64 (bK a (sel a k (ds.take j)))∧((sel a k (ds.take j)).length:Int)≤l∧Fol w wr a q v (sel a k (ds.take j))) (fun _ _ i _=>n-(intOf i).toNat)
 case atStart=>exact⟨0,zS _,rfl,rfl,by simp[sel];omega,by simpa[sel]using HF0.out⟩
 obtain⟨j,hj,rfl,rfl,hlen,hF⟩:=hrel;have hsl:(sel a k (ds.take j)).length≤1048576:=zY (xO ..) (by rw[zK,Hl.out];omega);have hb0:=hF.box.cell 0;have hb1:=hF.box.cell 1;have hbl:=hF.box.lt;simp at hb0 hb1;obtain⟨A6,c6,rfl,_⟩:=hF.own.read;by_cases hlt:j<n
 ·by_cases hll:((sel a k (ds.take j)).length:Int)<l
  ·have hjl:j<ds.length:=by rw[Hl.out];exact hlt
   obtain⟨b,o,F,fn,fc,rfl,hbb,hc0,hc1,hc2,hR,hfl,hfn,hff,hfnil⟩:=HD.out.at_ hjl;have hc0:=(hF.own.bel.cell (p:=⟨b,o+j*3,none⟩) hbb).trans hc0;have hc1:=(hF.own.bel.cell (p:=⟨b,o+j*3+1,none⟩) hbb).trans hc1;have hc2:=(hF.own.bel.cell (p:=⟨b,o+j*3+2,none⟩) hbb).trans hc2;have Hyes:=zh (xN a k ds j hjl);have Hno:=zh (yL a k ds j hjl);have hDc:DcV w w.heap.size ds[j] [.int .i64 ds[j].seq,.int .i64 ds[j].at_,.slice F fn fc]:=⟨F,fn,fc,rfl,hR,hfl,hfn,hff,hfnil⟩;have HDc:=zh hDc;clear hR hfl hDc;generalize hdj:ds[j]=d at *;clear hdj;obtain⟨s,at_,fs⟩:=d
   dsimp only at hc0 hc1 HDc Hyes Hno
   have HF:=zh hF;have hjx0:(0:Int)≤(j:Int):=jo;have hji:(j:Int)<(n:Int):=jo;have Hlen:=zh hlen;clear hF hlen;by_cases h1:a<s
   ·have hd1:decide (a<s)=true:=by simpa using h1
    by_cases h2:s≤k
    ·have hd2:decide (s≤k)=true:=by simpa using h2
     have Hys:Hid (sel a k (ds.take (j+1))=sel a k (ds.take j) ++ [⟨s,at_,fs⟩]):=zh (Hyes.out h1 h2);have Hlst:Hid (bK a (sel a k (ds.take (j+1)))=max (bK a (sel a k (ds.take j))) s):=zh (by rw[Hys.out,tV]);clear Hyes Hno;generalize bK a (sel a k (ds.take j))=m at *;generalize sel a k (ds.take j)=out at *;go_wp2_with fail;go_quiet (fail);have hc0:(wr.drewN nq).cell? ⟨b,o+j*3,none⟩=some (.int .i64 s):=hc0;have hc1:(wr.drewN nq).cell? ⟨b,o+j*3+1,none⟩=some (.int .i64 at_):=hc1;have hc2:(wr.drewN nq).cell? ⟨b,o+j*3+2,none⟩=some (.slice F fn fc):=hc2;have HFd:Hid (Fol w (wr.drewN nq) a q (.slice A6 out.length c6) out):=zh (HF.out.below (below_drewN (zw _ _) nq));have hbw:b<(wr.drewN nq).heap.size:=zT hbb HFd.out.own.bel.size;clear hb0 hb1 HF;generalize wr.drewN nq=wd at *;have HFx:=zh (HFd.out.alloc (.cells #[.int .i64 s,.int .i64 at_,.slice F fn fc] 48));have hx0:=(World.cell?_alloc_lt wd (.cells #[.int .i64 s,.int .i64 at_,.slice F fn fc] 48) ⟨b,o+j*3,none⟩ hbw).trans hc0;have hDx:DcV (wd.alloc (.cells #[.int .i64 s,.int .i64 at_,.slice F fn fc] 48)) (wd.alloc (.cells #[.int .i64 s,.int .i64 at_,.slice F fn fc] 48)).heap.size ⟨s,at_,fs⟩ [.int .i64 s,.int .i64 at_,.slice F fn fc]:=(HDc.out.keep fun _ _ hp=>HFx.out.own.bel.cell hp).more HFx.out.own.bel.size
     have hFar:Far (wd.alloc (.cells #[.int .i64 s,.int .i64 at_,.slice F fn fc] 48)) w.heap.size [.int .i64 s,.int .i64 at_,.slice F fn fc]:=by
      intro F' fn' fc' hv hn';simp only[zC,zB,Option.some.injEq,Value.slice.injEq]at hv;obtain⟨rfl,rfl,rfl⟩:=hv;obtain⟨F2,fn2,fc2,e2,hR2,_⟩:=HDc.out;simp only[zQ,Value.slice.injEq,and_true,true_and]at e2;obtain⟨rfl,rfl,rfl⟩:=e2;obtain⟨b',o',eF,hlt',_⟩:=hR2.2 hn';exact⟨b',o',eF,.inl hlt'⟩
     have HDx:=zh hDx;have HFar:=zh hFar;obtain⟨vss,g1,g2,g3⟩:=HFx.out.own.ex;have HX:=zh g3;have Hg1:=zh g1;have hblx:=HFx.out.box.lt;simp at hblx;clear hDx hFar g1 g3;go_wp2_with (at_builtin;refine vH _ rfl _ _ 26 rfl w.heap.size 48 i0 _ 3 40 underlying26 hi0 hz0 hz1 hz2 rfl jd _ _ _ rfl g2 ⟨wd.heap.size,0,none⟩ 1 1 [.int .i64 s,.int .i64 at_,.slice F fn fc] rfl rfl ?d1 ?d2 ?d3 ?d4 ?d5 ?_)
     case d1=>exact zy (cs:=#[.int .i64 s,.int .i64 at_,.slice F fn fc]) (t:=48) (fr:=(0,0)) (vI wd _)
     case d2=>intro u hu;simp at hu;rcases hu with rfl|rfl|rfl<;>rfl
     case d3=>unfold maxLen;omega
     case d4=>omega
     case d5=>simp;omega
     intro v9 w9 hown9 hg9 _;have hF9:Fol w w9 a q v9 (out ++ [⟨s,at_,fs⟩]):=HFx.out.put ⟨vss,Hg1.out,g2,HX.out,rfl⟩ hown9 hg9 HDx.out HFar.out;have hz9:b<w9.heap.size:=zT jm hg9.size
     have hc9:w9.cell? ⟨b,o+j*3,none⟩=some (.int .i64 s):=(hF9.own.bel.cell (p:=⟨b,o+j*3,none⟩) hbb).trans (by
      have h1:=(HFd.out.own.bel.cell (p:=⟨b,o+j*3,none⟩) hbb)
      rw[←h1];exact hc0)
     have HF9:=zh hF9;have Hlen9:Hid (((out ++ [(⟨s,at_,fs⟩:Dc)]).length:Int)≤l):=zh (by rw[zJ];simp;omega);clear hF9 hown9 hg9 g2 hc0 hc1 hc2 hx0;go_wp2;go_roundw
     case rel=>exact⟨j+1,jo,ju,by rw[Hlst.out],by rw[Hys.out];exact Hlen9.out,by rw[Hys.out];exact HF9.out⟩
     simp[intOf];omega
    have hd2:decide (s≤k)=false:=by simpa using h2
    have Hsn:Hid (sel a k (ds.take (j+1))=sel a k (ds.take j)):=zh (Hno.out (fun h=>h2 h.2));clear Hyes Hno h2;go_wp2_with fail;go_quiet (fail);go_wp2;go_roundw
    case rel=>exact⟨j+1,jo,ju,by rw[Hsn.out],by rw[Hsn.out];exact Hlen.out,by rw[Hsn.out];exact HF.out.below (below_drewN (zw _ _) nq)⟩
    simp[intOf];omega
   have hd1:decide (a<s)=false:=by simpa using h1
   have Hsn:Hid (sel a k (ds.take (j+1))=sel a k (ds.take j)):=zh (Hno.out (fun h=>h1 h.1));clear Hyes Hno h1;go_wp2_with fail;go_quiet (fail);go_wp2;go_roundw
   case rel=>exact⟨j+1,jo,ju,by rw[Hsn.out],by rw[Hsn.out];exact Hlen.out,by rw[Hsn.out];exact HF.out.below (below_drewN (zw _ _) nq)⟩
   simp[intOf];omega
  have he:((sel a k (ds.take j)).length:Int)=l:=jo;have Hfin:Hid (bL a k l ds=(sel a k (ds.take j),bK a (sel a k (ds.take j)))):=zh (pq j jo he);have HF:=zh hF;have gf0:=hF.box.frozen 0;have hji:(j:Int)<(n:Int):=jo;clear hF hlen he;generalize bK a (sel a k (ds.take j))=m at *;generalize sel a k (ds.take j)=out at *
  go_upto_region 14 with(fail);have H7:=zh (HF.out.after (m));clear HF;generalize hw7:wr.setCell ⟨w.heap.size,0,none⟩ (.int .i64 (m))=w7 at *;clear hw7 hb0 hb1;have hb0:=H7.out.box.cell 0;have hb1:=H7.out.box.cell 1;have hr0:=H7.out.res.cell 0;have hr1:=H7.out.res.cell 1;have hf0:=H7.out.res.frozen 0;have hf1:=H7.out.res.frozen 1;simp at hb0 hb1 hr0 hr1;have HD:=zh H7.out.done;refine dN 3 (aI []) (fun wx=>wx=w7.drew) (fun _=>True) jk jk (dS jk) rfl trivial ?_;refine aD 1 ?_ rfl jr jr (fun wx hC=>?_) ?_;rotate_left
  ·subst hC;go_simp;all_goals with_reducible rfl
  try simp only[Act.put,zD,zE,zF]
  refine aD 2 ?_ rfl jr jr (fun wx hC=>?_) ?_;rotate_left
  ·subst hC;go_simp;all_goals with_reducible rfl
  try simp only[Act.put,zD,zE,zF]
  refine aD 3 ?_ rfl jr jr (fun wx hC=>?_) ?_;rotate_left
  ·subst hC;go_simp;all_goals with_reducible rfl
  try simp only[Act.put,zD,zE,zF]
  refine dZ (fun w9 hC hI=>?_);subst hC;clear hI;go_wp2;exact zu (iR rfl rfl rfl HD.out.1) rfl (by rw[Hfin.out];exact⟨_,rfl,HD.out.2⟩)
 have hji:¬(j:Int)<(n:Int):=jo;by_cases hll:((sel a k (ds.take j)).length:Int)<l
 ·have Hfin:Hid (bL a k l ds=(sel a k (ds.take j),max a k)):=zh (xP j jo (by rw[Hl.out];omega) hll);have HF:=zh hF;have gf0:=hF.box.frozen 0;clear hF hlen;generalize bK a (sel a k (ds.take j))=m at *;generalize sel a k (ds.take j)=out at *
  go_upto_region 14 with(fail);have H7:=zh (HF.out.after (max a k));clear HF;generalize hw7:wr.setCell ⟨w.heap.size,0,none⟩ (.int .i64 (max a k))=w7 at *;clear hw7 hb0 hb1;have hb0:=H7.out.box.cell 0;have hb1:=H7.out.box.cell 1;have hr0:=H7.out.res.cell 0;have hr1:=H7.out.res.cell 1;have hf0:=H7.out.res.frozen 0;have hf1:=H7.out.res.frozen 1;simp at hb0 hb1 hr0 hr1;have HD:=zh H7.out.done;refine dN 3 (aI []) (fun wx=>wx=w7.drew) (fun _=>True) jk jk (dS jk) rfl trivial ?_;refine aD 1 ?_ rfl jr jr (fun wx hC=>?_) ?_;rotate_left
  ·subst hC;go_simp;all_goals with_reducible rfl
  try simp only[Act.put,zD,zE,zF]
  refine aD 2 ?_ rfl jr jr (fun wx hC=>?_) ?_;rotate_left
  ·subst hC;go_simp;all_goals with_reducible rfl
  try simp only[Act.put,zD,zE,zF]
  refine aD 3 ?_ rfl jr jr (fun wx hC=>?_) ?_;rotate_left
  ·subst hC;go_simp;all_goals with_reducible rfl
  try simp only[Act.put,zD,zE,zF]
  refine dZ (fun w9 hC hI=>?_);subst hC;clear hI;go_wp2;exact zu (iR rfl rfl rfl HD.out.1) rfl (by rw[Hfin.out];exact⟨_,rfl,HD.out.2⟩)
 have he:((sel a k (ds.take j)).length:Int)=l:=jo;have Hfin:Hid (bL a k l ds=(sel a k (ds.take j),bK a (sel a k (ds.take j)))):=zh (pq j jo he);have HF:=zh hF;have gf0:=hF.box.frozen 0;clear hF hlen he;generalize bK a (sel a k (ds.take j))=m at *;generalize sel a k (ds.take j)=out at *
 go_upto_region 14 with(fail);have H7:=zh (HF.out.after (m));clear HF;generalize hw7:wr.setCell ⟨w.heap.size,0,none⟩ (.int .i64 (m))=w7 at *;clear hw7 hb0 hb1;have hb0:=H7.out.box.cell 0;have hb1:=H7.out.box.cell 1;have hr0:=H7.out.res.cell 0;have hr1:=H7.out.res.cell 1;have hf0:=H7.out.res.frozen 0;have hf1:=H7.out.res.frozen 1;simp at hb0 hb1 hr0 hr1;have HD:=zh H7.out.done;refine dN 3 (aI []) (fun wx=>wx=w7.drew) (fun _=>True) jk jk (dS jk) rfl trivial ?_;refine aD 1 ?_ rfl jr jr (fun wx hC=>?_) ?_;rotate_left
 ·subst hC;go_simp;all_goals with_reducible rfl
 try simp only[Act.put,zD,zE,zF]
 refine aD 2 ?_ rfl jr jr (fun wx hC=>?_) ?_;rotate_left
 ·subst hC;go_simp;all_goals with_reducible rfl
 try simp only[Act.put,zD,zE,zF]
 refine aD 3 ?_ rfl jr jr (fun wx hC=>?_) ?_;rotate_left
 ·subst hC;go_simp;all_goals with_reducible rfl
 try simp only[Act.put,zD,zE,zF]
 refine dZ (fun w9 hC hI=>?_);subst hC;clear hI;go_wp2;exact zu (iR rfl rfl rfl HD.out.1) rfl (by rw[Hfin.out];exact⟨_,rfl,HD.out.2⟩)
end Cu

namespace Cu
open Go.RowKit Cr
structure Lf (w:World) (g:Nat) (A:Option Addr) (m c:Nat) (L:List UInt8):Prop where
 cell:w.cell? ⟨g,0,none⟩=some (.slice A m c)
 fz:w.frozen? ⟨g,0,none⟩=false
 le:m≤c
 ln:L.length=m
 rd:0<m→∃b o,A=some ⟨b,o,none⟩∧b<w.heap.size∧b≠g∧∀j u,(bv L)[j]?=some u→w.cell? ⟨b,o+j,none⟩=some u
 nil:A=none→c=0
theorem Lf.reads{w:World}{g:Nat}{A:Option Addr}{m c:Nat}{L:List UInt8}(h:Lf w g A m c L):Reads w w.heap.size 1 A m (bv L):=
 ⟨by rw[dH,h.ln];omega,fun hm=>by obtain⟨b,o,e,hb,_,hc⟩:=h.rd hm;exact⟨b,o,e,hb,hc⟩⟩
theorem lQ(L:List UInt8)(j:Nat):(bv L)[j]?=L[j]?.map fun c=>Value.int .u8 (c.toNat:Int):=by unfold bv;rw[List.getElem?_map]
theorem yl(w:World)(g:Nat)(u:Value){b:Nat}(o:Nat)(h:b≠g):(w.setCell ⟨g,0,none⟩ u).cell? ⟨b,o,none⟩=w.cell? ⟨b,o,none⟩:=
 vN (w:=w) (vL w ⟨g,0,none⟩ u b h)
theorem Lf.go{w:World}{g:Nat}{A:Option Addr}{m c k:Nat}{L:List UInt8}(h:Lf w g A m c L)(hk:k≤m)(A':Option Addr)(c':Nat)(hc:m-k≤c')(hn:A'=none→c'=0)(hA:∀b o,A=some ⟨b,o,none⟩→k<m→A'=some ⟨b,o+k,none⟩) :
  Lf (w.setCell ⟨g,0,none⟩ (.slice A' (m-k) c')) g A' (m-k) c' (L.drop k):=by
 refine⟨World.cell?_setCell_same _ _ _ h.cell,by rw[World.frozen?_setCell];exact h.fz,hc,by rw[zP,h.ln],fun hp=>?_,hn⟩;obtain⟨b,o,e,hb,hne,hcl⟩:=h.rd jo;refine⟨b,o+k,hA b o e jo,by simpa[World.setCell]using hb,hne,fun j u hu=>?_⟩;rw[yl w g _ _ hne];have:=hcl (k+j) u (by rw[lQ]at hu ⊢;rw[List.getElem?_drop]at hu;exact hu);rw[←this,Nat.add_assoc]
structure NextTo (w:World) (g:Nat) (L:List UInt8) (k:Nat) (e:Ending) (w':World):Prop where
 ex:∃A m c A' c',e=.returned (.slice A (min k m) c)∧L.length=m∧w'=w.setCell ⟨g,0,none⟩ (.slice A' (m-min k m) c')∧min k m≤c∧(A=none→c=0) ∧
  Reads w' w'.heap.size 1 A (min k m) (bv (L.take k))∧Lf w' g A' (m-min k m) c' (L.drop k)
theorem Lf.next{w:World}{g:Nat}{A:Option Addr}{m c:Nat}{L:List UInt8}(h:Lf w g A m c L)(k:Nat)(A':Option Addr)(c':Nat)(hc:m-min k m≤c')(hn:A'=none→c'=0)(hA:∀b o,A=some ⟨b,o,none⟩→min k m<m→A'=some ⟨b,o+min k m,none⟩) :
  NextTo w g L k (.returned (.slice A (min k m) c)) (w.setCell ⟨g,0,none⟩ (.slice A' (m-min k m) c')):=by
 have hd:L.drop (min k m)=L.drop k:=by
  rw[←h.ln];by_cases hk:k≤L.length
  ·rw[Nat.min_eq_left hk]
  rw[Nat.min_eq_right jo,List.drop_length,List.drop_of_length_le jo]
 have hg:=h.go (k:=min k m) jo A' c' hc hn hA;rw[hd]at hg;refine⟨A,m,c,A',c',rfl,h.ln,rfl,by have:=h.le;omega,h.nil,⟨by rw[dH,zK,h.ln];omega,fun hp=>?_⟩,hg⟩;obtain⟨b,o,e,hb,hne,hcl⟩:=h.rd jo;refine⟨b,o,e,by simpa[World.setCell]using hb,fun j u hu=>?_⟩;rw[yl w g _ _ hne];refine hcl j u ?_;rw[lQ,List.getElem?_take]at hu;rw[lQ]
 split at hu
 ·exact hu
 cases hu
theorem lC(w:World)(g:Nat)(A:Option Addr)(m c k:Nat)(L:List UInt8)(h:Lf w g A m c L)(hm:m≤140737488351232)(hk:k≤140737488351232) :
  Calls prog 110 #[.pointer (some ⟨g,0,none⟩),.int .i64 (k:Int)] w (NextTo w g L k):=by
 have hcell:=h.cell;have hfz:=h.fz;have hle:=h.le;have hnil:=h.nil;have HN:=zh (h.next k);have hrd:=h.rd;clear h;by_cases hkm:k<m
 ·rw[Nat.min_eq_left jo]at HN;obtain⟨b,o,rfl,hb,hne,_⟩:=hrd jo;have h1:(k:Int)<(m:Int):=jo;have h2:(k:Int)≤(c:Int):=jo;have h3:¬(c=k):=jo;have h4:¬(k=c):=jo;have hmn:min (k:Int) (m:Int)=(k:Int):=jo;go_enter func110,ntmps110;go_wp2;go_ret;exact HN.out _ _ jo (fun h=>by cases h) (fun b' o' e _=>by injection e with e;injection e with e1 e2;subst e1 e2;rfl)
 rw[Nat.min_eq_right jo]at HN;rw[Nat.sub_self]at HN;have h1:¬(k:Int)<(m:Int):=jo;by_cases hkm':k=m
 ·subst hkm';have hmn:min (k:Int) (k:Int)=(k:Int):=jo;by_cases hm0:k=0
  ·subst hm0;clear hrd
   cases A with
   | none=>
    obtain rfl:=hnil rfl;go_enter func110,ntmps110;go_wp2;go_ret;exact HN.out _ _ jo (fun h=>rfl) (fun b' o' e _=>jo)
   | some a=>
    clear hnil;by_cases hc:c=0
    ·subst hc;go_enter func110,ntmps110;go_wp2;go_ret;exact HN.out _ _ jo (fun h=>rfl) (fun b' o' e _=>jo)
    go_enter func110,ntmps110;go_wp2;go_ret;exact HN.out _ _ jo (fun h=>by cases h) (fun b' o' e _=>jo)
  obtain⟨b,o,rfl,hb,hne,_⟩:=hrd jo;by_cases hc:c=k
  ·subst hc;go_enter func110,ntmps110;go_wp2;go_ret;exact HN.out _ _ jo (fun h=>by cases h) (fun b' o' e _=>jo)
  have h2:(k:Int)≤(c:Int):=jo;go_enter func110,ntmps110;go_wp2;go_ret;exact HN.out _ _ jo (fun h=>by cases h) (fun b' o' e _=>jo)
 have h0:(m:Int)<(k:Int):=jo;have hmn:min (k:Int) (m:Int)=(m:Int):=jo;by_cases hm0:m=0
 ·subst hm0;have hmn0:min (k:Int) 0=0:=jo;clear hrd
  cases A with
  | none=>
   obtain rfl:=hnil rfl;go_enter func110,ntmps110;go_wp2;go_ret;exact HN.out _ _ jo (fun h=>rfl) (fun b' o' e _=>jo)
  | some a=>
   clear hnil;by_cases hc:c=0
   ·subst hc;go_enter func110,ntmps110;go_wp2;go_ret;exact HN.out _ _ jo (fun h=>rfl) (fun b' o' e _=>jo)
   go_enter func110,ntmps110;go_wp2;go_ret;exact HN.out _ _ jo (fun h=>by cases h) (fun b' o' e _=>jo)
 obtain⟨b,o,rfl,hb,hne,_⟩:=hrd jo;by_cases hc:c=m
 ·subst hc;go_enter func110,ntmps110;go_wp2;go_ret;exact HN.out _ _ jo (fun h=>by cases h) (fun b' o' e _=>jo)
 have h2:(m:Int)≤(c:Int):=jo;go_enter func110,ntmps110;go_wp2;go_ret;exact HN.out _ _ jo (fun h=>by cases h) (fun b' o' e _=>jo)
structure NumTo (w:World) (g:Nat) (L:List UInt8) (k:Nat) (e:Ending) (w':World):Prop where
 ret:e=.returned (.int .i64 (wrap64 (num (L.take k):Nat)))
 ex:∃A m c,w'=w.setCell ⟨g,0,none⟩ (.slice A m c)∧Lf w' g A m c (L.drop k)
theorem Ib(u:Nat)(c:UInt8)(h:u<72057594037927936):bits .or .u64 ((u:Int)*256) (c.toNat:Int)=((u*256+c.toNat:Nat):Int):=by
 have hc:=c.toNat_lt;have h1:=bits_or_u64_nat (u*256) c.toNat jo jo
 have h2:u*256 ||| c.toNat=u*256+c.toNat:=by
  have:=Nat.two_pow_add_eq_or_of_lt (i:=8) hc u;rw[show u*256=2 ^ 8*u by omega];exact this.symm
 rw[show (u:Int)*256=((u*256:Nat):Int) by omega,h1,h2]
theorem tX(w:World)(g:Nat)(A:Option Addr)(m c k:Nat)(L:List UInt8)(h:Lf w g A m c L)(hm:m≤140737488351232)(hk:k≤8) :
  Calls prog 111 #[.pointer (some ⟨g,0,none⟩),.int .i64 (k:Int)] w (NumTo w g L k):=by
 have c1:=lC w g A m c k L h hm jo;clear h;go_enter func111,ntmps111;go_wp2_with fail;refine c1.mono ?_;rintro e w1 ⟨A,m',cc,A',c',rfl,hln,hw,hle,hnil,hR,hL⟩;have HR:=zh hR;have Fin:Hid (∃A m c,w1=w.setCell ⟨g,0,none⟩ (.slice A m c)∧Lf w1 g A m c (L.drop k)):=zh ⟨_,_,_,hw,hL⟩;have hl2:(L.take k).length=min k m':=by rw[zK,hln]
 have hl8:min k m'≤8:=jo;generalize min k m'=n at *;generalize hM:L.take k=M at *;have HM:=zh hM;clear hM;have Hl:=zh hl2;clear c1 hw hR hL hln hl2 hm hnil;go_wp2_with fail
 go_loop [5,12] (fun u i=>∃j:Nat,j≤n∧i=.int .i64 j∧u=.int .u64 (num (M.take j):Nat)) (fun _ i=>n-(intOf i).toNat)
 case atStart=>exact⟨0,zS _,rfl,rfl⟩
 obtain⟨j,hj,rfl,rfl⟩:=hrel;by_cases hlt:j<n
 ·have hjl:j<M.length:=by rw[Hl.out];exact hlt
  obtain⟨b,o,hl,rfl,hbl,hcell⟩:=HR.out.at_map hlt
  have hts:num (M.take (j+1))=num (M.take j)*256+M[j].toNat:=by
   rw[zL hjl,wL]
  have hu:=nE (M.take j)
  have hu2:num (M.take j)<72057594037927936:=by
   rw[zK,Nat.min_eq_left jo]at hu;exact zT hu (zY (Nat.pow_le_pow_right jo (show j≤7 by omega)) jd)
  have Hts:=zh hts;clear hts hu;generalize num (M.take j)=u at *;generalize M[j]=q at *;have hq:=q.toNat_lt;have hor:=Ib u q hu2;have hu0:(0:Int)≤(u:Int):=jo;have hu1:(u:Int)<72057594037927936:=jo;go_wp2
  go_round
  case rel=>exact⟨j+1,jo,ju,by rw[Hts.out];go_num⟩
  simp[intOf];omega
 obtain rfl:j=n:=jo;have ht:Hid (M.take j=M):=zh (zR (by rw[Hl.out];exact zG _));rw[ht.out];have hu:=nE M
 have hu2:num M<18446744073709551616:=by
  rw[Hl.out]at hu;exact zT hu (zY (Nat.pow_le_pow_right jo hl8) jd)
 clear hu;generalize hxx:num M=u at *;have Hx:=zh hxx;clear hxx;have hu0:(0:Int)≤(u:Int):=jo;have hu1:(u:Int)<18446744073709551616:=jo;go_wp2;go_ret;exact⟨by rw[HM.out,Hx.out];rfl,Fin.out⟩
end Cu

namespace Cu
open Go.RowKit Cr Qp Qy
def DecR(L:List UInt8)(a:Int)(q:ByteArray)(E:Int):Prop:=
 (∃n:Nat,a=n∧IsC a q∧L=enc n q.data.toList∧E=0)∨((∀(n:Nat) (q':ByteArray),IsC n q'→L≠enc n q'.data.toList)∧a=0∧q=⟨#[]⟩∧E=250)
theorem qx{q q':ByteArray}(h:q.data.toList=q'.data.toList):q=q':=by
 cases q;cases q';congr 1;exact Array.toList_inj.1 h
theorem IsC.enc_inj{n n':Nat}{q q':ByteArray}(h:IsC n q)(h':IsC n' q')(e:enc n q.data.toList=enc n' q'.data.toList):n=n'∧q=q':=by
 have h1:=h.short;have h1':=h'.short;obtain⟨e1,e2⟩:=Cu.enc_inj (by have:=h.2.1;omega) (by have:=h'.2.1;omega) (by rw[aB];omega) (by rw[aB];omega) e;exact⟨e1,qx e2⟩
theorem DecR.det{L:List UInt8}{a a':Int}{q q':ByteArray}{E E':Int}(h:DecR L a q E)(h':DecR L a' q' E'):a=a'∧q=q'∧E=E':=by
 rcases h with⟨n,rfl,h1,h2,h3⟩|⟨h0,h1,h2,h3⟩<;>rcases h' with⟨n',rfl,g1,g2,g3⟩|⟨g0,g1,g2,g3⟩
 ·obtain⟨e1,e2⟩:=h1.enc_inj g1 (h2.symm.trans g2);exact⟨by rw[e1],e2,h3.trans g3.symm⟩
 ·exact absurd h2 (g0 n q h1)
 ·exact absurd g2 (h0 n' q' g1)
 exact⟨h1.trans g1.symm,h2.trans g2.symm,h3.trans g3.symm⟩
def nR(w:World)(L:List UInt8)(e:Ending)(w':World):Prop:=∃(a:Int) (q:ByteArray) (E:Int),DecR L a q E∧e=.returned (.tuple #[.agg #[.int .i64 a,.string q],.int .i64 E])∧zWW w w'
theorem xQ{L:List UInt8}{z:Int}{q:ByteArray}(hz:aOf L<9223372036854775808→z=aOf L)(hq:q.data.toList=qOf L∨q.data.toList=gu L):(∃n:Nat,z=n∧IsC z q∧enc n q.data.toList=L)∨∀(n:Nat) (q':ByteArray),IsC n q'→L≠enc n q'.data.toList:=by
 by_cases h:∃(n:Nat) (q':ByteArray),IsC n q'∧L=enc n q'.data.toList
 ·obtain⟨n,q',h1,rfl⟩:=h;left;have hs:=h1.short;have hn:n≤1099511627776:=by have:=h1.2.1;omega
  have ha:=qP n q'.data.toList jo;rw[ha]at hz;have e1:=hz jo
  have e2:q=q':=by
   rcases hq with hq|hq
   ·rw[qQ n q'.data.toList (by rw[aB];omega)]at hq;exact qx hq
   rw[Ff n q'.data.toList]at hq;exact qx hq
  subst e1 e2;exact⟨n,rfl,h1,rfl⟩
 right;intro n q' h1 h2;exact h ⟨n,q',h1,h2⟩
theorem CQ(L:List UInt8):strOfNums (L.map fun x=>(x.toNat:Int))=⟨L.toArray⟩:=by
 have h:(L.map fun x=>(x.toNat:Int)).map (fun n=>UInt8.ofNat n.toNat)=L:=by
  rw[List.map_map]
  conv=>rhs;rw[←List.map_id L]
  apply List.map_congr_left;intro x _;simp
 unfold strOfNums;rw[h]
theorem iE{w:World}{A:Option Addr}{n:Nat}(c:Nat){L:List UInt8}{B:Nat}(hR:Reads w B 1 A n (bv L)):(convert 30 9 (.slice A n c)).run prog w=.ok (.string ⟨L.toArray⟩) w:=by
 have hln:L.length=n:=by have:=hR.1;rw[dH]at this;omega
 by_cases h0:n=0
 ·subst h0;obtain rfl:=List.eq_nil_of_length_eq_zero hln
  cases A with
  | none=>exact run_convert_bytes_nil w 30 5 underlying30 underlying5 0 c 9 underlying9
  | some a=>
   rw[run_convert_bytes_string w 30 9 5 _ 0 c underlying30 underlying5 underlying9,
    run_bytesToString w a 0 c [] (by simp[loadCells,loadCellsFrom])]
   rfl
 obtain⟨b,o,rfl,_,hc⟩:=hR.2 jo
 have:=run_convert_bytes_arg w 30 5 underlying30 underlying5 b o n c (L.map fun x=>(x.toNat:Int)) (by rw[List.length_map,hln]) (fun i hi=>by
  rw[hc i (.int .u8 ((L[i]'jo).toNat:Int)) (by unfold bv;rw[List.getElem?_map,zU jo];rfl)]
  simp[List.getD,List.getElem?_map,zU (show i<L.length by omega)]) 9 underlying9
 rw[this,CQ]
end Cu

namespace Cu
open Go.RowKit Qy Ph
section
variable {w wr w2:World} {v v':Value} {ds es:List Dc}
end
section
variable {P:Program} {o:Oper} {a:Act} {w:World} {R:Value→World→Prop}
end
structure Onc (w wr:World) (c:Int) (q:ByteArray) (v:Value) (told:List Dc):Prop where
 box:Blk wr w.heap.size 122 #[.int .i64 c,.string q]
 own:DocsOwn w wr v told
section
variable {w wr w2:World} {c b:Int} {q:ByteArray} {v v':Value} {told:List Dc}
theorem Onc.below(h:Onc w wr c q v told)(hb:zWW wr w2):Onc w w2 c q v told:=⟨h.box.below hb h.box.lt,h.own.below hb⟩
theorem Onc.drew(h:Onc w wr c q v told):Onc w wr.drew c q v told:=h.below (zw _ _).drew
theorem Onc.next(h:Onc w wr c q v told)(b:Int)(q':ByteArray):Onc w ((wr.setCell ⟨w.heap.size,0,none⟩ (.int .i64 b)).setCell ⟨w.heap.size,1,none⟩ (.string q')) b q' v told:=by
 have h1:=h.box.set_ 0 (.int .i64 b);have h2:=h1.set_ 1 (.string q');exact⟨by simpa using h2,lF (lF h.own h.box (zG _) 0 _) h1 (zG _) 1 _⟩
end
def stC(l:List (UInt8 × UInt8)):List Value:=l.flatMap fun s=>[.int .u8 (s.1.toNat:Int),.int .u8 (s.2.toNat:Int)]
theorem xV:∀(l:List (UInt8 × UInt8)) (k:Nat) (h:k<l.length),(stC l)[k*2]?=some (.int .u8 (l[k].1.toNat:Int))∧(stC l)[k*2+1]?=some (.int .u8 (l[k].2.toNat:Int))
 | s::t,0,_=>⟨rfl,rfl⟩
 | s::t,k+1,h=>by
  have ih:=xV t k (by simpa using h);have e:stC (s::t)=[.int .u8 (s.1.toNat:Int),.int .u8 (s.2.toNat:Int)]++stC t:=rfl;rw[e,List.getElem_cons_succ];constructor
  ·rw[show (k+1)*2=k*2+2 by omega,List.getElem?_append_right jz];exact ih.1
  rw[show (k+1)*2+1=k*2+1+2 by omega,List.getElem?_append_right jz];exact ih.2
theorem Ij(l:List (UInt8 × UInt8)):(stC l).length=l.length*2:=by
 induction l with
 | nil=>rfl
 | cons s t ih=>
  have e:stC (s::t)=[.int .u8 (s.1.toNat:Int),.int .u8 (s.2.toNat:Int)]++stC t:=rfl;rw[e,zJ,ih,zV];simp;omega
theorem qX{w:World}{B n:Nat}{A:Option Addr}{l:List (UInt8 × UInt8)}(h:Reads w B 2 A n (stC l)){k:Nat}(hk:k<l.length) :
  ∃b o,A=some ⟨b,o,none⟩∧b<B∧w.cell? ⟨b,o+k*2,none⟩=some (.int .u8 (l[k].1.toNat:Int))∧w.cell? ⟨b,o+k*2+1,none⟩=some (.int .u8 (l[k].2.toNat:Int)):=by
 have hl:=h.1;rw[Ij]at hl;obtain⟨b,o,e,hb,hc⟩:=h.2 jo;obtain⟨g1,g2⟩:=xV l k hk;exact⟨b,o,e,hb,hc _ _ g1,by rw[Nat.add_assoc];exact hc _ _ g2⟩
end Cu

namespace Md
open Go.RowKit Ut Tk Qy Qp Ev
theorem mZ:I64 (-9223372036854775808):=⟨by decide,by decide⟩
theorem oV(n a b:Int)(w:World):Calls prog 76 #[.int .i64 n,.int .i64 a,.int .i64 b] w fun e w'=>e=.returned (.bool (decide (a≤n)&&decide (n≤b)))∧w=w':=by
 by_cases h1:a≤n
 ·by_cases h2:n≤b
  ·rw[zO h1,zO h2];go_enter func76,ntmps76;go_wp2;go_ret;exact⟨rfl,rfl⟩
  rw[zO h1,zN h2];go_enter func76,ntmps76;go_wp2;go_ret;exact⟨rfl,rfl⟩
 rw[zN h1];go_enter func76,ntmps76;go_wp2;go_ret;exact⟨rfl,rfl⟩
theorem J0(c:Cf):decide (okC c)=((decide (1≤c.size)&&decide (c.size≤262144))&&decide (1≤c.age)&&decide (0≤c.retain)&&(decide (1≤c.batch)&&decide (c.batch≤64))&&(decide (1≤c.buckets)&&decide (c.buckets≤10000))):=by
 by_cases h:okC c
 ·have h':=h;unfold okC at h';obtain⟨h1,h2,h3,h4,h5,h6,h7,h8⟩:=h';rw[zO h,zO h1,zO h2,zO h3,zO h4,zO h5,zO h6,zO h7,zO h8];rfl
 rw[zN h];refine(Bool.eq_false_iff.2 (fun hh=>h ?_)).symm;simp only[zo,zd]at hh;unfold okC;omega
theorem CY(c:Cf)(w:World):Calls prog 40 #[c.v] w fun e w'=>e=.returned (.int .i64 (if okC c then 0 else 270))∧zWW w w':=by
 have hb:zWW w (w.alloc (.cells #[.int .i64 c.size,.int .i64 c.age,.int .i64 c.retain,.int .i64 c.batch,.int .i64 c.buckets,.bool c.bt,.bool c.bb] 25)):=zRR _;have hx:=Blk.new w 25 #[.int .i64 c.size,.int .i64 c.age,.int .i64 c.retain,.int .i64 c.batch,.int .i64 c.buckets,.bool c.bt,.bool c.bb];have k0:=hx.cell 0;have k1:=hx.cell 1;have k2:=hx.cell 2;have k3:=hx.cell 3;have k4:=hx.cell 4;simp only[zA,zB,zC]at k0 k1 k2 k3 k4;have hif:(if okC c then(0:Int)else 270)=(if decide (okC c)=true then 0 else 270):=jz;rw[hif,J0];obtain⟨sz,ag,rt,bt,bu,b1,b2⟩:=c;simp only[Cf.v]at *;have HB:=zh hb;have C1:=zh (fun wx=>oV sz 1 262144 wx);have C2:=zh (fun wx=>oV bt 1 64 wx);have C3:=zh (fun wx=>oV bu 1 10000 wx);generalize (decide (1≤sz)&&decide (sz≤262144))=d1 at *;generalize (decide (1≤bt)&&decide (bt≤64))=d4 at *;generalize (decide (1≤bu)&&decide (bu≤10000))=d5 at *
 have fin:∀d2 d3:Bool,decide (1≤ag)=d2→decide (0≤rt)=d3→Calls prog 40 #[.agg #[.int .i64 sz,.int .i64 ag,.int .i64 rt,.int .i64 bt,.int .i64 bu,.bool b1,.bool b2]] w fun e w'=>e=.returned (.int .i64 (if(d1&&d2&&d3&&d4&&d5)=true then 0 else 270))∧zWW w w':=by
  intro d2 d3 h2 h3;clear hb hx hif
  cases d1 with
  | false=>
   clear h2 h3;go_enter func40,ntmps40;go_wp2_with fail;refine(C1.out _).mono ?_;rintro e w2 ⟨rfl,rfl⟩;clear C1 C2 C3;go_wp2;go_ret;exact⟨rfl,HB.out⟩
  | true=>
   cases d2 with
   | false=>
    have h2':¬1≤ag:=of_decide_eq_false h2;clear h2 h3;go_enter func40,ntmps40;go_wp2_with fail;refine(C1.out _).mono ?_;rintro e w2 ⟨rfl,rfl⟩;clear C1 C2 C3;go_wp2;go_ret;exact⟨rfl,HB.out⟩
   | true=>
    have h2':1≤ag:=of_decide_eq_true h2;clear h2
    cases d3 with
    | false=>
     have h3':¬0≤rt:=of_decide_eq_false h3;clear h3;go_enter func40,ntmps40;go_wp2_with fail;refine(C1.out _).mono ?_;rintro e w2 ⟨rfl,rfl⟩;clear C1 C2 C3;go_wp2;go_ret;exact⟨rfl,HB.out⟩
    | true=>
     have h3':0≤rt:=of_decide_eq_true h3;clear h3;go_enter func40,ntmps40;go_wp2_with fail;refine(C1.out _).mono ?_;rintro e w2 ⟨rfl,rfl⟩;go_wp2_with fail;refine(C2.out _).mono ?_;rintro e w2 ⟨rfl,rfl⟩
     cases d4 with
     | false=>
      clear C1 C2 C3;go_wp2;go_ret;exact⟨rfl,HB.out⟩
     | true=>
      go_wp2_with fail;refine(C3.out _).mono ?_;rintro e w2 ⟨rfl,rfl⟩;clear C1 C2 C3
      cases d5 with
      | false=>
       go_wp2;go_ret;exact⟨rfl,HB.out⟩
      | true=>
       go_wp2;go_ret;exact⟨rfl,HB.out⟩
 exact fin _ _ rfl rfl
def ni(c:Cf)(w:World)(e:Ending)(w':World):Prop:=(okC c∧∃X,e=.returned (.tuple #[.pointer (some ⟨X,0,none⟩),.int .i64 0])∧w.heap.size≤X∧At w' w.heap.size X 0 nil ⟨c,[],-9223372036854775808,-9223372036854775808,0⟩∧zWW w w') ∨
 (¬okC c∧e=.returned (.tuple #[.pointer none,.int .i64 270])∧zWW w w')
theorem qc(c:Cf)(hr:c.retain≤9223372036854775807)(w:World):Calls prog 15 #[c.v] w (ni c w):=by
 have hb:zWW w (w.alloc (.cells #[.int .i64 c.size,.int .i64 c.age,.int .i64 c.retain,.int .i64 c.batch,.int .i64 c.buckets,.bool c.bt,.bool c.bb] 25)):=zRR _;have HX:=zh (Blk.new w 25 #[.int .i64 c.size,.int .i64 c.age,.int .i64 c.retain,.int .i64 c.batch,.int .i64 c.buckets,.bool c.bt,.bool c.bb]);have HB:=zh hb;have CS:Hid (∀wx,Calls prog 40 #[.agg #[.int .i64 c.size,.int .i64 c.age,.int .i64 c.retain,.int .i64 c.batch,.int .i64 c.buckets,.bool c.bt,.bool c.bb]] wx fun e w'=>e=.returned (.int .i64 (if okC c then 0 else 270))∧zWW wx w'):=zh (fun wx=>CY c wx);show Calls prog 15 #[.agg #[.int .i64 c.size,.int .i64 c.age,.int .i64 c.retain,.int .i64 c.batch,.int .i64 c.buckets,.bool c.bt,.bool c.bb]] w (ni c w);clear hb;go_enter func15,ntmps15
 go_upto_region 1 with(fail);generalize w.alloc (.cells #[.int .i64 c.size,.int .i64 c.age,.int .i64 c.retain,.int .i64 c.batch,.int .i64 c.buckets,.bool c.bt,.bool c.bb] 25)=w1 at *;have k0:=HX.out.cell 0;have k1:=HX.out.cell 1;have k2:=HX.out.cell 2;have k3:=HX.out.cell 3;have k4:=HX.out.cell 4;have k5:=HX.out.cell 5;have k6:=HX.out.cell 6;simp only[zA,zB,zC]at k0 k1 k2 k3 k4 k5 k6;go_wp2_with fail;refine(CS.out w1).mono ?_;rintro e w2 ⟨rfl,hb2⟩;have HB2:=zt HB hb2;have hx2:=HX.out.below hb2 HX.out.lt;clear hb2 CS k0 k1 k2 k3 k4 k5 k6;have k0:=hx2.cell 0;have k1:=hx2.cell 1;have k2:=hx2.cell 2;have k3:=hx2.cell 3;have k4:=hx2.cell 4;have k5:=hx2.cell 5;have k6:=hx2.cell 6;simp only[zA,zB,zC]at k0 k1 k2 k3 k4 k5 k6;clear hx2;by_cases hok:okC c
 ·rw[zI hok];have hm:=Blk.new w2 81 (mdC ⟨c,[],-9223372036854775808,-9223372036854775808,0⟩ nil);have hb3:zWW w2 (w2.alloc (.cells (mdC ⟨c,[],-9223372036854775808,-9223372036854775808,0⟩ nil) 81)):=zRR _;have hs:=HB2.out.size;have FIN:Hid (ni c w (.returned (.tuple #[.pointer (some ⟨w2.heap.size,0,none⟩),.int .i64 0])) (w2.alloc (.cells (mdC ⟨c,[],-9223372036854775808,-9223372036854775808,0⟩ nil) 81))):=zh (.inl ⟨hok,_,rfl,hs,⟨hm,DOwn.start _ _,zY hs hb3.size,⟨hok,hr,fun i h=>absurd h jz,mZ,mZ,⟨Int.le_refl _,Int.natCast_nonneg _⟩⟩,zG _⟩,HB2.out.trans (hb3.mono hs)⟩);clear hm hb3 hok;go_wp2;go_ret2;exact FIN.out
 rw[zH hok];go_wp2;go_ret2;exact .inr ⟨hok,rfl,HB2.out⟩
end Md
end Go.Proofs.YtmomjpolkkbhnaaGreat
