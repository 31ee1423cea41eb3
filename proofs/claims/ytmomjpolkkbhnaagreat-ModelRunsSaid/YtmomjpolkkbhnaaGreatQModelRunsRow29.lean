/- The document's Follow: the walk (printed by gen_cut.py). -/
import Derived.Laws.Bits64b
import Derived.Test.YtmomjpolkkbhnaaGreatQModelRunsRow27
set_option linter.unusedSimpArgs false
set_option maxRecDepth 100000
set_option maxHeartbeats 100000000
open Go.Proofs.Tryz
namespace Go.Proofs.YtmomjpolkkbhnaaGreat
namespace Cu
open Go.RowKit Qy Ph
theorem Ep(a k l:Int)(q:ByteArray)(A:Option Addr)(n c:Nat)(ds:List Dc)(w:World)(hD:DocsAt w w.heap.size A n ds)(hn:n≤1048576) :
  Calls prog 88 #[.agg #[.int .i64 a,.string q],.int .i64 k,.int .i64 l,.slice A n c] w (Dh w (gV a k l ds) q):=by
 obtain⟨i0,ay,az,aB,au⟩:=info_parts lU;have hF0:=Ac (fun _=>False) w (fun _ h=>h.elim) a q;have y:Hid (Fol w _ a q _ []):=zh ⟨hF0.box,hF0.res,(DocsOwn.start w).below hF0.bel⟩;clear hF0;have I:=zh hD;have Hl:=zh hD.ln;clear hD;by_cases hl:l<1
 ·have Hfin:=zh (BS (a:=a) (k:=k) ds hl);go_enter func88,ntmps88
  go_upto_region 2 with(fail);generalize Y:(w.alloc (.cells #[.int .i64 a,.string q] 122)).alloc (.cells #[.int .i64 0,.string ⟨#[]⟩] 122)=w2 at *;clear Y;have f:=y.out.box.cell 0;have e:=y.out.box.cell 1;have B:=y.out.res.cell 0;have E:=y.out.res.cell 1;have Z:=y.out.res.frozen 0;have aa:=y.out.res.frozen 1;simp at f e B E;have I:=zh y.out.done;refine kK 2 (fF []) (fun O=>O=w2.drew) (fun _=>True) jk jk (kN jk) rfl trivial ?_
  iterate 2
   refine ik _ ?_ rfl jr jr (fun O D=>?_) ?_;rotate_left
   ·subst D;go_simp;all_goals with_reducible rfl
   try simp only[Act.put,zD,zE,zF]
  refine kT (fun w9 D X=>?_);subst D;clear X;go_wp2;exact zw (nU rfl rfl rfl I.out.1) rfl (by rw[Hfin.out];exact⟨_,rfl,I.out.2⟩)
 have aO:1≤l:=jo;go_enter func88,ntmps88;go_wp2_with fail;generalize Y:(w.alloc (.cells #[.int .i64 a,.string q] 122)).alloc (.cells #[.int .i64 0,.string ⟨#[]⟩] 122)=w2 at *;clear Y;go_loopw [10,11,12] (fun v m i wr=>∃j:Nat,j≤n∧i=.int .i64 (j:Int)∧m=.int .i64 (gU a (sel a k (ds.take j)))∧((sel a k (ds.take j)).length:Int)≤l∧Fol w wr a q v (sel a k (ds.take j))) (fun _ _ i _=>n-(intOf i).toNat)
 case atStart=>exact⟨0,zS _,rfl,rfl,by simp[sel];omega,by simpa[sel]using y.out⟩
 obtain⟨j,hj,rfl,rfl,x,r⟩:=hrel;have aI:(sel a k (ds.take j)).length≤1048576:=zY (B0 ..) (by rw[zK,Hl.out];omega);have f:=r.box.cell 0;have e:=r.box.cell 1;have aL:=r.box.lt;simp at f e;obtain⟨A6,c6,rfl,_⟩:=r.own.read;by_cases av:j<n
 ·by_cases af:((sel a k (ds.take j)).length:Int)<l
  ·have ab:j<ds.length:=by rw[Hl.out];exact av
   obtain⟨b,o,F,M,L,rfl,G,z,J,S,hR,ak,aD,an,ad⟩:=I.out.at_ ab;have z:=(r.own.bel.cell (p:=⟨b,o+j*3,none⟩) G).trans z;have J:=(r.own.bel.cell (p:=⟨b,o+j*3+1,none⟩) G).trans J;have S:=(r.own.bel.cell (p:=⟨b,o+j*3+2,none⟩) G).trans S;have Hyes:=zh (Bz a k ds j ab);have Hno:=zh (DI a k ds j ab);have am:DcV w w.heap.size ds[j] [.int .i64 ds[j].seq,.int .i64 ds[j].at_,.slice F M L]:=⟨F,M,L,rfl,hR,ak,aD,an,ad⟩;have U:=zh am;clear hR ak am;generalize ap:ds[j]=d at *;clear ap;obtain⟨s,at_,fs⟩:=d
   dsimp only at z J U Hyes Hno
   have H:=zh r;have aH:(0:Int)≤(j:Int):=jo;have aj:(j:Int)<(n:Int):=jo;have Hlen:=zh x;clear r x;by_cases h1:a<s
   ·have aA:decide (a<s)=true:=by simpa using h1
    by_cases h2:s≤k
    ·have ar:decide (s≤k)=true:=by simpa using h2
     have Hys:Hid (sel a k (ds.take (j+1))=sel a k (ds.take j) ++ [⟨s,at_,fs⟩]):=zh (Hyes.out h1 h2);have Hlst:Hid (gU a (sel a k (ds.take (j+1)))=max (gU a (sel a k (ds.take j))) s):=zh (by rw[Hys.out,yd]);clear Hyes Hno;generalize gU a (sel a k (ds.take j))=m at *;generalize sel a k (ds.take j)=C at *;go_wp2_with fail;go_quiet (fail);have z:(wr.drewN nq).cell? ⟨b,o+j*3,none⟩=some (.int .i64 s):=z;have J:(wr.drewN nq).cell? ⟨b,o+j*3+1,none⟩=some (.int .i64 at_):=J;have S:(wr.drewN nq).cell? ⟨b,o+j*3+2,none⟩=some (.slice F M L):=S;have ac:Hid (Fol w (wr.drewN nq) a q (.slice A6 C.length c6) C):=zh (H.out.below (below_drewN (zy _ _) nq));have aF:b<(wr.drewN nq).heap.size:=zT G ac.out.own.bel.size;clear f e H;generalize wr.drewN nq=wd at *;have P:=zh (ac.out.alloc (.cells #[.int .i64 s,.int .i64 at_,.slice F M L] 48));have ao:=(World.cell?_alloc_lt wd (.cells #[.int .i64 s,.int .i64 at_,.slice F M L] 48) ⟨b,o+j*3,none⟩ aF).trans z;have al:DcV (wd.alloc (.cells #[.int .i64 s,.int .i64 at_,.slice F M L] 48)) (wd.alloc (.cells #[.int .i64 s,.int .i64 at_,.slice F M L] 48)).heap.size ⟨s,at_,fs⟩ [.int .i64 s,.int .i64 at_,.slice F M L]:=(U.out.keep fun _ _ hp=>P.out.own.bel.cell hp).more P.out.own.bel.size
     have T:Far (wd.alloc (.cells #[.int .i64 s,.int .i64 at_,.slice F M L] 48)) w.heap.size [.int .i64 s,.int .i64 at_,.slice F M L]:=by
      intro F' aQ aK hv ax;simp only[zC,zB,Option.some.injEq,Value.slice.injEq]at hv;obtain⟨rfl,rfl,rfl⟩:=hv;obtain⟨F2,aN,aM,e2,aE,_⟩:=U.out;simp only[zQ,Value.slice.injEq,and_true,true_and]at e2;obtain⟨rfl,rfl,rfl⟩:=e2;obtain⟨b',o',eF,ah,_⟩:=aE.2 ax;exact⟨b',o',eF,.inl ah⟩
     have aw:=zh al;have ae:=zh T;obtain⟨aG,g1,g2,g3⟩:=P.out.own.ex;have HX:=zh g3;have aC:=zh g1;have ag:=P.out.box.lt;simp at ag;clear al T g1 g3;go_wp2_with (at_builtin;refine vJ _ rfl _ _ 26 rfl w.heap.size 48 i0 _ 3 40 underlying26 ay az aB au rfl jd _ _ _ rfl g2 ⟨wd.heap.size,0,none⟩ 1 1 [.int .i64 s,.int .i64 at_,.slice F M L] rfl rfl ?d1 ?d2 ?d3 ?d4 ?d5 ?_)
     case d1=>exact vH (cs:=#[.int .i64 s,.int .i64 at_,.slice F M L]) (t:=48) (fr:=(0,0)) (vK wd _)
     case d2=>intro u hu;simp at hu;rcases hu with rfl|rfl|rfl<;>rfl
     case d3=>unfold maxLen;omega
     case d4=>omega
     case d5=>simp;omega
     intro v9 w9 R W _;have V:Fol w w9 a q v9 (C ++ [⟨s,at_,fs⟩]):=P.out.put ⟨aG,aC.out,g2,HX.out,rfl⟩ R W aw.out ae.out;have aP:b<w9.heap.size:=zT jm W.size
     have aJ:w9.cell? ⟨b,o+j*3,none⟩=some (.int .i64 s):=(V.own.bel.cell (p:=⟨b,o+j*3,none⟩) G).trans (by
      have h1:=(ac.out.own.bel.cell (p:=⟨b,o+j*3,none⟩) G)
      rw[←h1];exact z)
     have aq:=zh V;have Hlen9:Hid (((C ++ [(⟨s,at_,fs⟩:Dc)]).length:Int)≤l):=zh (by rw[zJ];simp;omega);clear V R W g2 z J S ao;go_wp2;go_roundw
     case rel=>exact⟨j+1,jo,ju,by rw[Hlst.out],by rw[Hys.out];exact Hlen9.out,by rw[Hys.out];exact aq.out⟩
     simp[intOf];omega
    have ar:decide (s≤k)=false:=by simpa using h2
    have Hsn:Hid (sel a k (ds.take (j+1))=sel a k (ds.take j)):=zh (Hno.out (fun h=>h2 h.2));clear Hyes Hno h2;go_wp2_with fail;go_quiet (fail);go_wp2;go_roundw
    case rel=>exact⟨j+1,jo,ju,by rw[Hsn.out],by rw[Hsn.out];exact Hlen.out,by rw[Hsn.out];exact H.out.below (below_drewN (zy _ _) nq)⟩
    simp[intOf];omega
   have aA:decide (a<s)=false:=by simpa using h1
   have Hsn:Hid (sel a k (ds.take (j+1))=sel a k (ds.take j)):=zh (Hno.out (fun h=>h1 h.1));clear Hyes Hno h1;go_wp2_with fail;go_quiet (fail);go_wp2;go_roundw
   case rel=>exact⟨j+1,jo,ju,by rw[Hsn.out],by rw[Hsn.out];exact Hlen.out,by rw[Hsn.out];exact H.out.below (below_drewN (zy _ _) nq)⟩
   simp[intOf];omega
  have he:((sel a k (ds.take j)).length:Int)=l:=jo;have Hfin:Hid (gV a k l ds=(sel a k (ds.take j),gU a (sel a k (ds.take j)))):=zh (uZ j jo he);have H:=zh r;have ai:=r.box.frozen 0;have aj:(j:Int)<(n:Int):=jo;clear r x he;generalize gU a (sel a k (ds.take j))=m at *;generalize sel a k (ds.take j)=C at *
  go_upto_region 14 with(fail);have g:=zh (H.out.after (m));clear H;generalize N:wr.setCell ⟨w.heap.size,0,none⟩ (.int .i64 (m))=w7 at *;clear N f e;have f:=g.out.box.cell 0;have e:=g.out.box.cell 1;have B:=g.out.res.cell 0;have E:=g.out.res.cell 1;have Z:=g.out.res.frozen 0;have aa:=g.out.res.frozen 1;simp at f e B E;have I:=zh g.out.done;refine kK 3 (fF []) (fun O=>O=w7.drew) (fun _=>True) jk jk (kN jk) rfl trivial ?_
  iterate 3
   refine ik _ ?_ rfl jr jr (fun O D=>?_) ?_;rotate_left
   ·subst D;go_simp;all_goals with_reducible rfl
   try simp only[Act.put,zD,zE,zF]
  refine kT (fun w9 D X=>?_);subst D;clear X;go_wp2;exact zw (nU rfl rfl rfl I.out.1) rfl (by rw[Hfin.out];exact⟨_,rfl,I.out.2⟩)
 have aj:¬(j:Int)<(n:Int):=jo;by_cases af:((sel a k (ds.take j)).length:Int)<l
 ·have Hfin:Hid (gV a k l ds=(sel a k (ds.take j),max a k)):=zh (CG j jo (by rw[Hl.out];omega) af);have H:=zh r;have ai:=r.box.frozen 0;clear r x;generalize gU a (sel a k (ds.take j))=m at *;generalize sel a k (ds.take j)=C at *
  go_upto_region 14 with(fail);have g:=zh (H.out.after (max a k));clear H;generalize N:wr.setCell ⟨w.heap.size,0,none⟩ (.int .i64 (max a k))=w7 at *;clear N f e;have f:=g.out.box.cell 0;have e:=g.out.box.cell 1;have B:=g.out.res.cell 0;have E:=g.out.res.cell 1;have Z:=g.out.res.frozen 0;have aa:=g.out.res.frozen 1;simp at f e B E;have I:=zh g.out.done;refine kK 3 (fF []) (fun O=>O=w7.drew) (fun _=>True) jk jk (kN jk) rfl trivial ?_
  iterate 3
   refine ik _ ?_ rfl jr jr (fun O D=>?_) ?_;rotate_left
   ·subst D;go_simp;all_goals with_reducible rfl
   try simp only[Act.put,zD,zE,zF]
  refine kT (fun w9 D X=>?_);subst D;clear X;go_wp2;exact zw (nU rfl rfl rfl I.out.1) rfl (by rw[Hfin.out];exact⟨_,rfl,I.out.2⟩)
 have he:((sel a k (ds.take j)).length:Int)=l:=jo;have Hfin:Hid (gV a k l ds=(sel a k (ds.take j),gU a (sel a k (ds.take j)))):=zh (uZ j jo he);have H:=zh r;have ai:=r.box.frozen 0;clear r x he;generalize gU a (sel a k (ds.take j))=m at *;generalize sel a k (ds.take j)=C at *
 go_upto_region 14 with(fail);have g:=zh (H.out.after (m));clear H;generalize N:wr.setCell ⟨w.heap.size,0,none⟩ (.int .i64 (m))=w7 at *;clear N f e;have f:=g.out.box.cell 0;have e:=g.out.box.cell 1;have B:=g.out.res.cell 0;have E:=g.out.res.cell 1;have Z:=g.out.res.frozen 0;have aa:=g.out.res.frozen 1;simp at f e B E;have I:=zh g.out.done;refine kK 3 (fF []) (fun O=>O=w7.drew) (fun _=>True) jk jk (kN jk) rfl trivial ?_
 iterate 3
  refine ik _ ?_ rfl jr jr (fun O D=>?_) ?_;rotate_left
  ·subst D;go_simp;all_goals with_reducible rfl
  try simp only[Act.put,zD,zE,zF]
 refine kT (fun w9 D X=>?_);subst D;clear X;go_wp2;exact zw (nU rfl rfl rfl I.out.1) rfl (by rw[Hfin.out];exact⟨_,rfl,I.out.2⟩)
end Cu

namespace Cu
open Go.RowKit Cr
structure Lf (w:World) (g:Nat) (A:Option Addr) (m c:Nat) (L:List UInt8):Prop where
 cell:w.cell? ⟨g,0,none⟩=some (.slice A m c)
 fz:w.frozen? ⟨g,0,none⟩=false
 le:m≤c
 ln:L.length=m
 rd:0<m→∃b o,A=some ⟨b,o,none⟩∧b<w.heap.size∧b≠g∧∀j u,(bv L)[j]?=some u→w.cell? ⟨b,o+j,none⟩=some u
 nil:A=none→c=0
theorem Lf.reads{w:World}{g:Nat}{A:Option Addr}{m c:Nat}{L:List UInt8}(h:Lf w g A m c L):Reads w w.heap.size 1 A m (bv L):=
 ⟨by rw[ij,h.ln];omega,fun a=>by obtain⟨b,o,e,f,_,d⟩:=h.rd a;exact⟨b,o,e,f,d⟩⟩
theorem qM(L:List UInt8)(j:Nat):(bv L)[j]?=L[j]?.map fun c=>Value.int .u8 (c.toNat:Int):=by unfold bv;rw[List.getElem?_map]
theorem Dp(w:World)(g:Nat)(u:Value){b:Nat}(o:Nat)(h:b≠g):(w.setCell ⟨g,0,none⟩ u).cell? ⟨b,o,none⟩=w.cell? ⟨b,o,none⟩:=
 vP (w:=w) (vN w ⟨g,0,none⟩ u b h)
theorem Lf.go{w:World}{g:Nat}{A:Option Addr}{m c k:Nat}{L:List UInt8}(h:Lf w g A m c L)(hk:k≤m)(A':Option Addr)(c':Nat)(hc:m-k≤c')(hn:A'=none→c'=0)(hA:∀b o,A=some ⟨b,o,none⟩→k<m→A'=some ⟨b,o+k,none⟩) :
  Lf (w.setCell ⟨g,0,none⟩ (.slice A' (m-k) c')) g A' (m-k) c' (L.drop k):=by
 refine⟨World.cell?_setCell_same _ _ _ h.cell,by rw[World.frozen?_setCell];exact h.fz,hc,by rw[zP,h.ln],fun l=>?_,hn⟩;obtain⟨b,o,e,i,a,f⟩:=h.rd jo;refine⟨b,o+k,hA b o e jo,by simpa[World.setCell]using i,a,fun j u d=>?_⟩;rw[Dp w g _ _ a];have:=f (k+j) u (by rw[qM]at d ⊢;rw[List.getElem?_drop]at d;exact d);rw[←this,Nat.add_assoc]
structure NextTo (w:World) (g:Nat) (L:List UInt8) (k:Nat) (e:Ending) (w':World):Prop where
 ex:∃A m c A' c',e=.returned (.slice A (min k m) c)∧L.length=m∧w'=w.setCell ⟨g,0,none⟩ (.slice A' (m-min k m) c')∧min k m≤c∧(A=none→c=0) ∧
  Reads w' w'.heap.size 1 A (min k m) (bv (L.take k))∧Lf w' g A' (m-min k m) c' (L.drop k)
theorem Lf.next{w:World}{g:Nat}{A:Option Addr}{m c:Nat}{L:List UInt8}(h:Lf w g A m c L)(k:Nat)(A':Option Addr)(c':Nat)(hc:m-min k m≤c')(hn:A'=none→c'=0)(hA:∀b o,A=some ⟨b,o,none⟩→min k m<m→A'=some ⟨b,o+min k m,none⟩) :
  NextTo w g L k (.returned (.slice A (min k m) c)) (w.setCell ⟨g,0,none⟩ (.slice A' (m-min k m) c')):=by
 have l:L.drop (min k m)=L.drop k:=by
  rw[←h.ln];by_cases p:k≤L.length
  ·rw[Nat.min_eq_left p]
  rw[Nat.min_eq_right jo,List.drop_length,List.drop_of_length_le jo]
 have i:=h.go (k:=min k m) jo A' c' hc hn hA;rw[l]at i;refine⟨A,m,c,A',c',rfl,h.ln,rfl,by have:=h.le;omega,h.nil,⟨by rw[ij,zK,h.ln];omega,fun q=>?_⟩,i⟩;obtain⟨b,o,e,n,d,f⟩:=h.rd jo;refine⟨b,o,e,by simpa[World.setCell]using n,fun j u a=>?_⟩;rw[Dp w g _ _ d];refine f j u ?_;rw[qM,List.getElem?_take]at a;rw[qM]
 split at a
 ·exact a
 cases a
theorem p8(w:World)(g:Nat)(A:Option Addr)(m c k:Nat)(L:List UInt8)(h:Lf w g A m c L)(hm:m≤140737488351232)(hk:k≤140737488351232) :
  Calls prog 110 #[.pointer (some ⟨g,0,none⟩),.int .i64 (k:Int)] w (NextTo w g L k):=by
 have t:=h.cell;have z:=h.fz;have y:=h.le;have d:=h.nil;have f:=zh (h.next k);have i:=h.rd;clear h;by_cases B:k<m
 ·rw[Nat.min_eq_left jo]at f;obtain⟨b,o,rfl,x,r,_⟩:=i jo;have C:(k:Int)<(m:Int):=jo;have v:(k:Int)≤(c:Int):=jo;have D:¬(c=k):=jo;have E:¬(k=c):=jo;have q:min (k:Int) (m:Int)=(k:Int):=jo;go_enter func110,ntmps110;go_wp2;go_ret;exact f.out _ _ jo (fun h=>by cases h) (fun l j e _=>by injection e with e;injection e with e1 e2;subst e1 e2;rfl)
 rw[Nat.min_eq_right jo]at f;rw[Nat.sub_self]at f;have C:¬(k:Int)<(m:Int):=jo;by_cases s:k=m
 ·subst s;have q:min (k:Int) (k:Int)=(k:Int):=jo;by_cases n:k=0
  ·subst n;clear i
   cases A with
   | none=>
    obtain rfl:=d rfl;go_enter func110,ntmps110;go_wp2;go_ret;exact f.out _ _ jo (fun h=>rfl) (fun l j e _=>jo)
   | some a=>
    clear d;by_cases p:c=0
    ·subst p;go_enter func110,ntmps110;go_wp2;go_ret;exact f.out _ _ jo (fun h=>rfl) (fun l j e _=>jo)
    go_enter func110,ntmps110;go_wp2;go_ret;exact f.out _ _ jo (fun h=>by cases h) (fun l j e _=>jo)
  obtain⟨b,o,rfl,x,r,_⟩:=i jo;by_cases p:c=k
  ·subst p;go_enter func110,ntmps110;go_wp2;go_ret;exact f.out _ _ jo (fun h=>by cases h) (fun l j e _=>jo)
  have v:(k:Int)≤(c:Int):=jo;go_enter func110,ntmps110;go_wp2;go_ret;exact f.out _ _ jo (fun h=>by cases h) (fun l j e _=>jo)
 have F:(m:Int)<(k:Int):=jo;have q:min (k:Int) (m:Int)=(m:Int):=jo;by_cases n:m=0
 ·subst n;have u:min (k:Int) 0=0:=jo;clear i
  cases A with
  | none=>
   obtain rfl:=d rfl;go_enter func110,ntmps110;go_wp2;go_ret;exact f.out _ _ jo (fun h=>rfl) (fun l j e _=>jo)
  | some a=>
   clear d;by_cases p:c=0
   ·subst p;go_enter func110,ntmps110;go_wp2;go_ret;exact f.out _ _ jo (fun h=>rfl) (fun l j e _=>jo)
   go_enter func110,ntmps110;go_wp2;go_ret;exact f.out _ _ jo (fun h=>by cases h) (fun l j e _=>jo)
 obtain⟨b,o,rfl,x,r,_⟩:=i jo;by_cases p:c=m
 ·subst p;go_enter func110,ntmps110;go_wp2;go_ret;exact f.out _ _ jo (fun h=>by cases h) (fun l j e _=>jo)
 have v:(m:Int)≤(c:Int):=jo;go_enter func110,ntmps110;go_wp2;go_ret;exact f.out _ _ jo (fun h=>by cases h) (fun l j e _=>jo)
structure NumTo (w:World) (g:Nat) (L:List UInt8) (k:Nat) (e:Ending) (w':World):Prop where
 ret:e=.returned (.int .i64 (wrap64 (num (L.take k):Nat)))
 ex:∃A m c,w'=w.setCell ⟨g,0,none⟩ (.slice A m c)∧Lf w' g A m c (L.drop k)
theorem LV(u:Nat)(c:UInt8)(h:u<72057594037927936):bits .or .u64 ((u:Int)*256) (c.toNat:Int)=((u*256+c.toNat:Nat):Int):=by
 have b:=c.toNat_lt;have a:=bits_or_u64_nat (u*256) c.toNat jo jo
 have d:u*256 ||| c.toNat=u*256+c.toNat:=by
  have:=Nat.two_pow_add_eq_or_of_lt (i:=8) b u;rw[show u*256=2 ^ 8*u by omega];exact this.symm
 rw[show (u:Int)*256=((u*256:Nat):Int) by omega,a,d]
theorem yf(w:World)(g:Nat)(A:Option Addr)(m c k:Nat)(L:List UInt8)(h:Lf w g A m c L)(hm:m≤140737488351232)(hk:k≤8) :
  Calls prog 111 #[.pointer (some ⟨g,0,none⟩),.int .i64 (k:Int)] w (NumTo w g L k):=by
 have H:=p8 w g A m c k L h hm jo;clear h;go_enter func111,ntmps111;go_wp2_with fail;refine H.mono ?_;rintro e J ⟨A,y,X,Y,Z,rfl,d,F,O,r,G,I⟩;have U:=zh G;have Fin:Hid (∃A m c,J=w.setCell ⟨g,0,none⟩ (.slice A m c)∧Lf J g A m c (L.drop k)):=zh ⟨_,_,_,F,I⟩;have f:(L.take k).length=min k y:=by rw[zK,d]
 have D:min k y≤8:=jo;generalize min k y=n at *;generalize E:L.take k=M at *;have P:=zh E;clear E;have x:=zh f;clear H F G I d f hm r;go_wp2_with fail
 go_loop [5,12] (fun u i=>∃j:Nat,j≤n∧i=.int .i64 j∧u=.int .u64 (num (M.take j):Nat)) (fun _ i=>n-(intOf i).toNat)
 case atStart=>exact⟨0,zS _,rfl,rfl⟩
 obtain⟨j,V,rfl,rfl⟩:=hrel;by_cases p:j<n
 ·have z:j<M.length:=by rw[x.out];exact p
  obtain⟨b,o,W,rfl,T,C⟩:=U.out.at_map p
  have t:num (M.take (j+1))=num (M.take j)*256+M[j].toNat:=by
   rw[zL z,BO]
  have a:=rY (M.take j)
  have s:num (M.take j)<72057594037927936:=by
   rw[zK,Nat.min_eq_left jo]at a;exact zT a (zY (Nat.pow_le_pow_right jo (show j≤7 by omega)) jd)
  have Hts:=zh t;clear t a;generalize num (M.take j)=u at *;generalize M[j]=q at *;have hq:=q.toNat_lt;have R:=LV u q s;have B:(0:Int)≤(u:Int):=jo;have v:(u:Int)<72057594037927936:=jo;go_wp2
  go_round
  case rel=>exact⟨j+1,jo,ju,by rw[Hts.out];go_num⟩
  simp[intOf];omega
 obtain rfl:j=n:=jo;have S:Hid (M.take j=M):=zh (zR (by rw[x.out];exact zG _));rw[S.out];have a:=rY M
 have s:num M<18446744073709551616:=by
  rw[x.out]at a;exact zT a (zY (Nat.pow_le_pow_right jo D) jd)
 clear a;generalize l:num M=u at *;have N:=zh l;clear l;have B:(0:Int)≤(u:Int):=jo;have v:(u:Int)<18446744073709551616:=jo;go_wp2;go_ret;exact⟨by rw[P.out,N.out];rfl,Fin.out⟩
end Cu
end Go.Proofs.YtmomjpolkkbhnaaGreat
