/- The reference's With, the row in memory. Printed by genwith.py. -/
import Derived.Test.YtmomjpolkkbhnaaGreatQModelCountsRow19
set_option maxRecDepth 20000
set_option maxHeartbeats 100000000
set_option linter.unusedSimpArgs false
open Go.Proofs.Tryz
namespace Go.Proofs.YtmomjpolkkbhnaaGreat
namespace Hi
open Go.RowKit
theorem F5(k x:Int):bkC [(k,x)]=[Value.int .i64 k,Value.int .i64 x]:=rfl
theorem jb{w:World}(k x:Int):∀j u,(bkC [(k,x)])[j]?=some u→(w.alloc (.cells #[.int .i64 k,.int .i64 x] 91)).cell? ((⟨w.heap.size,0,none⟩:Addr).add j)=some u:=fun j u hj=>by
 rw[add_lit,zf,(Blk.new w 91 #[.int .i64 k,.int .i64 x]).cell j];rw[F5]at hj
 simpa using hj
def dU(w:World)(l:List Bk)(k n:Int)(e:Ending)(w':World):Prop:=
 ∃v',e=.returned (.tuple #[v',.bool (bG l k n).2])∧Row w.heap.size w w' v' (bG l k n).1
theorem F6(b o c:Nat)(l:List Bk)(k n:Int)(w:World)(hR:Reads w w.heap.size 2 (some ⟨b,o,none⟩) l.length (bkC l))(hc:l.length≤c)(hl:l.length≤1000000)(hn:1≤n)(hn2:n≤9223372036854775807)(h1:∀b∈l,1≤b.2)(hlt0:pos l k<l.length)(hk:(l[pos l k]'hlt0).1=k)(hbig:bA<n∨bA-n<(l[pos l k]'hlt0).2) :
  Calls prog 38 #[.slice (some ⟨b,o,none⟩) l.length c,.int .i64 k,.int .i64 n] w (dU w l k n):=by
 obtain⟨inf,hi0,hz0,hz1,hz2⟩:=info_parts fw;have HR:=zh hR;have R0:=zh (Row.empty w);have Hlo:=zh (fun i (h:i<pos l k)=>iK l k i h);have hp:=gA l k;have L1:Hid ((bkC (l.take (pos l k))).length=pos l k*2):=zh (by rw[dL,zK];omega);have L1':Hid ((l.take (pos l k)).length=pos l k):=zh jw;have hgd:l.getD (pos l k) (0,0)=l[pos l k]:=by rw[List.getD_eq_getElem?_getD,zU hlt0];rfl
 have F:Hid (bG l k n=([],false)):=zh (by unfold bG;rw[zI ⟨hlt0,by rw[hgd];exact hk⟩,hgd,zI hbig]);obtain⟨bb,oo,e',hbb,d1,d2⟩:=eG hR rfl hlt0
 cases e';rw[hk]at d1;have hone:=h1 _ (za hlt0);have hw:IntKind.i64.wrap (1099511627776-n)=1099511627776-n:=IntWalk.i64_in _ jo;unfold bA at hbig;clear hR;unfold dU;clear hgd hk h1;generalize l[pos l k].2=y at *;generalize pos l k=p at *;go_enter func38,ntmps38;go_wp2;go_loopw [8] (fun i wr=>∃j:Nat,j≤p∧i=.int .i64 j∧wr=w) (fun i _=>l.length-(intOf i).toNat)
 case atStart=>exact⟨0,zS _,rfl,rfl⟩
 obtain⟨j,hj,rfl,rfl⟩:=hrel;by_cases hlt:j<p
 ·obtain⟨hjl,hjk⟩:=Hlo.out j hlt;obtain⟨bb,oo,e',hbb,d1,d2⟩:=eG HR.out rfl hjl
  cases e';clear d2;generalize l[j].1=x at *;go_wp2;go_roundw
  case rel=>exact⟨j+1,jo,ju,trivial⟩
  simp[intOf];omega
 obtain rfl:j=p:=jo;go_wp2_with (at_builtin;refine vH _ rfl _ _ 40 rfl wr.heap.size 91 inf _ 2 16 underlying40 hi0 hz0 hz1 hz2 rfl jd (.slice (some ⟨wr.heap.size,0,none⟩) 0 0) 0 (bkC []) rfl R0.out.own ⟨b,o,none⟩ j c (bkC (l.take j)) rfl L1.out ?a1 (cg _) ?a3 ?a4 ?a5 ?_)
 case a1=>
  intro i u hu;rw[add_lit,World.cell?_alloc_lt]
  ·rw[dx,List.getElem?_take]at hu
   split at hu
   ·exact(dP HR.out i u hu).2
   cases hu
  rw[dx,List.getElem?_take]at hu
  split at hu
  ·exact(dP HR.out i u hu).1
  cases hu
 case a3=>unfold maxLen;omega
 case a4=>omega
 case a5=>first|omega|(rw[vK];omega)
 intro v1 w1 ho1 hg1 _;have R1:Hid (Row wr.heap.size wr w1 v1 (l.take j)):=zh (R0.out.app (by rw[vK];omega) L1'.out (by rw[List.length_nil,zf];exact ho1) hg1);have hs1:=R1.out.bel.size;clear ho1 hg1;have d1':=(R1.out.bel.cell (p:=⟨b,o+j*2,none⟩) hbb).trans d1;have d2':=(R1.out.bel.cell (p:=⟨b,o+j*2+1,none⟩) hbb).trans d2;go_wp2;all_goals go_ret2
 all_goals exact⟨.slice none 0 0,by rw[F.out];rfl,by rw[F.out];exact Row.start _ _ _ R1.out.bel⟩
theorem F7(b o c:Nat)(l:List Bk)(k n:Int)(w:World)(hR:Reads w w.heap.size 2 (some ⟨b,o,none⟩) l.length (bkC l))(hc:l.length≤c)(hl:l.length≤1000000)(hn:1≤n)(hn2:n≤9223372036854775807)(h1:∀b∈l,1≤b.2)(hlt0:pos l k<l.length)(hk:(l[pos l k]'hlt0).1=k)(hbig:¬(bA<n∨bA-n<(l[pos l k]'hlt0).2))(hcc:¬c=pos l k+1) :
    Calls prog 38 #[.slice (some ⟨b,o,none⟩) l.length c,.int .i64 k,.int .i64 n] w (dU w l k n):=by
  obtain⟨inf,hi0,hz0,hz1,hz2⟩:=info_parts fw;have HR:=zh hR;have R0:=zh (Row.empty w);have Hlo:=zh (fun i (h:i<pos l k)=>iK l k i h);have hp:=gA l k;have L1:Hid ((bkC (l.take (pos l k))).length=pos l k*2):=zh (by rw[dL,zK];omega);have L1':Hid ((l.take (pos l k)).length=pos l k):=zh jw;have hgd:l.getD (pos l k) (0,0)=l[pos l k]:=by rw[List.getD_eq_getElem?_getD,zU hlt0];rfl
  have F:Hid (bG l k n=(l.set (pos l k) (k,l[pos l k].2+n),true)):=zh (by unfold bG;rw[zI ⟨hlt0,by rw[hgd];exact hk⟩,hgd,zH hbig]);have FE:Hid (l.take (pos l k) ++ [(k,l[pos l k].2+n)]++l.drop (pos l k+1)=l.set (pos l k) (k,l[pos l k].2+n)):=zh (by rw[List.set_eq_take_append_cons_drop,zI hlt0,List.append_assoc];rfl);have L3:Hid ((bkC (l.drop (pos l k+1))).length=(l.length-(pos l k+1))*2):=zh (by rw[dL,zP]);have L3':Hid ((l.drop (pos l k+1)).length=l.length-(pos l k+1)):=zh (by rw[zP]);obtain⟨bb,oo,e',hbb,d1,d2⟩:=eG hR rfl hlt0
  cases e';rw[hk]at d1;have hone:=h1 _ (za hlt0);have hw:IntKind.i64.wrap (1099511627776-n)=1099511627776-n:=IntWalk.i64_in _ (by unfold bA at hbig;omega);have hw2:IntKind.i64.wrap (l[pos l k].2+n)=l[pos l k].2+n:=IntWalk.i64_in _ (by unfold bA at hbig;omega);have hb1:¬1099511627776<n:=by unfold bA at hbig;omega
  have hb2:¬1099511627776-n<l[pos l k].2:=by unfold bA at hbig;omega
  clear hR;unfold dU;clear hgd hk h1 hbig;generalize l[pos l k].2=y at *;generalize pos l k=p at *;go_enter func38,ntmps38;go_wp2;go_loopw [8] (fun i wr=>∃j:Nat,j≤p∧i=.int .i64 j∧wr=w) (fun i _=>l.length-(intOf i).toNat)
  case atStart=>exact⟨0,zS _,rfl,rfl⟩
  obtain⟨j,hj,rfl,rfl⟩:=hrel;by_cases hlt:j<p
  · obtain⟨hjl,hjk⟩:=Hlo.out j hlt;obtain⟨bb,oo,e',hbb,d1,d2⟩:=eG HR.out rfl hjl
    cases e';clear d2;generalize l[j].1=x at *;go_wp2;go_roundw
    case rel=>exact⟨j+1,jo,ju,trivial⟩
    simp[intOf];omega
  obtain rfl:j=p:=jo;go_wp2_with (at_builtin;refine vH _ rfl _ _ 40 rfl wr.heap.size 91 inf _ 2 16 underlying40 hi0 hz0 hz1 hz2 rfl jd (.slice (some ⟨wr.heap.size,0,none⟩) 0 0) 0 (bkC []) rfl R0.out.own ⟨b,o,none⟩ j c (bkC (l.take j)) rfl L1.out ?a1 (cg _) ?a3 ?a4 ?a5 ?_)
  case a1=>
    intro i u hu;rw[add_lit,World.cell?_alloc_lt]
    · rw[dx,List.getElem?_take]at hu
      split at hu
      · exact(dP HR.out i u hu).2
      cases hu
    rw[dx,List.getElem?_take]at hu
    split at hu
    · exact(dP HR.out i u hu).1
    cases hu
  case a3=>unfold maxLen;omega
  case a4=>omega
  case a5=>first|omega|(rw[vK];omega)
  intro v1 w1 ho1 hg1 _;have R1:Hid (Row wr.heap.size wr w1 v1 (l.take j)):=zh (R0.out.app (by rw[vK];omega) L1'.out (by rw[List.length_nil,zf];exact ho1) hg1);have hs1:=R1.out.bel.size;clear ho1 hg1;have d1':=(R1.out.bel.cell (p:=⟨b,o+j*2,none⟩) hbb).trans d1;have d2':=(R1.out.bel.cell (p:=⟨b,o+j*2+1,none⟩) hbb).trans d2;have hjn:j+1≤l.length:=jo;have hw3:IntKind.i64.wrap ((j:Int)+1)=(j:Int)+1:=IntWalk.i64_in _ jo;have htn:((j:Int)+1).toNat=j+1:=jo;have hb3:(0:Int)≤(j:Int)+1:=jo;have hb4:(j:Int)+1≤(l.length:Int):=jo;have hl1:(l.take j).length≤1000000:=jw;go_wp2_with (at_builtin;refine vH _ rfl _ _ 40 rfl wr.heap.size 91 inf _ 2 16 underlying40 hi0 hz0 hz1 hz2 rfl jd v1 (l.take j).length (bkC (l.take j)) rfl (R1.out.more hs1 _).own ⟨w1.heap.size,0,none⟩ 1 1 (bkC [(k,y+n)]) rfl rfl (jb k (y+n)) (cg _) ?a3 ?a4 ?a5 ?_)
  case a3=>unfold maxLen;omega
  case a4=>omega
  case a5=>first|omega|(rw[vK];omega)
  intro v2 w2 ho2 hg2 _;have R2:Hid (Row wr.heap.size wr w2 v2 (l.take j ++ [(k,y+n)])):=zh ((R1.out.more hs1 _).app (by first|omega|(rw[vK];omega)) rfl (by rw[L1'.out];exact ho2) hg2);have hs2:=R2.out.bel.size;clear ho2 hg2;have hl2:(l.take j ++ [(k,y+n)]).length≤1000001:=by rw[zJ];simp only[zV,List.length_nil];omega
  go_wp2_with (at_builtin;refine vH _ rfl _ _ 40 rfl wr.heap.size 91 inf _ 2 16 underlying40 hi0 hz0 hz1 hz2 rfl jd v2 (l.take j ++ [(k,y+n)]).length (bkC (l.take j ++ [(k,y+n)])) rfl R2.out.own ⟨b,o+(j+1)*2,none⟩ (l.length-(j+1)) (c-(j+1)) (bkC (l.drop (j+1))) rfl L3.out ?a1 (cg _) ?a3 ?a4 hs2 ?_)
  case a1=>
    intro i u hu;rw[add_lit];rw[lH,List.getElem?_drop]at hu;obtain⟨h1,h2⟩:=dP HR.out _ u hu;rw[Nat.add_assoc o];exact(R2.out.bel.cell (p:=⟨b,_,none⟩) h1).trans h2
  case a3=>unfold maxLen;omega
  case a4=>omega
  intro v3 w3 ho3 hg3 _
  have R3:=zh (R2.out.app hs2 L3'.out (by
    have e:(l.take j ++ [(k,y+n)]).length=j+1:=by rw[zJ,L1'.out];rfl
    rw[e]
    first
      | exact ho3
      | (have e2:j+1+(l.length-(j+1))=l.length:=by omega
         rw[e2]
         exact ho3)) hg3)
  clear ho3 hg3;go_wp2;go_ret2;exact⟨v3,by rw[F.out];rfl,by rw[F.out];exact FE.out ▸ R3.out⟩
theorem EH(b o c:Nat)(l:List Bk)(k n:Int)(w:World)(hR:Reads w w.heap.size 2 (some ⟨b,o,none⟩) l.length (bkC l))(hc:l.length≤c)(hl:l.length≤1000000)(hn:1≤n)(hn2:n≤9223372036854775807)(h1:∀b∈l,1≤b.2)(hlt0:pos l k<l.length)(hk:(l[pos l k]'hlt0).1=k)(hbig:¬(bA<n∨bA-n<(l[pos l k]'hlt0).2))(hcc:c=pos l k+1) :
  Calls prog 38 #[.slice (some ⟨b,o,none⟩) l.length c,.int .i64 k,.int .i64 n] w (dU w l k n):=by
 obtain⟨inf,hi0,hz0,hz1,hz2⟩:=info_parts fw;have HR:=zh hR;have R0:=zh (Row.empty w);have Hlo:=zh (fun i (h:i<pos l k)=>iK l k i h);have hp:=gA l k;have L1:Hid ((bkC (l.take (pos l k))).length=pos l k*2):=zh (by rw[dL,zK];omega);have L1':Hid ((l.take (pos l k)).length=pos l k):=zh jw;have hgd:l.getD (pos l k) (0,0)=l[pos l k]:=by rw[List.getD_eq_getElem?_getD,zU hlt0];rfl
 have F:Hid (bG l k n=(l.set (pos l k) (k,l[pos l k].2+n),true)):=zh (by unfold bG;rw[zI ⟨hlt0,by rw[hgd];exact hk⟩,hgd,zH hbig]);have FE:Hid (l.take (pos l k) ++ [(k,l[pos l k].2+n)]++l.drop (pos l k+1)=l.set (pos l k) (k,l[pos l k].2+n)):=zh (by rw[List.set_eq_take_append_cons_drop,zI hlt0,List.append_assoc];rfl);have L3:Hid ((bkC (l.drop (pos l k+1))).length=(l.length-(pos l k+1))*2):=zh (by rw[dL,zP]);have L3':Hid ((l.drop (pos l k+1)).length=l.length-(pos l k+1)):=zh (by rw[zP]);obtain⟨bb,oo,e',hbb,d1,d2⟩:=eG hR rfl hlt0
 cases e';rw[hk]at d1;have hone:=h1 _ (za hlt0);have hw:IntKind.i64.wrap (1099511627776-n)=1099511627776-n:=IntWalk.i64_in _ (by unfold bA at hbig;omega);have hw2:IntKind.i64.wrap (l[pos l k].2+n)=l[pos l k].2+n:=IntWalk.i64_in _ (by unfold bA at hbig;omega);have hb1:¬1099511627776<n:=by unfold bA at hbig;omega
 have hb2:¬1099511627776-n<l[pos l k].2:=by unfold bA at hbig;omega
 clear hR;unfold dU;clear hgd hk h1 hbig;generalize l[pos l k].2=y at *;generalize pos l k=p at *;subst hcc;go_enter func38,ntmps38;go_wp2;go_loopw [8] (fun i wr=>∃j:Nat,j≤p∧i=.int .i64 j∧wr=w) (fun i _=>l.length-(intOf i).toNat)
 case atStart=>exact⟨0,zS _,rfl,rfl⟩
 obtain⟨j,hj,rfl,rfl⟩:=hrel;by_cases hlt:j<p
 ·obtain⟨hjl,hjk⟩:=Hlo.out j hlt;obtain⟨bb,oo,e',hbb,d1,d2⟩:=eG HR.out rfl hjl
  cases e';clear d2;generalize l[j].1=x at *;go_wp2;go_roundw
  case rel=>exact⟨j+1,jo,ju,trivial⟩
  simp[intOf];omega
 obtain rfl:j=p:=jo;go_wp2_with (at_builtin;refine vH _ rfl _ _ 40 rfl wr.heap.size 91 inf _ 2 16 underlying40 hi0 hz0 hz1 hz2 rfl jd (.slice (some ⟨wr.heap.size,0,none⟩) 0 0) 0 (bkC []) rfl R0.out.own ⟨b,o,none⟩ j (j+1) (bkC (l.take j)) rfl L1.out ?a1 (cg _) ?a3 ?a4 ?a5 ?_)
 case a1=>
  intro i u hu;rw[add_lit,World.cell?_alloc_lt]
  ·rw[dx,List.getElem?_take]at hu
   split at hu
   ·exact(dP HR.out i u hu).2
   cases hu
  rw[dx,List.getElem?_take]at hu
  split at hu
  ·exact(dP HR.out i u hu).1
  cases hu
 case a3=>unfold maxLen;omega
 case a4=>omega
 case a5=>first|omega|(rw[vK];omega)
 intro v1 w1 ho1 hg1 _;have R1:Hid (Row wr.heap.size wr w1 v1 (l.take j)):=zh (R0.out.app (by rw[vK];omega) L1'.out (by rw[List.length_nil,zf];exact ho1) hg1);have hs1:=R1.out.bel.size;clear ho1 hg1;have d1':=(R1.out.bel.cell (p:=⟨b,o+j*2,none⟩) hbb).trans d1;have d2':=(R1.out.bel.cell (p:=⟨b,o+j*2+1,none⟩) hbb).trans d2;have hjn:j+1≤l.length:=jo;have hw3:IntKind.i64.wrap ((j:Int)+1)=(j:Int)+1:=IntWalk.i64_in _ jo;have htn:((j:Int)+1).toNat=j+1:=jo;have hb3:(0:Int)≤(j:Int)+1:=jo;have hb4:(j:Int)+1≤(l.length:Int):=jo;have hl1:(l.take j).length≤1000000:=jw;go_wp2_with (at_builtin;refine vH _ rfl _ _ 40 rfl wr.heap.size 91 inf _ 2 16 underlying40 hi0 hz0 hz1 hz2 rfl jd v1 (l.take j).length (bkC (l.take j)) rfl (R1.out.more hs1 _).own ⟨w1.heap.size,0,none⟩ 1 1 (bkC [(k,y+n)]) rfl rfl (jb k (y+n)) (cg _) ?a3 ?a4 ?a5 ?_)
 case a3=>unfold maxLen;omega
 case a4=>omega
 case a5=>first|omega|(rw[vK];omega)
 intro v2 w2 ho2 hg2 _;have R2:Hid (Row wr.heap.size wr w2 v2 (l.take j ++ [(k,y+n)])):=zh ((R1.out.more hs1 _).app (by first|omega|(rw[vK];omega)) rfl (by rw[L1'.out];exact ho2) hg2);have hs2:=R2.out.bel.size;clear ho2 hg2;have hl2:(l.take j ++ [(k,y+n)]).length≤1000001:=by rw[zJ];simp only[zV,List.length_nil];omega
 have hd0:l.drop (j+1)=[]:=List.drop_eq_nil_of_le jo;go_wp2_with (at_builtin;refine vH _ rfl _ _ 40 rfl wr.heap.size 91 inf _ 2 16 underlying40 hi0 hz0 hz1 hz2 rfl jd v2 (l.take j ++ [(k,y+n)]).length (bkC (l.take j ++ [(k,y+n)])) rfl R2.out.own ⟨b,o,none⟩ 0 0 (bkC []) rfl rfl ?a1 (cg _) ?a3 ?a4 hs2 ?_)
 case a1=>
  intro i u hu
  cases hu
 case a3=>unfold maxLen;omega
 case a4=>omega
 intro v3 w3 ho3 hg3 _
 have R3:Hid (Row wr.heap.size wr w3 v3 (l.take j ++ [(k,y+n)]++l.drop (j+1))):=zh (by
  rw[hd0]
  exact R2.out.app hs2 rfl (by
   have e:(l.take j ++ [(k,y+n)]).length=j+1:=by rw[zJ,L1'.out];rfl
   rw[e]
   exact ho3) hg3)
 clear ho3 hg3 hd0;go_wp2;go_ret2;exact⟨v3,by rw[F.out];rfl,by rw[F.out];exact FE.out ▸ R3.out⟩
theorem F8(b o c:Nat)(l:List Bk)(k n:Int)(w:World)(hR:Reads w w.heap.size 2 (some ⟨b,o,none⟩) l.length (bkC l))(hc:l.length≤c)(hl:l.length≤1000000)(hlt0:pos l k<l.length)(hk:k<(l[pos l k]'hlt0).1) :
    Calls prog 38 #[.slice (some ⟨b,o,none⟩) l.length c,.int .i64 k,.int .i64 n] w (dU w l k n):=by
  obtain⟨inf,hi0,hz0,hz1,hz2⟩:=info_parts fw;have HR:=zh hR;have R0:=zh (Row.empty w);have Hlo:=zh (fun i (h:i<pos l k)=>iK l k i h);have hp:=gA l k;have L1:Hid ((bkC (l.take (pos l k))).length=pos l k*2):=zh (by rw[dL,zK];omega);have L1':Hid ((l.take (pos l k)).length=pos l k):=zh jw;have hgd:l.getD (pos l k) (0,0)=l[pos l k]:=by rw[List.getD_eq_getElem?_getD,zU hlt0];rfl
  have hff:¬(pos l k<l.length∧(l.getD (pos l k) (0,0)).1=k):=fun h=>by rw[hgd]at h;omega
  obtain⟨bb,oo,e',hbb,d1,d2⟩:=eG hR rfl hlt0
  cases e';clear hgd d2;have hcc:¬c=pos l k:=jo;have F:Hid (bG l k n=(l.take (pos l k)++(k,n)::l.drop (pos l k),decide (n≤bA))):=zh (by unfold bG;rw[zH hff]);have FE:Hid (l.take (pos l k) ++ [(k,n)]++l.drop (pos l k)=l.take (pos l k)++(k,n)::l.drop (pos l k)):=zh (by rw[List.append_assoc];rfl);have L3:Hid ((bkC (l.drop (pos l k))).length=(l.length-pos l k)*2):=zh (by rw[dL,zP]);have L3':Hid ((l.drop (pos l k)).length=l.length-pos l k):=zh (by rw[zP]);clear hR;unfold dU;clear hff;generalize l[pos l k].1=z at *;generalize pos l k=p at *;go_enter func38,ntmps38;go_wp2;go_loopw [8] (fun i wr=>∃j:Nat,j≤p∧i=.int .i64 j∧wr=w) (fun i _=>l.length-(intOf i).toNat)
  case atStart=>exact⟨0,zS _,rfl,rfl⟩
  obtain⟨j,hj,rfl,rfl⟩:=hrel;by_cases hlt:j<p
  · obtain⟨hjl,hjk⟩:=Hlo.out j hlt;obtain⟨bb,oo,e',hbb,d1,d2⟩:=eG HR.out rfl hjl
    cases e';clear d2;generalize l[j].1=x at *;go_wp2;go_roundw
    case rel=>exact⟨j+1,jo,ju,trivial⟩
    simp[intOf];omega
  obtain rfl:j=p:=jo;go_wp2_with (at_builtin;refine vH _ rfl _ _ 40 rfl wr.heap.size 91 inf _ 2 16 underlying40 hi0 hz0 hz1 hz2 rfl jd (.slice (some ⟨wr.heap.size,0,none⟩) 0 0) 0 (bkC []) rfl R0.out.own ⟨b,o,none⟩ j c (bkC (l.take j)) rfl L1.out ?a1 (cg _) ?a3 ?a4 ?a5 ?_)
  case a1=>
    intro i u hu;rw[add_lit,World.cell?_alloc_lt]
    · rw[dx,List.getElem?_take]at hu
      split at hu
      · exact(dP HR.out i u hu).2
      cases hu
    rw[dx,List.getElem?_take]at hu
    split at hu
    · exact(dP HR.out i u hu).1
    cases hu
  case a3=>unfold maxLen;omega
  case a4=>omega
  case a5=>first|omega|(rw[vK];omega)
  intro v1 w1 ho1 hg1 _;have R1:Hid (Row wr.heap.size wr w1 v1 (l.take j)):=zh (R0.out.app (by rw[vK];omega) L1'.out (by rw[List.length_nil,zf];exact ho1) hg1);have hs1:=R1.out.bel.size;clear ho1 hg1;have d1':=(R1.out.bel.cell (p:=⟨b,o+j*2,none⟩) hbb).trans d1;have hne:¬z=k:=jo;have hnl:¬z<k:=jo;have hl1:(l.take j).length≤1000000:=jw;go_wp2_with (at_builtin;refine vH _ rfl _ _ 40 rfl wr.heap.size 91 inf _ 2 16 underlying40 hi0 hz0 hz1 hz2 rfl jd v1 (l.take j).length (bkC (l.take j)) rfl (R1.out.more hs1 _).own ⟨w1.heap.size,0,none⟩ 1 1 (bkC [(k,n)]) rfl rfl (jb k (n)) (cg _) ?a3 ?a4 ?a5 ?_)
  case a3=>unfold maxLen;omega
  case a4=>omega
  case a5=>first|omega|(rw[vK];omega)
  intro v2 w2 ho2 hg2 _;have R2:Hid (Row wr.heap.size wr w2 v2 (l.take j ++ [(k,n)])):=zh ((R1.out.more hs1 _).app (by first|omega|(rw[vK];omega)) rfl (by rw[L1'.out];exact ho2) hg2);have hs2:=R2.out.bel.size;clear ho2 hg2;have hl2:(l.take j ++ [(k,n)]).length≤1000001:=by rw[zJ];simp only[zV,List.length_nil];omega
  go_wp2_with (at_builtin;refine vH _ rfl _ _ 40 rfl wr.heap.size 91 inf _ 2 16 underlying40 hi0 hz0 hz1 hz2 rfl jd v2 (l.take j ++ [(k,n)]).length (bkC (l.take j ++ [(k,n)])) rfl R2.out.own ⟨b,o+j*2,none⟩ (l.length-j) (c-j) (bkC (l.drop j)) rfl L3.out ?a1 (cg _) ?a3 ?a4 hs2 ?_)
  case a1=>
    intro i u hu;rw[add_lit];rw[lH,List.getElem?_drop]at hu;obtain⟨h1,h2⟩:=dP HR.out _ u hu;rw[Nat.add_assoc o];exact(R2.out.bel.cell (p:=⟨b,_,none⟩) h1).trans h2
  case a3=>unfold maxLen;omega
  case a4=>omega
  intro v3 w3 ho3 hg3 _
  have R3:=zh (R2.out.app hs2 L3'.out (by
    have e:(l.take j ++ [(k,n)]).length=j+1:=by rw[zJ,L1'.out];rfl
    rw[e]
    first
      | exact ho3
      | (have e2:j+1+(l.length-j)=l.length:=by omega
         rw[e2]
         exact ho3)) hg3)
  clear ho3 hg3;go_wp2;go_ret2;exact⟨v3,by rw[F.out];rfl,by rw[F.out];exact FE.out ▸ R3.out⟩
theorem F9(b o c:Nat)(l:List Bk)(k n:Int)(w:World)(hR:Reads w w.heap.size 2 (some ⟨b,o,none⟩) l.length (bkC l))(hc:l.length≤c)(hl:l.length≤1000000)(hlt0:¬pos l k<l.length)(hcc:¬c=pos l k) :
    Calls prog 38 #[.slice (some ⟨b,o,none⟩) l.length c,.int .i64 k,.int .i64 n] w (dU w l k n):=by
  obtain⟨inf,hi0,hz0,hz1,hz2⟩:=info_parts fw;have HR:=zh hR;have R0:=zh (Row.empty w);have Hlo:=zh (fun i (h:i<pos l k)=>iK l k i h);have hp:=gA l k;have L1:Hid ((bkC (l.take (pos l k))).length=pos l k*2):=zh (by rw[dL,zK];omega);have L1':Hid ((l.take (pos l k)).length=pos l k):=zh jw;have hff:¬(pos l k<l.length∧(l.getD (pos l k) (0,0)).1=k):=fun h=>by omega
  have F:Hid (bG l k n=(l.take (pos l k)++(k,n)::l.drop (pos l k),decide (n≤bA))):=zh (by unfold bG;rw[zH hff]);have FE:Hid (l.take (pos l k) ++ [(k,n)]++l.drop (pos l k)=l.take (pos l k)++(k,n)::l.drop (pos l k)):=zh (by rw[List.append_assoc];rfl);have L3:Hid ((bkC (l.drop (pos l k))).length=(l.length-pos l k)*2):=zh (by rw[dL,zP]);have L3':Hid ((l.drop (pos l k)).length=l.length-pos l k):=zh (by rw[zP]);clear hR;unfold dU;clear hff;generalize pos l k=p at *;go_enter func38,ntmps38;go_wp2;go_loopw [8] (fun i wr=>∃j:Nat,j≤p∧i=.int .i64 j∧wr=w) (fun i _=>l.length-(intOf i).toNat)
  case atStart=>exact⟨0,zS _,rfl,rfl⟩
  obtain⟨j,hj,rfl,rfl⟩:=hrel;by_cases hlt:j<p
  · obtain⟨hjl,hjk⟩:=Hlo.out j hlt;obtain⟨bb,oo,e',hbb,d1,d2⟩:=eG HR.out rfl hjl
    cases e';clear d2;generalize l[j].1=x at *;go_wp2;go_roundw
    case rel=>exact⟨j+1,jo,ju,trivial⟩
    simp[intOf];omega
  obtain rfl:j=p:=jo;go_wp2_with (at_builtin;refine vH _ rfl _ _ 40 rfl wr.heap.size 91 inf _ 2 16 underlying40 hi0 hz0 hz1 hz2 rfl jd (.slice (some ⟨wr.heap.size,0,none⟩) 0 0) 0 (bkC []) rfl R0.out.own ⟨b,o,none⟩ j c (bkC (l.take j)) rfl L1.out ?a1 (cg _) ?a3 ?a4 ?a5 ?_)
  case a1=>
    intro i u hu;rw[add_lit,World.cell?_alloc_lt]
    · rw[dx,List.getElem?_take]at hu
      split at hu
      · exact(dP HR.out i u hu).2
      cases hu
    rw[dx,List.getElem?_take]at hu
    split at hu
    · exact(dP HR.out i u hu).1
    cases hu
  case a3=>unfold maxLen;omega
  case a4=>omega
  case a5=>first|omega|(rw[vK];omega)
  intro v1 w1 ho1 hg1 _;have R1:Hid (Row wr.heap.size wr w1 v1 (l.take j)):=zh (R0.out.app (by rw[vK];omega) L1'.out (by rw[List.length_nil,zf];exact ho1) hg1);have hs1:=R1.out.bel.size;clear ho1 hg1;have hl1:(l.take j).length≤1000000:=jw;go_wp2_with (at_builtin;refine vH _ rfl _ _ 40 rfl wr.heap.size 91 inf _ 2 16 underlying40 hi0 hz0 hz1 hz2 rfl jd v1 (l.take j).length (bkC (l.take j)) rfl (R1.out.more hs1 _).own ⟨w1.heap.size,0,none⟩ 1 1 (bkC [(k,n)]) rfl rfl (jb k (n)) (cg _) ?a3 ?a4 ?a5 ?_)
  case a3=>unfold maxLen;omega
  case a4=>omega
  case a5=>first|omega|(rw[vK];omega)
  intro v2 w2 ho2 hg2 _;have R2:Hid (Row wr.heap.size wr w2 v2 (l.take j ++ [(k,n)])):=zh ((R1.out.more hs1 _).app (by first|omega|(rw[vK];omega)) rfl (by rw[L1'.out];exact ho2) hg2);have hs2:=R2.out.bel.size;clear ho2 hg2;have hl2:(l.take j ++ [(k,n)]).length≤1000001:=by rw[zJ];simp only[zV,List.length_nil];omega
  go_wp2_with (at_builtin;refine vH _ rfl _ _ 40 rfl wr.heap.size 91 inf _ 2 16 underlying40 hi0 hz0 hz1 hz2 rfl jd v2 (l.take j ++ [(k,n)]).length (bkC (l.take j ++ [(k,n)])) rfl R2.out.own ⟨b,o+j*2,none⟩ (l.length-j) (c-j) (bkC (l.drop j)) rfl L3.out ?a1 (cg _) ?a3 ?a4 hs2 ?_)
  case a1=>
    intro i u hu;rw[add_lit];rw[lH,List.getElem?_drop]at hu;obtain⟨h1,h2⟩:=dP HR.out _ u hu;rw[Nat.add_assoc o];exact(R2.out.bel.cell (p:=⟨b,_,none⟩) h1).trans h2
  case a3=>unfold maxLen;omega
  case a4=>omega
  intro v3 w3 ho3 hg3 _
  have R3:=zh (R2.out.app hs2 L3'.out (by
    have e:(l.take j ++ [(k,n)]).length=j+1:=by rw[zJ,L1'.out];rfl
    rw[e]
    first
      | exact ho3
      | (have e2:j+1+(l.length-j)=l.length:=by omega
         rw[e2]
         exact ho3)) hg3)
  clear ho3 hg3;go_wp2;go_ret2;exact⟨v3,by rw[F.out];rfl,by rw[F.out];exact FE.out ▸ R3.out⟩
theorem EI(b o c:Nat)(l:List Bk)(k n:Int)(w:World)(hR:Reads w w.heap.size 2 (some ⟨b,o,none⟩) l.length (bkC l))(hc:l.length≤c)(hl:l.length≤1000000)(hlt0:¬pos l k<l.length)(hcc:c=pos l k) :
  Calls prog 38 #[.slice (some ⟨b,o,none⟩) l.length c,.int .i64 k,.int .i64 n] w (dU w l k n):=by
 obtain⟨inf,hi0,hz0,hz1,hz2⟩:=info_parts fw;have HR:=zh hR;have R0:=zh (Row.empty w);have Hlo:=zh (fun i (h:i<pos l k)=>iK l k i h);have hp:=gA l k;have L1:Hid ((bkC (l.take (pos l k))).length=pos l k*2):=zh (by rw[dL,zK];omega);have L1':Hid ((l.take (pos l k)).length=pos l k):=zh jw;have hff:¬(pos l k<l.length∧(l.getD (pos l k) (0,0)).1=k):=fun h=>by omega
 have F:Hid (bG l k n=(l.take (pos l k)++(k,n)::l.drop (pos l k),decide (n≤bA))):=zh (by unfold bG;rw[zH hff]);have FE:Hid (l.take (pos l k) ++ [(k,n)]++l.drop (pos l k)=l.take (pos l k)++(k,n)::l.drop (pos l k)):=zh (by rw[List.append_assoc];rfl);have L3:Hid ((bkC (l.drop (pos l k))).length=(l.length-pos l k)*2):=zh (by rw[dL,zP]);have L3':Hid ((l.drop (pos l k)).length=l.length-pos l k):=zh (by rw[zP]);clear hR;unfold dU;clear hff;generalize pos l k=p at *;have hcc:=hcc.symm;subst hcc;go_enter func38,ntmps38;go_wp2;go_loopw [8] (fun i wr=>∃j:Nat,j≤p∧i=.int .i64 j∧wr=w) (fun i _=>l.length-(intOf i).toNat)
 case atStart=>exact⟨0,zS _,rfl,rfl⟩
 obtain⟨j,hj,rfl,rfl⟩:=hrel;by_cases hlt:j<p
 ·obtain⟨hjl,hjk⟩:=Hlo.out j hlt;obtain⟨bb,oo,e',hbb,d1,d2⟩:=eG HR.out rfl hjl
  cases e';clear d2;generalize l[j].1=x at *;go_wp2;go_roundw
  case rel=>exact⟨j+1,jo,ju,trivial⟩
  simp[intOf];omega
 obtain rfl:j=p:=jo;go_wp2_with (at_builtin;refine vH _ rfl _ _ 40 rfl wr.heap.size 91 inf _ 2 16 underlying40 hi0 hz0 hz1 hz2 rfl jd (.slice (some ⟨wr.heap.size,0,none⟩) 0 0) 0 (bkC []) rfl R0.out.own ⟨b,o,none⟩ j j (bkC (l.take j)) rfl L1.out ?a1 (cg _) ?a3 ?a4 ?a5 ?_)
 case a1=>
  intro i u hu;rw[add_lit,World.cell?_alloc_lt]
  ·rw[dx,List.getElem?_take]at hu
   split at hu
   ·exact(dP HR.out i u hu).2
   cases hu
  rw[dx,List.getElem?_take]at hu
  split at hu
  ·exact(dP HR.out i u hu).1
  cases hu
 case a3=>unfold maxLen;omega
 case a4=>omega
 case a5=>first|omega|(rw[vK];omega)
 intro v1 w1 ho1 hg1 _;have R1:Hid (Row wr.heap.size wr w1 v1 (l.take j)):=zh (R0.out.app (by rw[vK];omega) L1'.out (by rw[List.length_nil,zf];exact ho1) hg1);have hs1:=R1.out.bel.size;clear ho1 hg1;have hl1:(l.take j).length≤1000000:=jw;go_wp2_with (at_builtin;refine vH _ rfl _ _ 40 rfl wr.heap.size 91 inf _ 2 16 underlying40 hi0 hz0 hz1 hz2 rfl jd v1 (l.take j).length (bkC (l.take j)) rfl (R1.out.more hs1 _).own ⟨w1.heap.size,0,none⟩ 1 1 (bkC [(k,n)]) rfl rfl (jb k (n)) (cg _) ?a3 ?a4 ?a5 ?_)
 case a3=>unfold maxLen;omega
 case a4=>omega
 case a5=>first|omega|(rw[vK];omega)
 intro v2 w2 ho2 hg2 _;have R2:Hid (Row wr.heap.size wr w2 v2 (l.take j ++ [(k,n)])):=zh ((R1.out.more hs1 _).app (by first|omega|(rw[vK];omega)) rfl (by rw[L1'.out];exact ho2) hg2);have hs2:=R2.out.bel.size;clear ho2 hg2;have hl2:(l.take j ++ [(k,n)]).length≤1000001:=by rw[zJ];simp only[zV,List.length_nil];omega
 have hd0:l.drop j=[]:=List.drop_eq_nil_of_le jo;go_wp2_with (at_builtin;refine vH _ rfl _ _ 40 rfl wr.heap.size 91 inf _ 2 16 underlying40 hi0 hz0 hz1 hz2 rfl jd v2 (l.take j ++ [(k,n)]).length (bkC (l.take j ++ [(k,n)])) rfl R2.out.own ⟨b,o,none⟩ 0 0 (bkC []) rfl rfl ?a1 (cg _) ?a3 ?a4 hs2 ?_)
 case a1=>
  intro i u hu
  cases hu
 case a3=>unfold maxLen;omega
 case a4=>omega
 intro v3 w3 ho3 hg3 _
 have R3:Hid (Row wr.heap.size wr w3 v3 (l.take j ++ [(k,n)]++l.drop j)):=zh (by
  rw[hd0]
  exact R2.out.app hs2 rfl (by
   have e:(l.take j ++ [(k,n)]).length=j+1:=by rw[zJ,L1'.out];rfl
   rw[e]
   exact ho3) hg3)
 clear ho3 hg3 hd0;go_wp2;go_ret2;exact⟨v3,by rw[F.out];rfl,by rw[F.out];exact FE.out ▸ R3.out⟩
end Hi
end Go.Proofs.YtmomjpolkkbhnaaGreat
