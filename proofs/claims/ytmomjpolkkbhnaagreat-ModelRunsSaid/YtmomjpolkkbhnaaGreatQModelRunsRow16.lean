/- token.Phrase: the walk. -/
import Derived.Test.YtmomjpolkkbhnaaGreatQModelRunsRow8
set_option maxRecDepth 20000
set_option maxHeartbeats 100000000
set_option linter.unusedSimpArgs false
open Go.Proofs.Tryz
namespace Go.Proofs.YtmomjpolkkbhnaaGreat
namespace Qy
open Go.RowKit Ut Tk
def nv(l:List Nat):List Value:=l.map fun n:Nat=>Value.int .i64 (n:Int)
theorem K5(l:List Nat)(n:Nat):nv (l ++ [n])=nv l ++ [.int .i64 (n:Int)]:=by simp[nv]
structure Ints (w wr:World) (v:Value) (l:List Nat):Prop where
 own:wr.ownsRow w.heap.size 3 1 v l.length (nv l)
 bel:zWW w wr
theorem Ints.below{w wr w2:World}{v:Value}{l:List Nat}(h:Ints w wr v l)(hb:zWW wr w2):Ints w w2 v l:=
 ⟨h.own.kept (fH hb none) (by cases hv:v.ownBlock<;>simp),h.bel.trans (hb.mono h.bel.size)⟩
theorem Ints.put{w wr w2:World}{v v':Value}{l:List Nat}{n:Nat}(h:Ints w wr v l)(hp:w2.ownsRow w.heap.size 3 1 v' (l.length+1) (nv l ++ [.int .i64 (n:Int)]))(hg:wr.grownBy w2 v.ownBlock):Ints w w2 v' (l ++ [n]):=by
 refine⟨?_,h.bel.grown hg h.bel.size (fun k a=>(h.own.lt k a).1)⟩;rw[K5,zJ];exact hp
theorem Ints.start(w:World):Ints w w (.slice none 0 0) []:=⟨vO _ _ _ _,zy _ _⟩
def Bm(w:World)(l:List Nat)(e:Ending)(w':World):Prop:=∃v,e=.returned v∧Ints w w' v l
theorem FX(k j:Nat)(h:k+j<4611686018427387904)(w:World):Calls prog 159 #[.int .i64 (k:Int),.int .i64 ((k+j:Nat):Int),.int .i64 (j:Int)] w fun e w'=>e=.returned (.bool true)∧w=w':=by
 have i:(k:Int)≤((k+j:Nat):Int):=jo;have m:(0:Int)≤(k:Int):=jo;have g:(0:Int)≤(j:Int):=jo;have d:((k+j:Nat):Int)-(k:Int)=(j:Int):=jo;have f:((k+j:Nat):Int)<4611686018427387904:=jo;have n:(j:Int)<4611686018427387904:=jo;have l:(k:Int)<4611686018427387904:=jo;generalize ((k+j:Nat):Int)=a at *;generalize (k:Int)=b at *;generalize (j:Int)=c at *;go_enter func159,ntmps159;go_wp2;go_ret;exact⟨jz,rfl⟩
theorem FY(TA:Option Addr)(n tc:Nat)(T:List (List UInt8))(WA:Option Addr)(m wc:Nat)(ws:List ByteArray)(w:World)(hT:Reads w w.heap.size 2 TA n (iN (gm T)))(hn:T.length=n)(hn2:n≤1048576)
  (hW:Reads w w.heap.size 1 WA m (ws.map Value.string)) (hm:ws.length=m) (hm2:m≤8796093021952) :
  Calls prog 137 #[.slice TA n tc,.slice WA m wc] w (Bm w (phr T ws)):=by
 obtain⟨i0,J,ag,al,aa⟩:=info_parts uB;have HT:=zh hT;have HW:=zh hW;clear hT hW;by_cases h0:m=0
 ·have d:ws=[]:=List.length_eq_zero_iff.1 jo;have Fin:Hid (phr T ws=[]):=zh (by unfold phr;rw[zI d]);have aj:((m:Int)==0)=true:=by rw[beq_iff_eq];omega
  clear h0 d hm;go_enter func137,ntmps137;go_wp2_with fail
  go_step3
  go_wp2;rw[Exit.noGoto_ret];go_ret;exact⟨_,rfl,by rw[Fin.out];exact Ints.start w⟩
 have d:ws≠[]:=fun e=>h0 (by rw[←hm,e];rfl)
 have Fin:Hid (phr T ws=iI T ws n):=zh (by unfold phr;rw[zH d,hn]);have aj:((m:Int)==0)=false:=by rw[zM];omega
 have b:=zh hn;have U:=zh hm;clear h0 d hm hn;go_enter func137,ntmps137;go_wp2_with fail
 go_step3
 go_wp2_with fail
 go_step3
 go_wp2_with fail;go_loopw [5,16] (fun v i wr=>∃k:Nat,k≤n∧i=.int .i64 k∧Ints w wr v (iI T ws k)) (fun _ i _=>n-(intOf i).toNat)
 case atStart=>exact⟨0,zS _,rfl,Ints.start w⟩
 obtain⟨k,hk,rfl,z⟩:=hrel;by_cases g:k<n
 ·obtain⟨W,V,rfl,r,N,R⟩:=mR HT.out b.out (k:=k) (by rw[b.out];exact g);have aw:=(z.bel.cell (p:=⟨W,V+k*2,none⟩) r).trans N;have ar:=(z.bel.cell (p:=⟨W,V+k*2+1,none⟩) r).trans R;have S:=zh z;have hz:=z.bel.size;have aC:=AP T ws k;clear z N R;by_cases hs:n-k<m
  ·have ad:(n:Int)-(k:Int)<(m:Int):=jo;have Fin2:Hid (iI T ws n=iI T ws k):=zh (Eh T ws k (by rw[b.out,U.out];exact hs) n jo);have ai:=zh (S.out.below (zRR (.cells #[.string (str (T[k]'(by rw[b.out];exact g))),.int .i64 (k:Int)] 206)));generalize (str (T[k]'(by rw[b.out];exact g)))=tk at *;clear hs;go_wp2;rw[Exit.noGoto_ret];go_ret;exact⟨_,rfl,by rw[Fin.out,Fin2.out];exact ai.out⟩
  have ad:(m:Int)≤(n:Int)-(k:Int):=jo;have X:=zh ((Blk.new wr 206 #[.string (str (T[k]'(by rw[b.out];exact g))),.int .i64 (k:Int)]));generalize (str (T[k]'(by rw[b.out];exact g)))=tk at *;obtain⟨C,rfl⟩:∃C:World,C=wr:=⟨_,rfl⟩;have ap:m≤n-k:=jo;clear hs;go_wp2_with fail;go_loopw [30] (fun i wq=>∃j:Nat,j≤m∧i=.int .i64 j∧jh T ws k j=true∧Below (C.alloc (.cells #[.string tk,.int .i64 (k:Int)] 206)).heap.size (C.alloc (.cells #[.string tk,.int .i64 (k:Int)] 206)) wq) (fun i _=>m-(intOf i).toNat)
  case atStart=>exact⟨0,zS _,rfl,xQ _ _ _,zy _ _⟩
  obtain⟨j,hj,rfl,L,l⟩:=hrel;have f:=zh ((S.out.below (zRR (.cells #[.string tk,.int .i64 (k:Int)] 206))).below l);have Z:=X.out.below l jz;have Y:=Z.cell 0;have G:=Z.cell 1;simp at Y G;have Hbq:=zh l;have Hst:=zh L;have ah:=l.size;simp at ah;clear Z l L;by_cases af:j<m
  ·obtain⟨xb,xo,q,aD,H,O⟩:=mR HT.out b.out (k:=k+j) (by rw[b.out];omega);injection q with q;injection q with q e2;subst q e2;obtain⟨ab,ao,ax,rfl,am,F⟩:=HW.out.at_map af;have s:=f.out.bel;have ay:=(s.cell (p:=⟨W,V+(k+j)*2,none⟩) r).trans H;have au:=(s.cell (p:=⟨W,V+(k+j)*2+1,none⟩) r).trans O;have az:=(s.cell (p:=⟨ab,ao+j,none⟩) am).trans F;have A:=xR T ws k j (by rw[b.out];omega) (by rw[U.out];omega);have E:=Bg (T[k+j]'(by rw[b.out];omega)) ws[j];rw[Hst.out,Bool.true_and,←E]at A;have Hss:=zh A;have J:(0:Int)≤(k:Int)+(j:Int):=jo;have aB:(k:Int)+(j:Int)<(n:Int):=jo;have av:((k:Int)+(j:Int)).toNat=k+j:=jo
   have Hno:Hid (jh T ws k (j+1)=false→iI T ws (k+1)=iI T ws k):=zh (fun e=>by
    rw[qf,xk T ws k (j+1) (by rw[U.out];omega) e];simp)
   clear s H O F A E;generalize (str (T[k+j]'(by rw[b.out];omega)))=x at *;generalize ws[j]=y at *;by_cases a:(x.toList==y.toList)=true
   ·have D:(x.toList != y.toList)=false:=by rw[bne,a];rfl
    have B:Hid (jh T ws k (j+1)=true):=zh (by rw[Hss.out,a]);have c1:=fun wx=>FX k j jo wx
    have aq:=fun o=>(World.cell?_alloc_lt wr o ⟨C.heap.size,1,none⟩ (by show C.heap.size < _;omega)).trans G
    have M:=Hbq.out.alloc Hbq.out.size (.cells #[.string x,.int .i64 ((k+j:Nat):Int)] 206);have Hbx:=zh M;have C1:=zh c1;clear M c1;have q:((k+j:Nat):Int)=(k:Int)+(j:Int):=jo;rw[q]at C1;have E1:=zh q;clear q;go_wp2_with (go_at_call 159;refine(C1.out _).mono ?_;rintro e w' ⟨rfl,rfl⟩);go_roundw
    case rel=>exact⟨j+1,jo,ju,B.out,Hbx.out⟩
    simp[intOf];omega
   have D:(x.toList != y.toList)=true:=by rw[bne,Bool.eq_false_iff.2 a];rfl
   have B:=zh (Hno.out (by rw[Hss.out];exact Bool.eq_false_iff.2 a));have aA:(x.toList==y.toList)=false:=Bool.eq_false_iff.2 a;have ae:=zh (f.out.below (zRR (.cells #[.string x,.int .i64 ((k+j:Nat):Int)] 206)));clear a;go_wp2;go_roundw
   case rel=>exact⟨k+1,jo,ju,by rw[B.out];exact ae.out⟩
   simp[intOf];omega
  obtain rfl:j=m:=jo;have c:=Hst.out;have ak:=U.out;subst ak;rw[xY]at c;have Hph:Hid (iI T ws (k+1)=iI T ws k ++ [k]):=zh (by rw[qf,c];rfl);have t:=f.out.own;have an:=f.out.bel.size;clear c;generalize iI T ws k=P at *;go_wp2_with (at_builtin;refine vJ _ rfl _ _ 27 rfl w.heap.size 3 i0 _ 1 8 underlying27 J ag al aa rfl jd _ _ _ rfl (t.alloc _) ⟨wr.heap.size,0,none⟩ 1 1 [.int .i64 (k:Int)] rfl rfl ?d1 ?d2 ?d3 ?d4 ?d5 ?_)
  case d2=>first|rfl|(intro u hu;simp at hu;subst hu;rfl)
  case d3=>unfold maxLen;omega
  case d4=>omega
  case d5=>first|omega|(simp;omega)
  intro v' w5 h I _;have ac:=zh ((f.out.below (zRR _)).put h I);clear h I t;go_wp2;go_roundw
  case rel=>exact⟨k+1,jo,ju,by rw[Hph.out];exact ac.out⟩
  simp[intOf];omega
 obtain rfl:k=n:=jo;have S:=zh z;clear z;go_wp2;rw[Exit.noGoto_ret];go_ret;exact⟨_,rfl,by rw[Fin.out];exact S.out⟩
end Qy

namespace Hi
open Go.RowKit
theorem Js(k x:Int):bkC [(k,x)]=[Value.int .i64 k,Value.int .i64 x]:=rfl
theorem oZ{w:World}(k x:Int):∀j u,(bkC [(k,x)])[j]?=some u→(w.alloc (.cells #[.int .i64 k,.int .i64 x] 91)).cell? ((⟨w.heap.size,0,none⟩:Addr).add j)=some u:=fun j u a=>by
 rw[add_lit,zi,(Blk.new w 91 #[.int .i64 k,.int .i64 x]).cell j];rw[Js]at a
 simpa using a
def jp(w:World)(l:List Bk)(k n:Int)(e:Ending)(w':World):Prop:=
 ∃v',e=.returned (.tuple #[v',.bool (gN l k n).2])∧Row w.heap.size w w' v' (gN l k n).1
theorem Jt(b o c:Nat)(l:List Bk)(k n:Int)(w:World)(hR:Reads w w.heap.size 2 (some ⟨b,o,none⟩) l.length (bkC l))(hc:l.length≤c)(hl:l.length≤1000000)(hn:1≤n)(hn2:n≤9223372036854775807)(h1:∀b∈l,1≤b.2)(hlt0:pos l k<l.length)(hk:(l[pos l k]'hlt0).1=k)(hbig:gI<n∨gI-n<(l[pos l k]'hlt0).2) :
  Calls prog 38 #[.slice (some ⟨b,o,none⟩) l.length c,.int .i64 k,.int .i64 n] w (jp w l k n):=by
 obtain⟨r,s,v,E,q⟩:=info_parts l6;have G:=zh hR;have I:=zh (Row.empty w);have Hlo:=zh (fun i (h:i<pos l k)=>nM l k i h);have U:=mD l k;have J:Hid ((bkC (l.take (pos l k))).length=pos l k*2):=zh (by rw[jD,zK];omega);have t:Hid ((l.take (pos l k)).length=pos l k):=zh jw;have e:l.getD (pos l k) (0,0)=l[pos l k]:=by rw[List.getD_eq_getElem?_getD,zU hlt0];rfl
 have F:Hid (gN l k n=([],false)):=zh (by unfold gN;rw[zI ⟨hlt0,by rw[e];exact hk⟩,e,zI hbig]);obtain⟨R,M,D,d,C,A⟩:=jE hR rfl hlt0
 cases D;rw[hk]at C;have H:=h1 _ (za hlt0);have W:IntKind.i64.wrap (1099511627776-n)=1099511627776-n:=IntWalk.i64_in _ jo;unfold gI at hbig;clear hR;unfold jp;clear e hk h1;generalize l[pos l k].2=y at *;generalize pos l k=p at *;go_enter func38,ntmps38;go_wp2;go_loopw [8] (fun i wr=>∃j:Nat,j≤p∧i=.int .i64 j∧wr=w) (fun i _=>l.length-(intOf i).toNat)
 case atStart=>exact⟨0,zS _,rfl,rfl⟩
 obtain⟨j,V,rfl,rfl⟩:=hrel;by_cases B:j<p
 ·obtain⟨z,N⟩:=Hlo.out j B;obtain⟨R,M,D,d,C,A⟩:=jE G.out rfl z
  cases D;clear A;generalize l[j].1=x at *;go_wp2;go_roundw
  case rel=>exact⟨j+1,jo,ju,trivial⟩
  simp[intOf];omega
 obtain rfl:j=p:=jo;go_wp2_with (at_builtin;refine vJ _ rfl _ _ 40 rfl wr.heap.size 91 r _ 2 16 underlying40 s v E q rfl jd (.slice (some ⟨wr.heap.size,0,none⟩) 0 0) 0 (bkC []) rfl I.out.own ⟨b,o,none⟩ j c (bkC (l.take j)) rfl J.out ?a1 (iW _) ?a3 ?a4 ?a5 ?_)
 case a1=>
  intro i u a;rw[add_lit,World.cell?_alloc_lt]
  ·rw[kO,List.getElem?_take]at a
   split at a
   ·exact(jW G.out i u a).2
   cases a
  rw[kO,List.getElem?_take]at a
  split at a
  ·exact(jW G.out i u a).1
  cases a
 case a3=>unfold maxLen;omega
 case a4=>omega
 case a5=>first|omega|(rw[vM];omega)
 intro L T g f _;have m:Hid (Row wr.heap.size wr T L (l.take j)):=zh (I.out.app (by rw[vM];omega) t.out (by rw[List.length_nil,zi];exact g) f);have O:=m.out.bel.size;clear g f;have S:=(m.out.bel.cell (p:=⟨b,o+j*2,none⟩) d).trans C;have P:=(m.out.bel.cell (p:=⟨b,o+j*2+1,none⟩) d).trans A;go_wp2;all_goals go_ret2
 all_goals exact⟨.slice none 0 0,by rw[F.out];rfl,by rw[F.out];exact Row.start _ _ _ m.out.bel⟩
theorem Ju(b o c:Nat)(l:List Bk)(k n:Int)(w:World)(hR:Reads w w.heap.size 2 (some ⟨b,o,none⟩) l.length (bkC l))(hc:l.length≤c)(hl:l.length≤1000000)(hn:1≤n)(hn2:n≤9223372036854775807)(h1:∀b∈l,1≤b.2)(hlt0:pos l k<l.length)(hk:(l[pos l k]'hlt0).1=k)(hbig:¬(gI<n∨gI-n<(l[pos l k]'hlt0).2))(hcc:¬c=pos l k+1) :
    Calls prog 38 #[.slice (some ⟨b,o,none⟩) l.length c,.int .i64 k,.int .i64 n] w (jp w l k n):=by
  obtain⟨m,q,s,v,f⟩:=info_parts l6;have J:=zh hR;have W:=zh (Row.empty w);have Hlo:=zh (fun i (h:i<pos l k)=>nM l k i h);have hp:=mD l k;have Y:Hid ((bkC (l.take (pos l k))).length=pos l k*2):=zh (by rw[jD,zK];omega);have r:Hid ((l.take (pos l k)).length=pos l k):=zh jw;have t:l.getD (pos l k) (0,0)=l[pos l k]:=by rw[List.getD_eq_getElem?_getD,zU hlt0];rfl
  have F:Hid (gN l k n=(l.set (pos l k) (k,l[pos l k].2+n),true)):=zh (by unfold gN;rw[zI ⟨hlt0,by rw[t];exact hk⟩,t,zH hbig]);have FE:Hid (l.take (pos l k) ++ [(k,l[pos l k].2+n)]++l.drop (pos l k+1)=l.set (pos l k) (k,l[pos l k].2+n)):=zh (by rw[List.set_eq_take_append_cons_drop,zI hlt0,List.append_assoc];rfl);have L3:Hid ((bkC (l.drop (pos l k+1))).length=(l.length-(pos l k+1))*2):=zh (by rw[jD,zP]);have O:Hid ((l.drop (pos l k+1)).length=l.length-(pos l k+1)):=zh (by rw[zP]);obtain⟨bb,Z,R,g,P,M⟩:=jE hR rfl hlt0
  cases R;rw[hk]at P;have T:=h1 _ (za hlt0);have hw:IntKind.i64.wrap (1099511627776-n)=1099511627776-n:=IntWalk.i64_in _ (by unfold gI at hbig;omega);have ak:IntKind.i64.wrap (l[pos l k].2+n)=l[pos l k].2+n:=IntWalk.i64_in _ (by unfold gI at hbig;omega);have ae:¬1099511627776<n:=by unfold gI at hbig;omega
  have ah:¬1099511627776-n<l[pos l k].2:=by unfold gI at hbig;omega
  clear hR;unfold jp;clear t hk h1 hbig;generalize l[pos l k].2=y at *;generalize pos l k=p at *;go_enter func38,ntmps38;go_wp2;go_loopw [8] (fun i wr=>∃j:Nat,j≤p∧i=.int .i64 j∧wr=w) (fun i _=>l.length-(intOf i).toNat)
  case atStart=>exact⟨0,zS _,rfl,rfl⟩
  obtain⟨j,hj,rfl,rfl⟩:=hrel;by_cases N:j<p
  · obtain⟨L,aa⟩:=Hlo.out j N;obtain⟨bb,Z,R,g,P,M⟩:=jE J.out rfl L
    cases R;clear M;generalize l[j].1=x at *;go_wp2;go_roundw
    case rel=>exact⟨j+1,jo,ju,trivial⟩
    simp[intOf];omega
  obtain rfl:j=p:=jo;go_wp2_with (at_builtin;refine vJ _ rfl _ _ 40 rfl wr.heap.size 91 m _ 2 16 underlying40 q s v f rfl jd (.slice (some ⟨wr.heap.size,0,none⟩) 0 0) 0 (bkC []) rfl W.out.own ⟨b,o,none⟩ j c (bkC (l.take j)) rfl Y.out ?a1 (iW _) ?a3 ?a4 ?a5 ?_)
  case a1=>
    intro i u a;rw[add_lit,World.cell?_alloc_lt]
    · rw[kO,List.getElem?_take]at a
      split at a
      · exact(jW J.out i u a).2
      cases a
    rw[kO,List.getElem?_take]at a
    split at a
    · exact(jW J.out i u a).1
    cases a
  case a3=>unfold maxLen;omega
  case a4=>omega
  case a5=>first|omega|(rw[vM];omega)
  intro S U E C _;have B:Hid (Row wr.heap.size wr U S (l.take j)):=zh (W.out.app (by rw[vM];omega) r.out (by rw[List.length_nil,zi];exact E) C);have A:=B.out.bel.size;clear E C;have af:=(B.out.bel.cell (p:=⟨b,o+j*2,none⟩) g).trans P;have ad:=(B.out.bel.cell (p:=⟨b,o+j*2+1,none⟩) g).trans M;have X:j+1≤l.length:=jo;have ai:IntKind.i64.wrap ((j:Int)+1)=(j:Int)+1:=IntWalk.i64_in _ jo;have aj:((j:Int)+1).toNat=j+1:=jo;have ab:(0:Int)≤(j:Int)+1:=jo;have al:(j:Int)+1≤(l.length:Int):=jo;have ag:(l.take j).length≤1000000:=jw;go_wp2_with (at_builtin;refine vJ _ rfl _ _ 40 rfl wr.heap.size 91 m _ 2 16 underlying40 q s v f rfl jd S (l.take j).length (bkC (l.take j)) rfl (B.out.more A _).own ⟨U.heap.size,0,none⟩ 1 1 (bkC [(k,y+n)]) rfl rfl (oZ k (y+n)) (iW _) ?a3 ?a4 ?a5 ?_)
  case a3=>unfold maxLen;omega
  case a4=>omega
  case a5=>first|omega|(rw[vM];omega)
  intro V w2 H z _;have I:Hid (Row wr.heap.size wr w2 V (l.take j ++ [(k,y+n)])):=zh ((B.out.more A _).app (by first|omega|(rw[vM];omega)) rfl (by rw[r.out];exact H) z);have G:=I.out.bel.size;clear H z;have ac:(l.take j ++ [(k,y+n)]).length≤1000001:=by rw[zJ];simp only[zV,List.length_nil];omega
  go_wp2_with (at_builtin;refine vJ _ rfl _ _ 40 rfl wr.heap.size 91 m _ 2 16 underlying40 q s v f rfl jd V (l.take j ++ [(k,y+n)]).length (bkC (l.take j ++ [(k,y+n)])) rfl I.out.own ⟨b,o+(j+1)*2,none⟩ (l.length-(j+1)) (c-(j+1)) (bkC (l.drop (j+1))) rfl L3.out ?a1 (iW _) ?a3 ?a4 G ?_)
  case a1=>
    intro i u a;rw[add_lit];rw[qF,List.getElem?_drop]at a;obtain⟨h1,h2⟩:=jW J.out _ u a;rw[Nat.add_assoc o];exact(I.out.bel.cell (p:=⟨b,_,none⟩) h1).trans h2
  case a3=>unfold maxLen;omega
  case a4=>omega
  intro v3 w3 d D _
  have R3:=zh (I.out.app G O.out (by
    have e:(l.take j ++ [(k,y+n)]).length=j+1:=by rw[zJ,r.out];rfl
    rw[e]
    first
      | exact d
      | (have e2:j+1+(l.length-(j+1))=l.length:=by omega
         rw[e2]
         exact d)) D)
  clear d D;go_wp2;go_ret2;exact⟨v3,by rw[F.out];rfl,by rw[F.out];exact FE.out ▸ R3.out⟩
theorem IG(b o c:Nat)(l:List Bk)(k n:Int)(w:World)(hR:Reads w w.heap.size 2 (some ⟨b,o,none⟩) l.length (bkC l))(hc:l.length≤c)(hl:l.length≤1000000)(hn:1≤n)(hn2:n≤9223372036854775807)(h1:∀b∈l,1≤b.2)(hlt0:pos l k<l.length)(hk:(l[pos l k]'hlt0).1=k)(hbig:¬(gI<n∨gI-n<(l[pos l k]'hlt0).2))(hcc:c=pos l k+1) :
  Calls prog 38 #[.slice (some ⟨b,o,none⟩) l.length c,.int .i64 k,.int .i64 n] w (jp w l k n):=by
 obtain⟨g,m,r,t,d⟩:=info_parts l6;have R:=zh hR;have X:=zh (Row.empty w);have Hlo:=zh (fun i (h:i<pos l k)=>nM l k i h);have hp:=mD l k;have Z:Hid ((bkC (l.take (pos l k))).length=pos l k*2):=zh (by rw[jD,zK];omega);have q:Hid ((l.take (pos l k)).length=pos l k):=zh jw;have s:l.getD (pos l k) (0,0)=l[pos l k]:=by rw[List.getD_eq_getElem?_getD,zU hlt0];rfl
 have F:Hid (gN l k n=(l.set (pos l k) (k,l[pos l k].2+n),true)):=zh (by unfold gN;rw[zI ⟨hlt0,by rw[s];exact hk⟩,s,zH hbig]);have FE:Hid (l.take (pos l k) ++ [(k,l[pos l k].2+n)]++l.drop (pos l k+1)=l.set (pos l k) (k,l[pos l k].2+n)):=zh (by rw[List.set_eq_take_append_cons_drop,zI hlt0,List.append_assoc];rfl);have L3:Hid ((bkC (l.drop (pos l k+1))).length=(l.length-(pos l k+1))*2):=zh (by rw[jD,zP]);have ag:Hid ((l.drop (pos l k+1)).length=l.length-(pos l k+1)):=zh (by rw[zP]);obtain⟨bb,oo,P,f,O,L⟩:=jE hR rfl hlt0
 cases P;rw[hk]at O;have T:=h1 _ (za hlt0);have hw:IntKind.i64.wrap (1099511627776-n)=1099511627776-n:=IntWalk.i64_in _ (by unfold gI at hbig;omega);have al:IntKind.i64.wrap (l[pos l k].2+n)=l[pos l k].2+n:=IntWalk.i64_in _ (by unfold gI at hbig;omega);have ae:¬1099511627776<n:=by unfold gI at hbig;omega
 have ai:¬1099511627776-n<l[pos l k].2:=by unfold gI at hbig;omega
 clear hR;unfold jp;clear s hk h1 hbig;generalize l[pos l k].2=y at *;generalize pos l k=p at *;subst hcc;go_enter func38,ntmps38;go_wp2;go_loopw [8] (fun i wr=>∃j:Nat,j≤p∧i=.int .i64 j∧wr=w) (fun i _=>l.length-(intOf i).toNat)
 case atStart=>exact⟨0,zS _,rfl,rfl⟩
 obtain⟨j,hj,rfl,rfl⟩:=hrel;by_cases M:j<p
 ·obtain⟨J,aa⟩:=Hlo.out j M;obtain⟨bb,oo,P,f,O,L⟩:=jE R.out rfl J
  cases P;clear L;generalize l[j].1=x at *;go_wp2;go_roundw
  case rel=>exact⟨j+1,jo,ju,trivial⟩
  simp[intOf];omega
 obtain rfl:j=p:=jo;go_wp2_with (at_builtin;refine vJ _ rfl _ _ 40 rfl wr.heap.size 91 g _ 2 16 underlying40 m r t d rfl jd (.slice (some ⟨wr.heap.size,0,none⟩) 0 0) 0 (bkC []) rfl X.out.own ⟨b,o,none⟩ j (j+1) (bkC (l.take j)) rfl Z.out ?a1 (iW _) ?a3 ?a4 ?a5 ?_)
 case a1=>
  intro i u a;rw[add_lit,World.cell?_alloc_lt]
  ·rw[kO,List.getElem?_take]at a
   split at a
   ·exact(jW R.out i u a).2
   cases a
  rw[kO,List.getElem?_take]at a
  split at a
  ·exact(jW R.out i u a).1
  cases a
 case a3=>unfold maxLen;omega
 case a4=>omega
 case a5=>first|omega|(rw[vM];omega)
 intro S V G C _;have B:Hid (Row wr.heap.size wr V S (l.take j)):=zh (X.out.app (by rw[vM];omega) q.out (by rw[List.length_nil,zi];exact G) C);have A:=B.out.bel.size;clear G C;have af:=(B.out.bel.cell (p:=⟨b,o+j*2,none⟩) f).trans O;have ad:=(B.out.bel.cell (p:=⟨b,o+j*2+1,none⟩) f).trans L;have Y:j+1≤l.length:=jo;have aj:IntKind.i64.wrap ((j:Int)+1)=(j:Int)+1:=IntWalk.i64_in _ jo;have ak:((j:Int)+1).toNat=j+1:=jo;have ab:(0:Int)≤(j:Int)+1:=jo;have am:(j:Int)+1≤(l.length:Int):=jo;have ah:(l.take j).length≤1000000:=jw;go_wp2_with (at_builtin;refine vJ _ rfl _ _ 40 rfl wr.heap.size 91 g _ 2 16 underlying40 m r t d rfl jd S (l.take j).length (bkC (l.take j)) rfl (B.out.more A _).own ⟨V.heap.size,0,none⟩ 1 1 (bkC [(k,y+n)]) rfl rfl (oZ k (y+n)) (iW _) ?a3 ?a4 ?a5 ?_)
 case a3=>unfold maxLen;omega
 case a4=>omega
 case a5=>first|omega|(rw[vM];omega)
 intro W w2 I z _;have N:Hid (Row wr.heap.size wr w2 W (l.take j ++ [(k,y+n)])):=zh ((B.out.more A _).app (by first|omega|(rw[vM];omega)) rfl (by rw[q.out];exact I) z);have H:=N.out.bel.size;clear I z;have ac:(l.take j ++ [(k,y+n)]).length≤1000001:=by rw[zJ];simp only[zV,List.length_nil];omega
 have E:l.drop (j+1)=[]:=List.drop_eq_nil_of_le jo;go_wp2_with (at_builtin;refine vJ _ rfl _ _ 40 rfl wr.heap.size 91 g _ 2 16 underlying40 m r t d rfl jd W (l.take j ++ [(k,y+n)]).length (bkC (l.take j ++ [(k,y+n)])) rfl N.out.own ⟨b,o,none⟩ 0 0 (bkC []) rfl rfl ?a1 (iW _) ?a3 ?a4 H ?_)
 case a1=>
  intro i u a
  cases a
 case a3=>unfold maxLen;omega
 case a4=>omega
 intro U w3 v D _
 have R3:Hid (Row wr.heap.size wr w3 U (l.take j ++ [(k,y+n)]++l.drop (j+1))):=zh (by
  rw[E]
  exact N.out.app H rfl (by
   have e:(l.take j ++ [(k,y+n)]).length=j+1:=by rw[zJ,q.out];rfl
   rw[e]
   exact v) D)
 clear v D E;go_wp2;go_ret2;exact⟨U,by rw[F.out];rfl,by rw[F.out];exact FE.out ▸ R3.out⟩
theorem Jv(b o c:Nat)(l:List Bk)(k n:Int)(w:World)(hR:Reads w w.heap.size 2 (some ⟨b,o,none⟩) l.length (bkC l))(hc:l.length≤c)(hl:l.length≤1000000)(hlt0:pos l k<l.length)(hk:k<(l[pos l k]'hlt0).1) :
    Calls prog 38 #[.slice (some ⟨b,o,none⟩) l.length c,.int .i64 k,.int .i64 n] w (jp w l k n):=by
  obtain⟨g,m,r,s,f⟩:=info_parts l6;have L:=zh hR;have W:=zh (Row.empty w);have Hlo:=zh (fun i (h:i<pos l k)=>nM l k i h);have hp:=mD l k;have X:Hid ((bkC (l.take (pos l k))).length=pos l k*2):=zh (by rw[jD,zK];omega);have q:Hid ((l.take (pos l k)).length=pos l k):=zh jw;have B:l.getD (pos l k) (0,0)=l[pos l k]:=by rw[List.getD_eq_getElem?_getD,zU hlt0];rfl
  have t:¬(pos l k<l.length∧(l.getD (pos l k) (0,0)).1=k):=fun h=>by rw[B]at h;omega
  obtain⟨bb,Y,R,y,T,N⟩:=jE hR rfl hlt0
  cases R;clear B N;have ab:¬c=pos l k:=jo;have F:Hid (gN l k n=(l.take (pos l k)++(k,n)::l.drop (pos l k),decide (n≤gI))):=zh (by unfold gN;rw[zH t]);have FE:Hid (l.take (pos l k) ++ [(k,n)]++l.drop (pos l k)=l.take (pos l k)++(k,n)::l.drop (pos l k)):=zh (by rw[List.append_assoc];rfl);have L3:Hid ((bkC (l.drop (pos l k))).length=(l.length-pos l k)*2):=zh (by rw[jD,zP]);have P:Hid ((l.drop (pos l k)).length=l.length-pos l k):=zh (by rw[zP]);clear hR;unfold jp;clear t;generalize l[pos l k].1=z at *;generalize pos l k=p at *;go_enter func38,ntmps38;go_wp2;go_loopw [8] (fun i wr=>∃j:Nat,j≤p∧i=.int .i64 j∧wr=w) (fun i _=>l.length-(intOf i).toNat)
  case atStart=>exact⟨0,zS _,rfl,rfl⟩
  obtain⟨j,hj,rfl,rfl⟩:=hrel;by_cases O:j<p
  · obtain⟨M,Z⟩:=Hlo.out j O;obtain⟨bb,Y,R,y,T,N⟩:=jE L.out rfl M
    cases R;clear N;generalize l[j].1=x at *;go_wp2;go_roundw
    case rel=>exact⟨j+1,jo,ju,trivial⟩
    simp[intOf];omega
  obtain rfl:j=p:=jo;go_wp2_with (at_builtin;refine vJ _ rfl _ _ 40 rfl wr.heap.size 91 g _ 2 16 underlying40 m r s f rfl jd (.slice (some ⟨wr.heap.size,0,none⟩) 0 0) 0 (bkC []) rfl W.out.own ⟨b,o,none⟩ j c (bkC (l.take j)) rfl X.out ?a1 (iW _) ?a3 ?a4 ?a5 ?_)
  case a1=>
    intro i u a;rw[add_lit,World.cell?_alloc_lt]
    · rw[kO,List.getElem?_take]at a
      split at a
      · exact(jW L.out i u a).2
      cases a
    rw[kO,List.getElem?_take]at a
    split at a
    · exact(jW L.out i u a).1
    cases a
  case a3=>unfold maxLen;omega
  case a4=>omega
  case a5=>first|omega|(rw[vM];omega)
  intro S U E C _;have I:Hid (Row wr.heap.size wr U S (l.take j)):=zh (W.out.app (by rw[vM];omega) q.out (by rw[List.length_nil,zi];exact E) C);have A:=I.out.bel.size;clear E C;have ae:=(I.out.bel.cell (p:=⟨b,o+j*2,none⟩) y).trans T;have ad:¬z=k:=jo;have aa:¬z<k:=jo;have af:(l.take j).length≤1000000:=jw;go_wp2_with (at_builtin;refine vJ _ rfl _ _ 40 rfl wr.heap.size 91 g _ 2 16 underlying40 m r s f rfl jd S (l.take j).length (bkC (l.take j)) rfl (I.out.more A _).own ⟨U.heap.size,0,none⟩ 1 1 (bkC [(k,n)]) rfl rfl (oZ k (n)) (iW _) ?a3 ?a4 ?a5 ?_)
  case a3=>unfold maxLen;omega
  case a4=>omega
  case a5=>first|omega|(rw[vM];omega)
  intro V w2 H v _;have J:Hid (Row wr.heap.size wr w2 V (l.take j ++ [(k,n)])):=zh ((I.out.more A _).app (by first|omega|(rw[vM];omega)) rfl (by rw[q.out];exact H) v);have G:=J.out.bel.size;clear H v;have ac:(l.take j ++ [(k,n)]).length≤1000001:=by rw[zJ];simp only[zV,List.length_nil];omega
  go_wp2_with (at_builtin;refine vJ _ rfl _ _ 40 rfl wr.heap.size 91 g _ 2 16 underlying40 m r s f rfl jd V (l.take j ++ [(k,n)]).length (bkC (l.take j ++ [(k,n)])) rfl J.out.own ⟨b,o+j*2,none⟩ (l.length-j) (c-j) (bkC (l.drop j)) rfl L3.out ?a1 (iW _) ?a3 ?a4 G ?_)
  case a1=>
    intro i u a;rw[add_lit];rw[qF,List.getElem?_drop]at a;obtain⟨h1,h2⟩:=jW L.out _ u a;rw[Nat.add_assoc o];exact(J.out.bel.cell (p:=⟨b,_,none⟩) h1).trans h2
  case a3=>unfold maxLen;omega
  case a4=>omega
  intro v3 w3 d D _
  have R3:=zh (J.out.app G P.out (by
    have e:(l.take j ++ [(k,n)]).length=j+1:=by rw[zJ,q.out];rfl
    rw[e]
    first
      | exact d
      | (have e2:j+1+(l.length-j)=l.length:=by omega
         rw[e2]
         exact d)) D)
  clear d D;go_wp2;go_ret2;exact⟨v3,by rw[F.out];rfl,by rw[F.out];exact FE.out ▸ R3.out⟩
theorem Jw(b o c:Nat)(l:List Bk)(k n:Int)(w:World)(hR:Reads w w.heap.size 2 (some ⟨b,o,none⟩) l.length (bkC l))(hc:l.length≤c)(hl:l.length≤1000000)(hlt0:¬pos l k<l.length)(hcc:¬c=pos l k) :
    Calls prog 38 #[.slice (some ⟨b,o,none⟩) l.length c,.int .i64 k,.int .i64 n] w (jp w l k n):=by
  obtain⟨g,m,r,s,f⟩:=info_parts l6;have G:=zh hR;have P:=zh (Row.empty w);have Hlo:=zh (fun i (h:i<pos l k)=>nM l k i h);have hp:=mD l k;have R:Hid ((bkC (l.take (pos l k))).length=pos l k*2):=zh (by rw[jD,zK];omega);have q:Hid ((l.take (pos l k)).length=pos l k):=zh jw;have t:¬(pos l k<l.length∧(l.getD (pos l k) (0,0)).1=k):=fun h=>by omega
  have F:Hid (gN l k n=(l.take (pos l k)++(k,n)::l.drop (pos l k),decide (n≤gI))):=zh (by unfold gN;rw[zH t]);have W:Hid (l.take (pos l k) ++ [(k,n)]++l.drop (pos l k)=l.take (pos l k)++(k,n)::l.drop (pos l k)):=zh (by rw[List.append_assoc];rfl);have L3:Hid ((bkC (l.drop (pos l k))).length=(l.length-pos l k)*2):=zh (by rw[jD,zP]);have L:Hid ((l.drop (pos l k)).length=l.length-pos l k):=zh (by rw[zP]);clear hR;unfold jp;clear t;generalize pos l k=p at *;go_enter func38,ntmps38;go_wp2;go_loopw [8] (fun i wr=>∃j:Nat,j≤p∧i=.int .i64 j∧wr=w) (fun i _=>l.length-(intOf i).toNat)
  case atStart=>exact⟨0,zS _,rfl,rfl⟩
  obtain⟨j,hj,rfl,rfl⟩:=hrel;by_cases J:j<p
  · obtain⟨H,S⟩:=Hlo.out j J;obtain⟨bb,oo,e',T,d1,Y⟩:=jE G.out rfl H
    cases e';clear Y;generalize l[j].1=x at *;go_wp2;go_roundw
    case rel=>exact⟨j+1,jo,ju,trivial⟩
    simp[intOf];omega
  obtain rfl:j=p:=jo;go_wp2_with (at_builtin;refine vJ _ rfl _ _ 40 rfl wr.heap.size 91 g _ 2 16 underlying40 m r s f rfl jd (.slice (some ⟨wr.heap.size,0,none⟩) 0 0) 0 (bkC []) rfl P.out.own ⟨b,o,none⟩ j c (bkC (l.take j)) rfl R.out ?a1 (iW _) ?a3 ?a4 ?a5 ?_)
  case a1=>
    intro i u a;rw[add_lit,World.cell?_alloc_lt]
    · rw[kO,List.getElem?_take]at a
      split at a
      · exact(jW G.out i u a).2
      cases a
    rw[kO,List.getElem?_take]at a
    split at a
    · exact(jW G.out i u a).1
    cases a
  case a3=>unfold maxLen;omega
  case a4=>omega
  case a5=>first|omega|(rw[vM];omega)
  intro M N B z _;have I:Hid (Row wr.heap.size wr N M (l.take j)):=zh (P.out.app (by rw[vM];omega) q.out (by rw[List.length_nil,zi];exact B) z);have y:=I.out.bel.size;clear B z;have aa:(l.take j).length≤1000000:=jw;go_wp2_with (at_builtin;refine vJ _ rfl _ _ 40 rfl wr.heap.size 91 g _ 2 16 underlying40 m r s f rfl jd M (l.take j).length (bkC (l.take j)) rfl (I.out.more y _).own ⟨N.heap.size,0,none⟩ 1 1 (bkC [(k,n)]) rfl rfl (oZ k (n)) (iW _) ?a3 ?a4 ?a5 ?_)
  case a3=>unfold maxLen;omega
  case a4=>omega
  case a5=>first|omega|(rw[vM];omega)
  intro O w2 D v _;have E:Hid (Row wr.heap.size wr w2 O (l.take j ++ [(k,n)])):=zh ((I.out.more y _).app (by first|omega|(rw[vM];omega)) rfl (by rw[q.out];exact D) v);have C:=E.out.bel.size;clear D v;have V:(l.take j ++ [(k,n)]).length≤1000001:=by rw[zJ];simp only[zV,List.length_nil];omega
  go_wp2_with (at_builtin;refine vJ _ rfl _ _ 40 rfl wr.heap.size 91 g _ 2 16 underlying40 m r s f rfl jd O (l.take j ++ [(k,n)]).length (bkC (l.take j ++ [(k,n)])) rfl E.out.own ⟨b,o+j*2,none⟩ (l.length-j) (c-j) (bkC (l.drop j)) rfl L3.out ?a1 (iW _) ?a3 ?a4 C ?_)
  case a1=>
    intro i u a;rw[add_lit];rw[qF,List.getElem?_drop]at a;obtain⟨h1,h2⟩:=jW G.out _ u a;rw[Nat.add_assoc o];exact(E.out.bel.cell (p:=⟨b,_,none⟩) h1).trans h2
  case a3=>unfold maxLen;omega
  case a4=>omega
  intro Z w3 d A _
  have X:=zh (E.out.app C L.out (by
    have e:(l.take j ++ [(k,n)]).length=j+1:=by rw[zJ,q.out];rfl
    rw[e]
    first
      | exact d
      | (have U:j+1+(l.length-j)=l.length:=by omega
         rw[U]
         exact d)) A)
  clear d A;go_wp2;go_ret2;exact⟨Z,by rw[F.out];rfl,by rw[F.out];exact W.out ▸ X.out⟩
theorem II(b o c:Nat)(l:List Bk)(k n:Int)(w:World)(hR:Reads w w.heap.size 2 (some ⟨b,o,none⟩) l.length (bkC l))(hc:l.length≤c)(hl:l.length≤1000000)(hlt0:¬pos l k<l.length)(hcc:c=pos l k) :
  Calls prog 38 #[.slice (some ⟨b,o,none⟩) l.length c,.int .i64 k,.int .i64 n] w (jp w l k n):=by
 obtain⟨f,g,q,r,d⟩:=info_parts l6;have L:=zh hR;have R:=zh (Row.empty w);have Hlo:=zh (fun i (h:i<pos l k)=>nM l k i h);have hp:=mD l k;have S:Hid ((bkC (l.take (pos l k))).length=pos l k*2):=zh (by rw[jD,zK];omega);have m:Hid ((l.take (pos l k)).length=pos l k):=zh jw;have s:¬(pos l k<l.length∧(l.getD (pos l k) (0,0)).1=k):=fun h=>by omega
 have F:Hid (gN l k n=(l.take (pos l k)++(k,n)::l.drop (pos l k),decide (n≤gI))):=zh (by unfold gN;rw[zH s]);have W:Hid (l.take (pos l k) ++ [(k,n)]++l.drop (pos l k)=l.take (pos l k)++(k,n)::l.drop (pos l k)):=zh (by rw[List.append_assoc];rfl);have L3:Hid ((bkC (l.drop (pos l k))).length=(l.length-pos l k)*2):=zh (by rw[jD,zP]);have aa:Hid ((l.drop (pos l k)).length=l.length-pos l k):=zh (by rw[zP]);clear hR;unfold jp;clear s;generalize pos l k=p at *;have hcc:=hcc.symm;subst hcc;go_enter func38,ntmps38;go_wp2;go_loopw [8] (fun i wr=>∃j:Nat,j≤p∧i=.int .i64 j∧wr=w) (fun i _=>l.length-(intOf i).toNat)
 case atStart=>exact⟨0,zS _,rfl,rfl⟩
 obtain⟨j,hj,rfl,rfl⟩:=hrel;by_cases I:j<p
 ·obtain⟨G,T⟩:=Hlo.out j I;obtain⟨bb,oo,e',U,d1,Y⟩:=jE L.out rfl G
  cases e';clear Y;generalize l[j].1=x at *;go_wp2;go_roundw
  case rel=>exact⟨j+1,jo,ju,trivial⟩
  simp[intOf];omega
 obtain rfl:j=p:=jo;go_wp2_with (at_builtin;refine vJ _ rfl _ _ 40 rfl wr.heap.size 91 f _ 2 16 underlying40 g q r d rfl jd (.slice (some ⟨wr.heap.size,0,none⟩) 0 0) 0 (bkC []) rfl R.out.own ⟨b,o,none⟩ j j (bkC (l.take j)) rfl S.out ?a1 (iW _) ?a3 ?a4 ?a5 ?_)
 case a1=>
  intro i u a;rw[add_lit,World.cell?_alloc_lt]
  ·rw[kO,List.getElem?_take]at a
   split at a
   ·exact(jW L.out i u a).2
   cases a
  rw[kO,List.getElem?_take]at a
  split at a
  ·exact(jW L.out i u a).1
  cases a
 case a3=>unfold maxLen;omega
 case a4=>omega
 case a5=>first|omega|(rw[vM];omega)
 intro M O C z _;have H:Hid (Row wr.heap.size wr O M (l.take j)):=zh (R.out.app (by rw[vM];omega) m.out (by rw[List.length_nil,zi];exact C) z);have y:=H.out.bel.size;clear C z;have ab:(l.take j).length≤1000000:=jw;go_wp2_with (at_builtin;refine vJ _ rfl _ _ 40 rfl wr.heap.size 91 f _ 2 16 underlying40 g q r d rfl jd M (l.take j).length (bkC (l.take j)) rfl (H.out.more y _).own ⟨O.heap.size,0,none⟩ 1 1 (bkC [(k,n)]) rfl rfl (oZ k (n)) (iW _) ?a3 ?a4 ?a5 ?_)
 case a3=>unfold maxLen;omega
 case a4=>omega
 case a5=>first|omega|(rw[vM];omega)
 intro P w2 E v _;have J:Hid (Row wr.heap.size wr w2 P (l.take j ++ [(k,n)])):=zh ((H.out.more y _).app (by first|omega|(rw[vM];omega)) rfl (by rw[m.out];exact E) v);have D:=J.out.bel.size;clear E v;have V:(l.take j ++ [(k,n)]).length≤1000001:=by rw[zJ];simp only[zV,List.length_nil];omega
 have B:l.drop j=[]:=List.drop_eq_nil_of_le jo;go_wp2_with (at_builtin;refine vJ _ rfl _ _ 40 rfl wr.heap.size 91 f _ 2 16 underlying40 g q r d rfl jd P (l.take j ++ [(k,n)]).length (bkC (l.take j ++ [(k,n)])) rfl J.out.own ⟨b,o,none⟩ 0 0 (bkC []) rfl rfl ?a1 (iW _) ?a3 ?a4 D ?_)
 case a1=>
  intro i u a
  cases a
 case a3=>unfold maxLen;omega
 case a4=>omega
 intro N Z t A _
 have X:Hid (Row wr.heap.size wr Z N (l.take j ++ [(k,n)]++l.drop j)):=zh (by
  rw[B]
  exact J.out.app D rfl (by
   have e:(l.take j ++ [(k,n)]).length=j+1:=by rw[zJ,m.out];rfl
   rw[e]
   exact t) A)
 clear t A B;go_wp2;go_ret2;exact⟨N,by rw[F.out];rfl,by rw[F.out];exact W.out ▸ X.out⟩
end Hi
end Go.Proofs.YtmomjpolkkbhnaaGreat
