/- cursor.Decode: the walk (printed by gen_cug.py). -/
import Derived.Test.YtmomjpolkkbhnaaGreatQModelRunsRow29
import Derived.Test.YtmomjpolkkbhnaaGreatQModelRunsRow18
set_option linter.unusedSimpArgs false
set_option linter.unusedVariables false
set_option maxRecDepth 100000
set_option maxHeartbeats 100000000
open Go.Proofs.Tryz
namespace Go.Proofs.YtmomjpolkkbhnaaGreat
namespace Cu
open Go.RowKit Cr Qp Qy Ph
structure Rdr (w0 w:World) (L:List UInt8) (a:Int) (q:ByteArray):Prop where
 ex:∃A m c,Blk w (w0.heap.size+1) 168 #[.slice A m c,.int .i64 a,.string q]∧Lf w (w0.heap.size+1) A m c L
 res:Blk w w0.heap.size 122 #[.int .i64 0,.string ⟨#[]⟩]
 bel:zWW w0 w
theorem Rdr.moved{w0 w:World}{L M:List UInt8}{a:Int}{q:ByteArray}(h:Rdr w0 w L a q){A:Option Addr}{m c:Nat}(hL:Lf (w.setCell ⟨w0.heap.size+1,0,none⟩ (.slice A m c)) (w0.heap.size+1) A m c M):Rdr w0 (w.setCell ⟨w0.heap.size+1,0,none⟩ (.slice A m c)) M a q:=by
 obtain⟨⟨f,g,i,b,_⟩,e,d⟩:=h;exact⟨⟨A,m,c,b.set_ 0 _,hL⟩,e.far jz _,d.setCell (p:=⟨w0.heap.size+1,0,none⟩) (zZ _) _⟩
theorem Lf.far{w:World}{g:Nat}{A:Option Addr}{m c:Nat}{L:List UInt8}(h:Lf w g A m c L)(o:Nat)(ho:o≠0)(u:Value):Lf (w.setCell ⟨g,o,none⟩ u) g A m c L:=by
 refine⟨?_,by rw[World.frozen?_setCell];exact h.fz,h.le,h.ln,fun f=>?_,h.nil⟩
 ·rw[World.cell?_setCell_other _ _ _ _ (by simp[ho])];exact h.cell
 obtain⟨b,d,e,k,a,i⟩:=h.rd f
 exact⟨b,d,e,by simpa[World.setCell]using k,a,fun j n l=>by
  rw[vP (w:=w) (vN w ⟨g,o,none⟩ u b a)]
  exact i j n l⟩
theorem Lf.below{w w':World}{g:Nat}{A:Option Addr}{m c:Nat}{L:List UInt8}(h:Lf w g A m c L)(hg:g<w.heap.size)(hb:zWW w w'):Lf w' g A m c L:=by
 refine⟨(hb.cell (p:=⟨g,0,none⟩) hg).trans h.cell,(hb.frozen (p:=⟨g,0,none⟩) hg).trans h.fz,h.le,h.ln,fun i=>?_,h.nil⟩;obtain⟨b,f,e,a,d,k⟩:=h.rd i;exact⟨b,f,e,zT a hb.size,d,fun j n l=>(hb.cell (p:=⟨b,_,none⟩) a).trans (k j n l)⟩
theorem Rdr.after{w0 w:World}{L:List UInt8}{a:Int}{q:ByteArray}(h:Rdr w0 w L a q)(b:Int):Rdr w0 (w.setCell ⟨w0.heap.size+1,1,none⟩ (.int .i64 b)) L b q:=by
 obtain⟨⟨c,e,i,d,f⟩,j,g⟩:=h;exact⟨⟨c,e,i,d.set_ 1 _,f.far 1 jo _⟩,j.far jz _,g.setCell (p:=⟨w0.heap.size+1,1,none⟩) (zZ _) _⟩
theorem Rdr.query{w0 w:World}{L:List UInt8}{a:Int}{q:ByteArray}(h:Rdr w0 w L a q)(s:ByteArray):Rdr w0 (w.setCell ⟨w0.heap.size+1,2,none⟩ (.string s)) L a s:=by
 obtain⟨⟨b,d,g,c,e⟩,i,f⟩:=h;exact⟨⟨b,d,g,c.set_ 2 _,e.far 2 jo _⟩,i.far jz _,f.setCell (p:=⟨w0.heap.size+1,2,none⟩) (zZ _) _⟩
theorem Rdr.lt{w0 w:World}{L:List UInt8}{a:Int}{q:ByteArray}(h:Rdr w0 w L a q):w0.heap.size+1<w.heap.size:=by
 obtain⟨⟨c,d,g,b,e⟩,i,f⟩:=h;exact b.lt
theorem Rdr.drew{w0 w:World}{L:List UInt8}{a:Int}{q:ByteArray}(h:Rdr w0 w L a q):Rdr w0 w.drew L a q:=by
 obtain⟨⟨c,e,g,d,b⟩,i,f⟩:=h;exact⟨⟨c,e,g,d,b.cell,b.fz,b.le,b.ln,b.rd,b.nil⟩,i,f.drew⟩
theorem Rdr.below{w0 w w':World}{L:List UInt8}{a:Int}{q:ByteArray}(h:Rdr w0 w L a q)(hb:zWW w w'):Rdr w0 w' L a q:=by
 obtain⟨⟨e,f,i,c,g⟩,d,b⟩:=h;exact⟨⟨e,f,i,c.below hb c.lt,g.below c.lt hb⟩,d.below hb d.lt,b.trans (hb.mono b.size)⟩
theorem nH{w:World}{g:Nat}{a0 a1 b0 b1:Value}(h:Blk w g 122 #[a0,a1]):Blk ((w.setCell ⟨g,0,none⟩ b0).setCell ⟨g,1,none⟩ b1) g 122 #[b0,b1]:=by
 have:=(h.set_ 0 b0).set_ 1 b1
 simpa using this
theorem nV{fn:Func}{p1 p2:Tmp}(hf:fn.results=#[.cell p1 122,.tmp p2]){tmps:Array Value}{W:World}{b1:Nat}{a0 a1 v:Value}(h1:tmps.getD p1 undef=.pointer (some ⟨b1,0,none⟩))(h2:tmps.getD p2 undef=v)(B1:Blk W b1 122 #[a0,a1]) :
  (results fn tmps).run prog W=.ok (.tuple #[.agg #[a0,a1],v]) W:=by
 have c:=zv (P:=prog) W b1 122 122 #[a0,a1] (0,0) _ B1 underlying122 rfl jk;have b:tmps[p1]?.getD undef=.pointer (some ⟨b1,0,none⟩):=by simpa using h1
 have a:tmps[p2]?.getD undef=v:=by simpa using h2
 simp[results,hf,b,a,asAddr,c]
theorem tO(A:Option Addr)(m c:Nat)(L:List UInt8)(w:World)(hR:Reads w w.heap.size 1 A m (bv L))(hm:m≤140737488351232)(hc:m≤c)(hnil:A=none→c=0):Calls prog 70 #[.slice A m c] w (sJ w L):=by
 have R:L.length=m:=by have:=hR.1;rw[ij]at this;omega
 have U:=((zy w.heap.size w).alloc (zG _) (.cells #[.int .i64 0,.string ⟨#[]⟩] 122)).alloc jz (.cells #[.slice A m c,.int .i64 0,.string ⟨#[]⟩] 168);have a:=(Blk.new w 122 #[.int .i64 0,.string ⟨#[]⟩]).alloc (.cells #[.slice A m c,.int .i64 0,.string ⟨#[]⟩] 168);have B:=Blk.new (w.alloc (.cells #[.int .i64 0,.string ⟨#[]⟩] 122)) 168 #[.slice A m c,.int .i64 0,.string ⟨#[]⟩];have hz:(w.alloc (.cells #[.int .i64 0,.string ⟨#[]⟩] 122)).heap.size=w.heap.size+1:=jz;rw[hz]at B
 have ah:Rdr w ((w.alloc (.cells #[.int .i64 0,.string ⟨#[]⟩] 122)).alloc (.cells #[.slice A m c,.int .i64 0,.string ⟨#[]⟩] 168)) L 0 ⟨#[]⟩:=by
  refine⟨⟨A,m,c,B,⟨B.cell 0,B.frozen 0,hc,R,fun hp=>?_,hnil⟩⟩,a,U⟩;obtain⟨b,o,e,hb,aq⟩:=hR.2 hp;refine⟨b,o,e,jm,jo,fun j u hu=>?_⟩;exact(U.cell (p:=⟨b,o+j,none⟩) hb).trans (aq j u hu)
 have Z:=zh ah;have HL:=zh R;have HR:=zh hR;clear U a B ah R hR hz;go_enter func70,ntmps70;go_wp2_with fail;generalize ao:(w.alloc (.cells #[.int .i64 0,.string ⟨#[]⟩] 122)).alloc (.cells #[.slice A m c,.int .i64 0,.string ⟨#[]⟩] 168)=w2 at *;clear ao;obtain⟨A0,m0,c0,ak,W⟩:=Z.out.ex;have ac:m0≤140737488351232:=by have:=W.ln;have:=HL.out;omega
 have cn:=p8 w2 (w.heap.size+1) A0 m0 c0 3 L W ac jo;clear ak W;refine cn.mono ?_;rintro e w3 ⟨A1,m1,c1,A2,c2,rfl,ad,rfl,_,_,_,l⟩;have J:=zh (Z.out.moved l);clear cn ad l Z;generalize am:w2.setCell ⟨w.heap.size+1,0,none⟩ (.slice A2 (m1-min 3 m1) c2)=w3 at *;clear am;obtain⟨A3,m3,c3,ap,l⟩:=J.out.ex;have af:m3≤140737488351232:=by have:=l.ln;rw[zP]at this;have:=HL.out;omega
 have cn:=yf w3 (w.heap.size+1) A3 m3 c3 8 (L.drop 3) l af jo;clear ap l;go_wp2_with fail;refine cn.mono ?_;rintro e w4 ⟨rfl,A4,m4,c4,rfl,ai⟩;have G:=zh (J.out.moved ai)
 have Hz:Hid (aOf L<9223372036854775808→wrap64 (num ((L.drop 3).take 8):Nat)=(aOf L:Int)):=zh (fun h=>by
  unfold aOf at h ⊢
  exact IntWalk.wrap64_in _ jo)
 clear cn ai J;generalize wrap64 (num ((L.drop 3).take 8):Nat)=z at *;generalize ar:w3.setCell ⟨w.heap.size+1,0,none⟩ (.slice A4 m4 c4)=w4 at *;clear ar;rw[List.drop_drop]at G;obtain⟨A5,m5,c5,P,_⟩:=G.out.ex;have s:=P.cell 1;have au:=P.frozen 1;simp at s;clear P
 go_upto_region 4 with(fail);have ag:=zh (G.out.after z);clear G s au;generalize al:w4.setCell ⟨w.heap.size+1,1,none⟩ (.int .i64 z)=w5 at *;clear al
 refine kK 10 (fF [(7,⟨Unit,fun _=>.int .i64 (nOf L:Int),fun _ i=>Rdr w i (L.drop 13) z ⟨#[]⟩⟩),(8,⟨Option Addr × Nat × Nat,fun x=>.slice x.1 x.2.1 x.2.2,fun x i=>(∃M,Rdr w i M z ⟨#[]⟩)∧Reads i i.heap.size 1 x.1 x.2.1 (bv (qOf L))⟩),(9,⟨Unit,fun _=>.string ⟨(qOf L).toArray⟩,fun _ i=>∃M,Rdr w i M z ⟨#[]⟩⟩)])
  (fun _=>True) (fun i=>Rdr w i (L.drop 11) z ⟨#[]⟩) jk jk (kN jk) trivial ag.out.drew ?_
 iterate 7
  refine ik _ ?_ rfl jr jr (fun i hC=>?_) ?_;rotate_left
  ·go_simp;all_goals with_reducible rfl
  try simp only[Act.put,zD,zE,zF]
 refine kw 8 _ rfl jr jr (fun i hC g=>?_) (fun x=>?_)
 ·refine fZ (f:=?_) (args:=?_) ?_ ?_;rotate_left 2
  ·go_simp;all_goals first|with_reducible rfl|(refine⟨?_,?_⟩<;>with_reducible rfl)
  obtain⟨A6,m6,c6,C,v⟩:=g.ex;have t:m6≤140737488351232:=by have:=v.ln;rw[zP]at this;have:=HL.out;omega
  refine(yf i (w.heap.size+1) A6 m6 c6 2 (L.drop 11) v t jo).mono ?_;rintro e w9 ⟨rfl,A9,m9,c9,rfl,T⟩;have E:=g.moved T;rw[List.drop_drop]at E;have hn:=rY ((L.drop 11).take 2);have az:num ((L.drop 11).take 2)<65536:=zT hn (zY (Nat.pow_le_pow_right jo (List.length_take_le _ _)) jd);exact⟨_,rfl,trivial,trivial,(),by rw[IntWalk.wrap64_in _ jo];rfl,E⟩
 rename Unit=>x7
 try simp only[Act.put,zD,zE,zF]
 refine kw 9 _ rfl jr jr (fun i hC g=>?_) (fun x=>?_)
 ·refine fZ (f:=?_) (args:=?_) ?_ ?_;rotate_left 2
  ·go_simp;all_goals first|with_reducible rfl|(refine⟨?_,?_⟩<;>with_reducible rfl)
  obtain⟨A6,m6,c6,C,v⟩:=g.ex;have t:m6≤140737488351232:=by have:=v.ln;rw[zP]at this;have:=HL.out;omega
  have hn:=rY ((L.drop 11).take 2);have az:nOf L<65536:=zT hn (zY (Nat.pow_le_pow_right jo (List.length_take_le _ _)) jd);refine(p8 i (w.heap.size+1) A6 m6 c6 (nOf L) (L.drop 13) v t jo).mono ?_;rintro e w9 ⟨A9,m9,c9,aI,aG,rfl,aA,rfl,_,_,E,T⟩;exact⟨_,rfl,trivial,trivial,(A9,min (nOf L) m9,c9),rfl,⟨_,g.moved T⟩,E⟩
 obtain⟨A8,n8,c8⟩:=x;try simp only[Act.put,zD,zE,zF]
 refine kw 10 _ rfl jr jr (fun i hC g=>?_) (fun x=>?_)
 ·refine kr (u:=?_) (w':=?_) ?_ trivial ?_;rotate_left 2
  ·have aJ:=nG c8 g.2;go_simp;all_goals first|with_reducible rfl|(refine⟨?_,?_⟩<;>with_reducible rfl)
  exact⟨trivial,(),rfl,g.1⟩
 rename Unit=>x9
 try simp only[Act.put,zD,zE,zF]
 refine kT (fun w6 hC g=>?_);obtain⟨M,O⟩:=g;have ae:=zh O;obtain⟨A6,m6,c6,C,_⟩:=O.ex;have k:=C.cell 2;have aw:=C.frozen 2;simp at k;have H:(qOf L).length≤m:=by unfold qOf;rw[zK,zP];have:=HL.out;omega
 have HS:Hid ((⟨(qOf L).toArray⟩:ByteArray).data.toList=qOf L):=zh jz;have aE:(⟨(qOf L).toArray⟩:ByteArray).size≤m:=by rw[←fB,HS.out];exact H
 clear C O hC ag H;generalize (⟨(qOf L).toArray⟩:ByteArray)=S at *
 go_upto_region 5 with(fail);have q:=zh (ae.out.query S);clear ae k aw;generalize an:w6.setCell ⟨w.heap.size+1,2,none⟩ (.string S)=w7 at *;clear an;obtain⟨A7,m7,c7,V,_⟩:=q.out.ex;have s:=V.cell 1;have k:=V.cell 2;simp at s k;have aC:=q.out.lt;have Hdec:=zh (CH Hz.out (.inl HS.out));clear V;by_cases g:IsC z S
 ·obtain⟨n,rfl⟩:∃n:Nat,z=n:=⟨z.toNat,by have:=g.1;omega⟩;have ce:=yX n S w7 g;have HI:=zh g;clear g;go_wp2_with fail;refine ce.mono ?_;rintro e w8 ⟨⟨v8,rfl,d⟩,y⟩;have r:=zh (q.out.below y);have D:Hid (zWW w w8):=zh r.out.bel;obtain⟨aF,ay,rfl,I⟩:=fT d;have aD:=nG ay I;have aB:=nG c (HR.out.below D.out);obtain⟨A9,m9,c9,ab,_⟩:=r.out.ex;have s:=ab.cell 1;have k:=ab.cell 2;simp at s k;have a:=r.out.res;have N:=a.cell 0;have aa:=a.cell 1;have ax:=a.frozen 0;have av:=a.frozen 1;simp at N aa;have F:=zh a;clear ce y d I ab a q;generalize aj:enc n S.data.toList=M8 at *;have Hen:=zh aj;clear aj;by_cases hE:M8=L
  ·subst hE;generalize (⟨M8.toArray⟩:ByteArray)=X at *;go_wp2;exact zw (nV rfl rfl rfl (nH F.out)) rfl ⟨n,S,0,.inl ⟨n,rfl,HI.out,Hen.out.symm,rfl⟩,rfl,(D.out.setCell (p:=⟨w.heap.size,0,none⟩) (zG _) _).setCell (p:=⟨w.heap.size,1,none⟩) (zG _) _⟩
  have hX:((⟨M8.toArray⟩:ByteArray).toList==(⟨L.toArray⟩:ByteArray).toList)=false:=by
   rw[Tk.tl,Tk.tl,zM];intro h;exact hE (by simpa using h)
  have aH:((⟨M8.toArray⟩:ByteArray).toList != (⟨L.toArray⟩:ByteArray).toList)=true:=by rw[bne,hX];rfl
  have Hno:Hid (∀(n:Nat) (q':ByteArray),IsC n q'→L≠enc n q'.data.toList):=zh (by
   rcases Hdec.out with⟨n',e1,_,h2⟩|h
   ·exact absurd (by rw[←Hen.out,←h2];congr 1;omega) hE
   exact h)
  clear hE Hdec;generalize (⟨M8.toArray⟩:ByteArray)=X at *;generalize (⟨L.toArray⟩:ByteArray)=Y at *;go_wp2;exact zw (nV rfl rfl rfl (nH F.out)) rfl ⟨0,⟨#[]⟩,250,.inr ⟨Hno.out,rfl,rfl,rfl⟩,rfl,(D.out.setCell (p:=⟨w.heap.size,0,none⟩) (zG _) _).setCell (p:=⟨w.heap.size,1,none⟩) (zG _) _⟩
 have ce:=AZ z S w7 g
 have Hno:Hid (∀(n:Nat) (q':ByteArray),IsC n q'→L≠enc n q'.data.toList):=zh (by
  rcases Hdec.out with⟨n',e1,h1,h2⟩|h
  ·exact absurd h1 g
  exact h)
 clear g Hdec;go_wp2_with fail;refine ce.mono ?_;rintro e w8 ⟨⟨v8,rfl,d⟩,y⟩;have r:=zh (q.out.below y);have D:Hid (zWW w w8):=zh r.out.bel;have a:=r.out.res;have N:=a.cell 0;have aa:=a.cell 1;have ax:=a.frozen 0;have av:=a.frozen 1;simp at N aa;have F:=zh a;clear ce y d a q;go_wp2;exact zw (nV rfl rfl rfl (nH F.out)) rfl ⟨0,⟨#[]⟩,250,.inr ⟨Hno.out,rfl,rfl,rfl⟩,rfl,(D.out.setCell (p:=⟨w.heap.size,0,none⟩) (zG _) _).setCell (p:=⟨w.heap.size,1,none⟩) (zG _) _⟩
end Cu

namespace Md
open Go.RowKit Ut Tk Qy Qp Ev
open Hi (Bk bkC ofF OwnB qN)
def HgR(w':World)(m:M)(r:Rq)(base:Nat)(cs:Array Value):Prop:=∃E o,PrsR r.q.data.toList E o∧((E≠0∧cs=rsC E 0 0 nil nil nil 0 0 0 0)∨(E=0∧r.width<1∧cs=rsC 1 0 0 nil nil nil 0 0 0 0) ∨
 (∃q D,E=0∧o=some q∧1≤r.width∧ByT (upL m (inB r.frm r.til q)) D∧((m.c.buckets<((ofF r.width (D.map (·.at_))).length:Nat)∧cs=rsC 241 0 0 nil nil nil 0 0 0 0) ∨
  (((ofF r.width (D.map (·.at_))).length:Nat)≤m.c.buckets∧∃v,OwnB w' base v (ofF r.width (D.map (·.at_)))∧cs=rsC 0 0 0 nil v nil 0 0 0 0))))
theorem oV:(prog.info? 3).map (fun i=>(i.zero,i.size,i.bytes))=some (some (.int .i64 0),1,8):=by kernel_rfl
section
variable {w:World} {n0 X K:Nat} {v:Value} {m:M}
theorem Jq(h:At w n0 X K v m)(hK:K≤60000)(r:Rq)(z:Rw)(hwd:r.width≤9223372036854775807) :
  Calls prog 34 #[.pointer (some ⟨X,0,none⟩),.agg (rqC r z)] w (ReP (fun w w' cs=>HgR w' m r w.heap.size cs) w):=by
 obtain⟨i0,aN,aP,aT,aH⟩:=info_parts oV;have hb:zWW w ((w.alloc (.cells (rqC r z) 37)).alloc (.cells rs0 42)):=(zRR _).alloc jz _;have hq:=(Blk.new w 37 (rqC r z)).alloc (.cells rs0 42);have hr:=Blk.new (w.alloc (.cells (rqC r z) 37)) 42 rs0;have z1:(w.alloc (.cells (rqC r z) 37)).heap.size=w.heap.size+1:=jz;rw[z1]at hr;have H1:=zh (h.below hb);have HQ:=zh hq;have HR:=zh hr;have HB:=zh hb;have aX:w.heap.size+2≤(World.heap ((w.alloc (.cells (rqC r z) 37)).alloc (.cells rs0 42))).size:=jz;have aY:=h.blk.lt;have af:=h.few;have aK:=zh h.ok;clear h hb hq hr z1;go_enter func34,ntmps34
 go_upto_region 1 with(fail);generalize ((w.alloc (.cells (rqC r z) 37)).alloc (.cells rs0 42))=w1 at *;have q4:=HQ.out.cell 4;simp only[rqC,zA,zB,zC]at q4;go_wp2_with fail;refine(pg r.q w1).mono ?_;rintro e w2 ⟨E,o,a0,a1,a2,a3,hp,rfl,hF,B⟩;obtain⟨V,n1,c1,A2,n2,S,e4⟩:=hF.four;simp only[zQ,and_true]at e4;obtain⟨rfl,rfl,rfl,rfl⟩:=e4;have H2:=zh (H1.out.below B);have P:=zb HR B;have aq:=zb HQ B;have R:=zt HB B;have HP:=zh hp;have ae:QAt w2 w2.heap.size (o.getD noQ) [.int .i64 (o.getD noQ).kind,.string (o.getD noQ).name,.slice V n1 c1,.slice A2 n2 S]:=hF.at_ (fun b hb=>hb.2);have N:=zh ae;have av:zWW w2 (w2.alloc (.cells #[.int .i64 (o.getD noQ).kind,.string (o.getD noQ).name,.slice V n1 c1,.slice A2 n2 S] 60)):=zRR _;have s:=zh (Blk.new w2 60 #[.int .i64 (o.getD noQ).kind,.string (o.getD noQ).name,.slice V n1 c1,.slice A2 n2 S]);have a:=zh av;clear hF B hp ae av q4;rcases oK HP.out with⟨rfl,q,rfl,ax⟩|⟨hE,rfl⟩
 ·have au:((some q:Option Q).getD noQ)=q:=rfl;rw[au]at N s a ⊢;have aC:=zh ax;clear au ax;obtain⟨qk,ad⟩:∃qk,q.kind=qk:=⟨_,rfl⟩;obtain⟨qn,ac⟩:∃qn,q.name=qn:=⟨_,rfl⟩;have al:=zh (And.intro ad ac);rw[ad,ac]at N s a ⊢;clear ad ac;have A:=zh (R.out.trans (a.out.mono R.out.size));have H:=zh (P.out.below a.out P.out.lt);have G:=zh (aq.out.below a.out aq.out.lt);have H3:=zh (H2.out.below a.out);have ar:=zh (N.out.grow a.out)
  go_upto_region 2 with(fail);generalize w2.alloc (.cells #[.int .i64 qk,.string qn,.slice V n1 c1,.slice A2 n2 S] 60)=w3 at *;have q8:=G.out.cell 8;have q5:=G.out.cell 5;have q6:=G.out.cell 6;have k0:=s.out.cell 0;have k1:=s.out.cell 1;have k2:=s.out.cell 2;have k3:=s.out.cell 3;simp only[rqC,zA,zB,zC]at q5 q6 q8 k0 k1 k2 k3;have CD:Hid (Calls prog 67 #[.pointer (some ⟨X,0,none⟩),.agg #[.int .i64 qk,.string qn,.slice V n1 c1,.slice A2 n2 S],.int .i64 r.frm,.int .i64 r.til] w3 (sG w3 (upL m (inB r.frm r.til q)))):=zh (qy H3.out hK q aC.out _ _ _ _ r.frm r.til ⟨V,n1,c1,A2,n2,S,by rw[al.out.1,al.out.2]⟩ ar.out);have aM:Hid ((upL m (inB r.frm r.til q)).length≤60000):=zh (zY (List.length_filter_le _ _) (zY af hK))
  have aJ:Hid (∀d∈upL m (inB r.frm r.til q),I64 d.at_):=zh (fun d hd=>by
   obtain⟨i,hi,rfl⟩:=zu.1 (List.mem_filter.1 hd).1
   exact(aK.out.doc i hi).2.2)
  generalize hu:upL m (inB r.frm r.til q)=U at *;have HU:=zh hu;clear hu;by_cases aL:r.width<1
  ·clear CD;go_wp2_with fail;refine(iy 1 _).mono ?_;rintro e w9 ⟨rfl,f⟩;have x:=zt A f;have l:=zb H f;clear f;have n:=zh (zz _ (w.heap.size+1) _ (rsC 1 0 0 nil nil nil 0 0 0 0) _ _ l.out);go_wp2_with (refine zx (o:=⟨none,.store 42 _ _,_,_,_,_⟩) rfl 42 _ _ rfl (w.heap.size+1) (rsC 1 0 0 nil nil nil 0 0 0 0) rfl rfl 42 rs0 l.out jk rfl (by simp[rsC,Value.oneCell']) ?_);refine zw (fA rfl rfl (zv _ (w.heap.size+1) 42 42 _ (0,0) _ n.out underlying42 rfl jk)) rfl ?_;exact⟨_,rfl,vI x.out (zZ _) _,0,_,HP.out,.inr (.inl ⟨rfl,aL,rfl⟩)⟩
  go_wp2_with fail;refine CD.out.mono ?_;rintro e w4 ⟨v4,D,rfl,hD,hT,y⟩;obtain⟨A3,c3,rfl,ak,a5,_⟩:=hD.read;have aA:=zt A y;have aw:=zb H y;have am:=zb G y;have H4:=zh (H3.out.below y);have aD:=zh ak;have HT:=zh hT;have a6:D.length≤60000:=by rw[hT.perm.length_eq];exact aM.out
  have aR:Hid (∀d∈D,I64 d.at_):=zh (fun d hd=>aJ.out d (hT.perm.mem_iff.1 hd));have a4:=A.out.size;clear hD hT y CD q5 q6 q8 k0 k1 k2 k3 ak;go_wp2_with fail;go_loopw [7,35] (fun v i wr=>∃(u:Value) (k:Nat),u=v∧k≤D.length∧i=.int .i64 k∧Hid (wr.ownsRow w4.heap.size 3 1 u k ((D.take k).map (fun d=>Value.int .i64 d.at_)))∧Hid (zWW w4 wr)) (fun _ i _=>D.length-(intOf i).toNat)
  case atStart=>exact⟨_,0,rfl,zS _,rfl,zh (vO _ _ _ _),zh (zy _ _)⟩
  obtain⟨u,k,rfl,hk,rfl,hO,C⟩:=hrel;have aS:=C.out.size;by_cases an:k<D.length
  ·have aZ:(k:Int)<(D.length:Int):=jo;have aU:(0:Int)≤(k:Int):=jo;obtain⟨b,o,F,fn,fc,rfl,Z,a0,a1,a2,_⟩:=aD.out.at_ an;have t0:=(C.out.cell (p:=⟨b,o+k*3,none⟩) Z.2).trans a0;have t1:=(C.out.cell (p:=⟨b,o+k*3+1,none⟩) Z.2).trans a1;have t2:=(C.out.cell (p:=⟨b,o+k*3+2,none⟩) Z.2).trans a2;have aO:Hid ((D.take (k+1)).map (fun d=>Value.int .i64 d.at_)=(D.take k).map (fun d=>Value.int .i64 d.at_) ++ [.int .i64 D[k].at_]):=zh (by rw[zL an,List.map_append];rfl);clear a0 a1 a2;generalize D[k].at_=I at *;generalize D[k].seq=sq at *;generalize aF:(D.take k).map (fun d=>Value.int .i64 d.at_)=zs at *;clear aF;have aG:zWW wr (wr.alloc (.cells #[.int .i64 sq,.int .i64 I,.slice F fn fc] 48)):=zRR _;have aB:=Blk.new wr 48 #[.int .i64 sq,.int .i64 I,.slice F fn fc];have x1:=aB.cell 1;simp only[zA,zB,zC]at x1;have ay:=zh ((hO.out.alloc (.cells #[.int .i64 sq,.int .i64 I,.slice F fn fc] 48)).alloc (.cells #[.int .i64 I] 3));have aa:=zh ((C.out.alloc aS (.cells #[.int .i64 sq,.int .i64 I,.slice F fn fc] 48)).alloc jm (.cells #[.int .i64 I] 3));clear aB aG
   go_upto_region 10 with(fail);generalize aE:wr.alloc (.cells #[.int .i64 sq,.int .i64 I,.slice F fn fc] 48)=w5 at *;clear aE t0 t1 t2
   go_wp2_with (first
    | (at_builtin;refine wpList_append_own_at _ rfl _ _ 27 rfl w4.heap.size 3 i0 _ 1 8 underlying27 aN aP aT aH rfl jd _ k zs rfl ay.out ⟨w5.heap.size,0,none⟩ 1 1 [.int .i64 I] rfl rfl (vH (cs:=#[.int .i64 I]) (t:=3) (fr:=(0,0)) (vK w5 _)) jt ?k1 ?k2 ?k3 ?_)
    | fail)
   case k1=>unfold maxLen;omega
   case k2=>omega
   try(case k3=>have:=aa.out.size;first|omega|(rw[vM]at *;omega))
   intro v4 w6 ag aj _ _;have ah:=zh ag;rw[←aO.out]at ah;have aQ:=zh (aa.out.grown aj aa.out.size (fun j hj=>(ay.out.lt j hj).1));clear ag aj x1;go_wp2_with fail;go_roundw
   case rel=>exact⟨_,k+1,rfl,jo,ju,ah,aQ⟩
   simp[intOf];omega
  obtain rfl:k=D.length:=jo;have aW:¬(D.length:Int)<(D.length:Int):=jo;have hO:=hO.out;rw[List.take_length]at hO;obtain⟨A5,c5,rfl,az,_⟩:=Ev.fP hO;have T:=zh (aA.out.trans (C.out.mono aA.out.size));have ap:=zh (aw.out.below C.out aw.out.lt);have H5:=zh (H4.out.below C.out);have q8:=(am.out.below C.out am.out.lt).cell 8;simp only[rqC,zA,zB,zC]at q8
  have CO:Hid (Calls prog 68 #[.int .i64 r.width,.slice A5 D.length c5] wr (qN wr.heap.size r.width (D.map (·.at_)) wr)):=zh (by
   have hm:(D.map (·.at_)).length=D.length:=List.length_map _
   have:=Hi.o7 A5 c5 wr.heap.size r.width (D.map (·.at_)) wr (by rw[hm,List.map_map];exact az) (zG _) (by rw[hm];omega) hwd (fun t ht=>by
    obtain⟨d,hd,rfl⟩:=List.mem_map.1 ht
    exact aR.out d hd)
   rwa[hm]at this)
  clear hO az C;go_wp2_with fail;refine CO.out.mono ?_;rintro e w7 ⟨v7,rfl,g⟩;have ab:¬r.width<1:=jo;rw[zH ab];rw[zH ab]at g;clear ab;have J:=zh g.own;have ai:=zh (T.out.trans (g.bel.mono T.out.size));have O:=zh (ap.out.below g.bel ap.out.lt);have k4:=(H5.out.below g.bel).blk.cell 4;simp only[mdC,zA,zB,zC]at k4;have aI:=T.out.size;have HL:Hid (∃L,ofF r.width (D.map (·.at_))=L):=zh ⟨_,rfl⟩;obtain⟨L,hL⟩:=HL.out;rw[hL]at J;have W:=zh hL;obtain⟨A8,c8,rfl,_⟩:=Ev.fP J.out;clear g CO q8 hL HL;by_cases ao:m.c.buckets<(L.length:Int)
  ·have Y:=zh ao;go_wp2_with fail;refine(iy 241 _).mono ?_;rintro e w9 ⟨rfl,f⟩;have x:=zt ai f;have l:=zb O f;clear f;have n:=zh (zz _ (w.heap.size+1) _ (rsC 241 0 0 nil nil nil 0 0 0 0) _ _ l.out);go_wp2_with (refine zx (o:=⟨none,.store 42 _ _,_,_,_,_⟩) rfl 42 _ _ rfl (w.heap.size+1) (rsC 241 0 0 nil nil nil 0 0 0 0) rfl rfl 42 rs0 l.out jk rfl (by simp[rsC,Value.oneCell']) ?_);refine zw (fA rfl rfl (zv _ (w.heap.size+1) 42 42 _ (0,0) _ n.out underlying42 rfl jk)) rfl ?_;exact⟨_,rfl,vI x.out (zZ _) _,0,_,HP.out,.inr (.inr ⟨q,D,rfl,rfl,jo,by rw[HU.out];exact HT.out,.inl ⟨by rw[W.out];exact Y.out,rfl⟩⟩)⟩
  have Y:=zh ao;have n:=zh (zz _ (w.heap.size+1) _ (rsC 0 0 0 nil (.slice A8 L.length c8) nil 0 0 0 0) _ _ O.out);go_wp2_with (refine zx (o:=⟨none,.store 42 _ _,_,_,_,_⟩) rfl 42 _ _ rfl (w.heap.size+1) (rsC 0 0 0 nil (.slice A8 L.length c8) nil 0 0 0 0) rfl rfl 42 rs0 O.out jk rfl (by simp[rsC,Value.oneCell']) ?_);refine zw (fA rfl rfl (zv _ (w.heap.size+1) 42 42 _ (0,0) _ n.out underlying42 rfl jk)) rfl ?_
  exact⟨_,rfl,vI ai.out (zZ _) _,0,_,HP.out,.inr (.inr ⟨q,D,rfl,rfl,jo,by rw[HU.out];exact HT.out,.inr ⟨by rw[W.out];have:=Y.out;omega,.slice A8 L.length c8,by
   rw[W.out]
   exact gz (lH J.out aI) (fun b hb=>vL w7 _ b _ (fun e=>by
    subst e
    exact absurd ((fO J.out hb).one ⟨_,_,O.out⟩) jd)),rfl⟩⟩)⟩
 have aV:(E != 0)=true:=by simpa using hE
 have HE:=zh hE;have A:=zh (R.out.trans (a.out.mono R.out.size));have H:=zh (P.out.below a.out P.out.lt);clear s N hE;generalize ((none:Option Q).getD noQ).kind=z1 at *;generalize ((none:Option Q).getD noQ).name=z2 at *
 go_upto_region 2 with(fail);generalize w2.alloc (.cells #[.int .i64 z1,.string z2,.slice V n1 c1,.slice A2 n2 S] 60)=w3 at *;go_wp2_with fail;refine(iy E _).mono ?_;rintro e w9 ⟨rfl,f⟩;have x:=zt A f;have l:=zb H f;clear f;have n:=zh (zz _ (w.heap.size+1) _ (rsC E 0 0 nil nil nil 0 0 0 0) _ _ l.out);go_wp2_with (refine zx (o:=⟨none,.store 42 _ _,_,_,_,_⟩) rfl 42 _ _ rfl (w.heap.size+1) (rsC E 0 0 nil nil nil 0 0 0 0) rfl rfl 42 rs0 l.out jk rfl (by simp[rsC,Value.oneCell']) ?_);refine zw (fA rfl rfl (zv _ (w.heap.size+1) 42 42 _ (0,0) _ n.out underlying42 rfl jk)) rfl ?_;exact⟨_,rfl,vI x.out (zZ _) _,E,_,HP.out,.inl ⟨HE.out,rfl⟩⟩
end
end Md
end Go.Proofs.YtmomjpolkkbhnaaGreat
