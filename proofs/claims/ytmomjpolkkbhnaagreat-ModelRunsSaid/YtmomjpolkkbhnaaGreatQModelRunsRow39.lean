/- The document's model: search (printed by gen_meh.py). -/
import Derived.Test.YtmomjpolkkbhnaaGreatQModelRunsRow38
import Derived.Test.YtmomjpolkkbhnaaGreatQModelRunsRow35
import Derived.Test.YtmomjpolkkbhnaaGreatQModelRunsRow29
set_option linter.unusedSimpArgs false
set_option linter.unusedVariables false
set_option maxRecDepth 20000
set_option maxHeartbeats 100000000
open Go.Proofs.Tryz
namespace Go.Proofs.YtmomjpolkkbhnaaGreat
namespace Md
open Go.RowKit Ut Tk Qy Qp Ev Cu
def RaP(A:Ans→Prop)(w:World)(e:Ending)(w':World):Prop:=∃cs a,e=.returned (.agg cs)∧zWW w w'∧A a∧AnsO w' cs a
section
variable {w:World} {S:Nat→Prop} {K:Nat} {m:M} {y:Rz}
theorem Ey(h:RAt w S K m y)(hK:K≤60000)(r:Rq)(z:Rw):Calls prog 50 #[.agg (rmC m y),.agg (rqC r z)] w (RaP (SeA m r) w):=by
 have u:zWW w (((w.alloc (.cells (rmC m y) 29)).alloc (.cells (rqC r z) 37)).alloc (.cells rs0 42)):=((zRR _).alloc jz _).alloc jm _;have hm:=((Blk.new w 29 (rmC m y)).alloc (.cells (rqC r z) 37)).alloc (.cells rs0 42);have hq:=(Blk.new (w.alloc (.cells (rmC m y) 29)) 37 (rqC r z)).alloc (.cells rs0 42);have hr:=Blk.new ((w.alloc (.cells (rmC m y) 29)).alloc (.cells (rqC r z) 37)) 42 rs0;have z1:(w.alloc (.cells (rmC m y) 29)).heap.size=w.heap.size+1:=jz;have z2:((w.alloc (.cells (rmC m y) 29)).alloc (.cells (rqC r z) 37)).heap.size=w.heap.size+2:=jz;rw[z1]at hq;rw[z2]at hr;have H1:=zh (h.below u);have HM:=zh hm;have HQ:=zh hq;have HR:=zh hr;have HB:=zh u;have av:w.heap.size+3≤(World.heap (((w.alloc (.cells (rmC m y) 29)).alloc (.cells (rqC r z) 37)).alloc (.cells rs0 42))).size:=jz;have X:=h.few;have ah:Hid (∀b,S b→b<w.heap.size):=zh h.lt;clear h u hm hq hr z1 z2;go_enter func50,ntmps50
 go_upto_region 1 with(fail);generalize (((w.alloc (.cells (rmC m y) 29)).alloc (.cells (rqC r z) 37)).alloc (.cells rs0 42))=w1 at *;have q4:=HQ.out.cell 4;simp only[rqC,zA,zB,zC]at q4;go_wp2_with fail;refine(p9 r.q w1).mono ?_;rintro e C ⟨E,o,a0,a1,a2,a3,hp,rfl,hF,f⟩;obtain⟨x,I,O,G,P,v,e4⟩:=hF.four;simp only[zQ,and_true]at e4;obtain⟨rfl,rfl,rfl,rfl⟩:=e4;have H2:=zh (H1.out.below f);have ad:=zb HM f;have p:=zb HR f;have ac:=zb HQ f;have s:=zt HB f;have HP:=zh hp;have V:QAt C C.heap.size (o.getD noQ) [.int .i64 (o.getD noQ).kind,.string (o.getD noQ).name,.slice x I O,.slice G P v]:=hF.at_ (fun b u=>u.2);have n:=zh V;have ag:zWW C (C.alloc (.cells #[.int .i64 (o.getD noQ).kind,.string (o.getD noQ).name,.slice x I O,.slice G P v] 60)):=zRR _;have c:=zh (Blk.new C 60 #[.int .i64 (o.getD noQ).kind,.string (o.getD noQ).name,.slice x I O,.slice G P v]);have a:=zh ag;clear hF f hp V ag q4;rcases oK HP.out with⟨rfl,q,rfl,ai⟩|⟨hE,rfl⟩
 ·skip
  have af:((some q:Option Q).getD noQ)=q:=rfl;rw[af]at n c a ⊢;have ak:=zh ai;clear af ai;obtain⟨qk,R⟩:∃qk,q.kind=qk:=⟨_,rfl⟩;obtain⟨qn,F⟩:∃qn,q.name=qn:=⟨_,rfl⟩;have Z:=zh (And.intro R F);rw[R,F]at n c a ⊢;clear R F;have j:=zh (s.out.trans (a.out.mono s.out.size));have l:=zh (p.out.below a.out p.out.lt);have k:=zh (ac.out.below a.out ac.out.lt);have aq:=zh (ad.out.below a.out ad.out.lt);have H3:=zh (H2.out.below a.out);have ae:=zh (n.out.grow a.out)
  go_upto_region 2 with(fail);generalize C.alloc (.cells #[.int .i64 qk,.string qn,.slice x I O,.slice G P v] 60)=T at *;have q5:=k.out.cell 5;have q6:=k.out.cell 6;have q7:=k.out.cell 7;simp only[rqC,zA,zB,zC]at q5 q6 q7;have k0:=c.out.cell 0;have k1:=c.out.cell 1;have k2:=c.out.cell 2;have k3:=c.out.cell 3;simp only[zA,zB,zC]at k0 k1 k2 k3;have CL:=zh (yj r.lim T);have CD:Hid (Calls prog 85 #[.agg (rmC m y),.agg #[.int .i64 qk,.string qn,.slice x I O,.slice G P v],.int .i64 r.frm,.int .i64 r.til] T (wV T S (upL m (inB r.frm r.til q)))):=zh (Ag H3.out hK q ak.out _ _ _ _ r.frm r.til ⟨x,I,O,G,P,v,by rw[Z.out.1,Z.out.2]⟩ ae.out);have aa:Hid (iO r.lim=true→1≤r.lim∧r.lim≤10000):=zh (fun h=>by simpa[iO]using h);obtain⟨lb,H⟩:∃lb,iO r.lim=lb:=⟨_,rfl⟩;rw[H]at CL aa;have ab:=zh H;have ap:Hid ((upL m (inB r.frm r.til q)).length≤60000):=zh (zY (List.length_filter_le _ _) (zY X hK));clear H;generalize hu:upL m (inB r.frm r.til q)=U at *;have HU:=zh hu;clear hu
  cases lb with
  | false=>
   clear CD;go_wp2_with fail;refine CL.out.mono ?_;rintro e w4 ⟨rfl,rfl⟩;go_wp2_with fail;refine(lW (1) T).mono ?_;rintro e w9 ⟨rfl,d⟩;have B:=zt j d;have g:=zb l d;clear d;have i:=zh (zz _ (w.heap.size+2) _ (rsC (1) 0 0 nil nil nil 0 0 0 0) _ _ g.out);go_wp2_with (refine zx (o:=⟨none,.store 42 _ _,_,_,_,_⟩) rfl 42 _ _ rfl (w.heap.size+2) (rsC (1) 0 0 nil nil nil 0 0 0 0) rfl rfl 42 rs0 g.out jk rfl (by simp[rsC,Value.oneCell']) ?_);refine zw (fA rfl rfl (zv _ (w.heap.size+2) 42 42 _ (0,0) _ i.out underlying42 rfl jk)) rfl ?_;exact⟨_,_,rfl,vI B.out jo _,⟨0,_,HP.out,.inr (.inl ⟨rfl,ab.out,rfl⟩)⟩,iq ..⟩
  | true=>
   go_wp2_with fail;refine CL.out.mono ?_;rintro e w4 ⟨rfl,rfl⟩;clear CL;have LROW:=zh aq.out;go_wp2_with (first|(refine wpList_load_row (o:=⟨some 23,.load 29 _,_,_,_,_⟩) rfl 29 _ rfl (w.heap.size) rfl 29 (rmC m y) (0,0) _ LROW.out underlying29 rfl jk ?_)|fail);refine CD.out.mono ?_;rintro e w4 ⟨v4,D,rfl,hD,hT,t⟩;obtain⟨A3,c3,rfl,_,az,_⟩:=hD.read;have aj:=zt j t;have J:=zb l t;have ao:=zb k t;have an:=zh hD;have HT:=zh hT;have aB:D.length≤60000:=by rw[hT.perm.length_eq];exact ap.out
   have ax:=j.out.size;have aw:=aj.out.size;obtain⟨aA,ay⟩:=aa.out (by first|rfl|trivial);have am:min (D.length:Int) r.lim=((min D.length r.lim.toNat:Nat):Int):=jo;have al:((min D.length r.lim.toNat:Nat):Int)≤(c3:Int):=jo;clear hD hT t CD q5 q6 q7 k0 k1 k2 k3;have q7:=ao.out.cell 7;simp only[rqC,zA,zB,zC]at q7;obtain⟨L,A⟩:∃L,min D.length r.lim.toNat=L:=⟨_,rfl⟩;have N:=zh A;rw[A]at am al;clear A;have i:=zh (zz _ (w.heap.size+2) _ (rsC 0 0 0 (.slice A3 L c3) nil nil 0 0 0 0) _ _ J.out);go_wp2_with (refine zx (o:=⟨none,.store 42 _ _,_,_,_,_⟩) rfl 42 _ _ rfl (w.heap.size+2) (rsC 0 0 0 (.slice A3 L c3) nil nil 0 0 0 0) rfl rfl 42 rs0 J.out jk rfl (by simp[rsC,Value.oneCell']) ?_);refine zw (fA rfl rfl (zv _ (w.heap.size+2) 42 42 _ (0,0) _ i.out underlying42 rfl jk)) rfl ?_;have W:=an.out.row J.out (fun b u=>by have:=ah.out b u;omega) (rsC 0 0 0 (.slice A3 L c3) nil nil 0 0 0 0);have ar:=DW.ofS W (fun b u=>zT (show b<w4.heap.size by have:=ah.out b u;omega) jz);have Y:L≤D.length:=by rw[←N.out];exact Nat.min_le_left _ _
   exact⟨_,{ an0 0 0 0 with docs:=D.take (min D.length r.lim.toNat) },rfl,vI aj.out jo _,⟨0,_,HP.out,.inr (.inr ⟨q,D,rfl,rfl,ab.out,by rw[HU.out];exact HT.out,rfl⟩)⟩,
    ⟨_,nil,nil,rfl,by rw[N.out];exact ar.pre rfl Y,⟨0,vO _ _ _ _⟩,0,vO _ _ _ _⟩,by rw[N.out];show (D.take L).length≤1048576;rw[zK];omega,zS _,zS _⟩
 have au:(E != 0)=true:=by simpa using hE
 have HE:=zh hE;have j:=zh (s.out.trans (a.out.mono s.out.size));have l:=zh (p.out.below a.out p.out.lt);clear c n hE;generalize ((none:Option Q).getD noQ).kind=z1 at *;generalize ((none:Option Q).getD noQ).name=z2 at *
 go_upto_region 2 with(fail);generalize C.alloc (.cells #[.int .i64 z1,.string z2,.slice x I O,.slice G P v] 60)=T at *;go_wp2_with fail;refine(lW (E) T).mono ?_;rintro e w9 ⟨rfl,d⟩;have B:=zt j d;have g:=zb l d;clear d;have i:=zh (zz _ (w.heap.size+2) _ (rsC (E) 0 0 nil nil nil 0 0 0 0) _ _ g.out);go_wp2_with (refine zx (o:=⟨none,.store 42 _ _,_,_,_,_⟩) rfl 42 _ _ rfl (w.heap.size+2) (rsC (E) 0 0 nil nil nil 0 0 0 0) rfl rfl 42 rs0 g.out jk rfl (by simp[rsC,Value.oneCell']) ?_);refine zw (fA rfl rfl (zv _ (w.heap.size+2) 42 42 _ (0,0) _ i.out underlying42 rfl jk)) rfl ?_;exact⟨_,_,rfl,vI B.out jo _,⟨E,_,HP.out,.inl ⟨HE.out,rfl⟩⟩,iq ..⟩
end
end Md

namespace Md
open Go.RowKit Ut Tk Qy Qp Ev Cu
theorem yC(a:Int)(q:ByteArray)(w:World):Calls prog 86 #[.agg #[.int .i64 a,.string q]] w (BytesTo w (gJ a q) (fE a q)):=by
 unfold gJ fE;by_cases h:IsC a q
 ·rw[zI h,zI h];obtain⟨n,rfl⟩:∃n:Nat,a=(n:Int):=⟨a.toNat,by have:=h.1;omega⟩;rw[Int.toNat_natCast];exact yA n q w h
 rw[zH h,zH h];exact yZ a q w h
theorem MC(a:Int)(q:ByteArray):fE a q=0∨fE a q=250:=by
 unfold fE;by_cases h:IsC a q
 ·rw[zI h];exact .inl rfl
 rw[zH h];exact .inr rfl
theorem ME{w:World}{base:Nat}{A:Option Addr}{c:Nat}{L:List UInt8}(h:w.ownsRow base 5 1 (.slice A L.length c) L.length (bv L))(hl:L.length≤1048576):AnsO w (rsC 0 0 0 nil nil (.slice A L.length c) 0 0 0 0) { an0 0 0 0 with cur:=L }:=
 ⟨⟨nil,nil,_,rfl,wU w,⟨0,vO _ _ _ _⟩,base,h⟩,zS _,zS _,hl⟩
section
variable {w:World} {S:Nat→Prop} {K:Nat} {m:M} {y:Rz}
theorem IQ(r:Rq)(z:Rw):Calls prog 52 #[.agg (rqC r z)] w (RaP (OpA r) w):=by
 have C:zWW w ((w.alloc (.cells (rqC r z) 37)).alloc (.cells rs0 42)):=(zRR _).alloc jz _;have hq:=(Blk.new w 37 (rqC r z)).alloc (.cells rs0 42);have hr:=Blk.new (w.alloc (.cells (rqC r z) 37)) 42 rs0;have B:(w.alloc (.cells (rqC r z) 37)).heap.size=w.heap.size+1:=jz;rw[B]at hr;have HQ:=zh hq;have HR:=zh hr;have HB:=zh C;have ad:w.heap.size+2≤(World.heap ((w.alloc (.cells (rqC r z) 37)).alloc (.cells rs0 42))).size:=jz;clear C hq hr B;go_enter func52,ntmps52
 go_upto_region 1 with(fail);generalize ((w.alloc (.cells (rqC r z) 37)).alloc (.cells rs0 42))=w1 at *;have Y:=HQ.out.cell 4;simp only[rqC,zA,zB,zC]at Y;go_wp2_with fail;refine(p9 r.q w1).mono ?_;rintro e v ⟨E,o,a0,a1,a2,a3,hp,rfl,hF,l⟩;obtain⟨R,X,U,T,W,L,e4⟩:=hF.four;simp only[zQ,and_true]at e4;obtain⟨rfl,rfl,rfl,rfl⟩:=e4;have h:=zb HR l;have t:=zb HQ l;have n:=zt HB l;have Z:=zh hp;have D:QAt v v.heap.size (o.getD noQ) [.int .i64 (o.getD noQ).kind,.string (o.getD noQ).name,.slice R X U,.slice T W L]:=hF.at_ (fun b C=>C.2);have F:=zh D;have I:zWW v (v.alloc (.cells #[.int .i64 (o.getD noQ).kind,.string (o.getD noQ).name,.slice R X U,.slice T W L] 60)):=zRR _;have J:=zh (Blk.new v 60 #[.int .i64 (o.getD noQ).kind,.string (o.getD noQ).name,.slice R X U,.slice T W L]);have a:=zh I;clear hF l hp D I Y;rcases oK Z.out with⟨rfl,q,rfl,af⟩|⟨hE,rfl⟩
 ·have f:=zh (n.out.trans (a.out.mono n.out.size));have j:=zh (h.out.below a.out h.out.lt);have G:=zh (t.out.below a.out t.out.lt);clear J F h t;generalize ((some q:Option Q).getD noQ).kind=B at *;generalize ((some q:Option Q).getD noQ).name=z2 at *
  go_upto_region 2 with(fail);generalize v.alloc (.cells #[.int .i64 B,.string z2,.slice R X U,.slice T W L] 60)=w3 at *;have Y:=G.out.cell 4;have q9:=G.out.cell 9;simp only[rqC,zA,zB,zC]at Y q9;have CE:=zh (yC r.after r.q w3);have P:=MC r.after r.q;obtain⟨en,p⟩:∃en,fE r.after r.q=en:=⟨_,rfl⟩;rw[p]at CE P;have x:=zh p;have V:=zh (og r.after r.q);obtain⟨N,u⟩:∃N,gJ r.after r.q=N:=⟨_,rfl⟩;rw[u]at CE V;have aa:=zh u;clear p u;go_wp2_with fail;refine CE.out.mono ?_;rintro e w8 i;obtain⟨v8,rfl,A⟩:=i.ex;obtain⟨A4,c4,rfl,_⟩:=Ev.fP A;have H:=zh A;have O:=zh (f.out.trans (i.bel.mono f.out.size));have k:=zh (j.out.below i.bel j.out.lt);have ae:=f.out.size;clear i A CE Y q9;rcases P with rfl|rfl
  ·skip
   have d:=zh (zz _ (w.heap.size+1) _ (rsC 0 0 0 nil nil (.slice A4 N.length c4) 0 0 0 0) _ _ k.out);go_wp2_with (refine zx (o:=⟨none,.store 42 _ _,_,_,_,_⟩) rfl 42 _ _ rfl (w.heap.size+1) (rsC 0 0 0 nil nil (.slice A4 N.length c4) 0 0 0 0) rfl rfl 42 rs0 k.out jk rfl (by simp[rsC,Value.oneCell']) ?_);refine zw (fA rfl rfl (zv _ (w.heap.size+1) 42 42 _ (0,0) _ d.out underlying42 rfl jk)) rfl ?_
   have ab:=gz (w':=w8.setRow (w.heap.size+1) (rsC 0 0 0 nil nil (.slice A4 N.length c4) 0 0 0 0)) H.out (fun b C=>vL w8 _ b _ (fun e=>by
    subst e
    exact absurd ((fO H.out C).one ⟨_,_,k.out⟩) jd))
   exact⟨_,{ an0 0 0 0 with cur:=gJ r.after r.q },rfl,vI O.out jo _,⟨0,_,Z.out,.inr (.inr ⟨rfl,x.out,rfl⟩)⟩,by rw[aa.out];exact ME ab (by have:=V.out;omega)⟩
  go_wp2_with fail;refine(lW (250) w8).mono ?_;rintro e w9 ⟨rfl,c⟩;have s:=zt O c;have g:=zb k c;clear c;have d:=zh (zz _ (w.heap.size+1) _ (rsC (250) 0 0 nil nil nil 0 0 0 0) _ _ g.out);go_wp2_with (refine zx (o:=⟨none,.store 42 _ _,_,_,_,_⟩) rfl 42 _ _ rfl (w.heap.size+1) (rsC (250) 0 0 nil nil nil 0 0 0 0) rfl rfl 42 rs0 g.out jk rfl (by simp[rsC,Value.oneCell']) ?_);refine zw (fA rfl rfl (zv _ (w.heap.size+1) 42 42 _ (0,0) _ d.out underlying42 rfl jk)) rfl ?_;exact⟨_,_,rfl,vI s.out jo _,⟨0,_,Z.out,.inr (.inl ⟨rfl,by rw[x.out];decide,by rw[x.out]⟩)⟩,iq ..⟩
 have ac:(E != 0)=true:=by simpa using hE
 have HE:=zh hE;have f:=zh (n.out.trans (a.out.mono n.out.size));have j:=zh (h.out.below a.out h.out.lt);clear J F hE;generalize ((none:Option Q).getD noQ).kind=B at *;generalize ((none:Option Q).getD noQ).name=z2 at *
 go_upto_region 2 with(fail);generalize v.alloc (.cells #[.int .i64 B,.string z2,.slice R X U,.slice T W L] 60)=w3 at *;go_wp2_with fail;refine(lW (E) w3).mono ?_;rintro e w9 ⟨rfl,c⟩;have s:=zt f c;have g:=zb j c;clear c;have d:=zh (zz _ (w.heap.size+1) _ (rsC (E) 0 0 nil nil nil 0 0 0 0) _ _ g.out);go_wp2_with (refine zx (o:=⟨none,.store 42 _ _,_,_,_,_⟩) rfl 42 _ _ rfl (w.heap.size+1) (rsC (E) 0 0 nil nil nil 0 0 0 0) rfl rfl 42 rs0 g.out jk rfl (by simp[rsC,Value.oneCell']) ?_);refine zw (fA rfl rfl (zv _ (w.heap.size+1) 42 42 _ (0,0) _ d.out underlying42 rfl jk)) rfl ?_;exact⟨_,_,rfl,vI s.out jo _,⟨E,_,Z.out,.inl ⟨HE.out,rfl⟩⟩,iq ..⟩
theorem F6(h:RAt w S K m y)(hK:K≤60000):Calls prog 54 #[.agg (rmC m y)] w (RaP (fun a=>a=sK m) w):=by
 have u:zWW w ((w.alloc (.cells (rmC m y) 29)).alloc (.cells rs0 42)):=(zRR _).alloc jz _;have hq:=(Blk.new w 29 (rmC m y)).alloc (.cells rs0 42);have Z:=Blk.new (w.alloc (.cells (rmC m y) 29)) 42 rs0;have z1:(w.alloc (.cells (rmC m y) 29)).heap.size=w.heap.size+1:=jz;rw[z1]at Z;have H1:=zh (h.below u);have HM:=zh hq;have HR:=zh Z;have HB:=zh u;have ak:w.heap.size+2≤(World.heap ((w.alloc (.cells (rmC m y) 29)).alloc (.cells rs0 42))).size:=jz;have ad:=h.few;have ae:m.ds.length≤y.n:=by rw[h.ds.ln];exact zG _
 have ac:y.n≤m.ds.length:=by rw[h.ds.ln];exact zG _
 have aa:Hid (∀k,(h:k<m.ds.length)→((m.ds.take (k+1)).filter (fun d=>decide (m.floor≤d.at_)&&true)).length=((m.ds.take k).filter (fun d=>decide (m.floor≤d.at_)&&true)).length+if m.floor≤m.ds[k].at_ then 1 else 0):=zh (fun k N=>by
  rw[zL N,List.filter_append,zJ];congr 1
  by_cases hp:m.floor≤m.ds[k].at_<;>simp[List.filter_cons,hp])
 have am:Hid (∀k,((m.ds.take k).filter (fun d=>decide (m.floor≤d.at_)&&true)).length≤k):=zh (fun k=>zY (List.length_filter_le _ _) jw)
 have X:Hid (∀n k:Nat,n=((m.ds.take k).filter (fun d=>decide (m.floor≤d.at_)&&true)).length→k=m.ds.length→(⟨0,0,m.floor,[],[],[],(n:Int),((m.ds.length:Nat):Int)+1,m.now,m.acked⟩:Ans)=sK m):=zh (fun n k hn N=>by
  subst N;rw[List.take_length]at hn;subst hn
  rfl)
 obtain⟨J,z⟩:∃J:Nat→Nat,(fun k=>((m.ds.take k).filter (fun d=>decide (m.floor≤d.at_)&&true)).length)=J:=⟨_,rfl⟩;have j:Hid (∀k,J k=((m.ds.take k).filter (fun d=>decide (m.floor≤d.at_)&&true)).length):=zh (fun k=>by rw[←z]);clear h u hq Z z1 z;go_enter func54,ntmps54
 go_upto_region 1 with(fail);generalize ((w.alloc (.cells (rmC m y) 29)).alloc (.cells rs0 42))=G at *;go_wp2_with fail;go_loopw [3,4] (fun nv V wr=>∃(k:Nat) (n:Nat),nv=.int .i64 (n:Nat)∧V=.int .i64 (k:Nat)∧k≤m.ds.length∧n≤k∧Hid (n=J k)∧Hid (zWW G wr)) (fun _ V _=>m.ds.length-(intOf V).toNat)
 case atStart=>exact⟨0,0,rfl,rfl,zS _,zG _,zh (by rw[j.out];simp),zh (zy _ _)⟩
 obtain⟨k,n,rfl,rfl,N,ah,W,b⟩:=hrel;have D:=b.out.size;have f:=HM.out.below b.out HM.out.lt;by_cases E:k<m.ds.length
 ·have ai:(k:Int)<(y.n:Int):=jo;have af:(0:Int)≤(k:Int):=jo;obtain⟨gb,go,F,fc,T,ab,q0,q1,q2,_,_⟩:=(H1.out.below b.out).doc E;have q:=aa.out k E;rw[←j.out,←j.out]at q;have e:=zh q;have p:=f.cell 7;simp only[rmC,zA,zB,zC]at p
  have Hcy:Hid (∀g,zWW wr g→g.cell? ⟨w.heap.size,7,none⟩=some (.slice y.A y.n y.c)∧g.cell? ⟨w.heap.size,8,none⟩=some (.int .i64 m.floor)∧g.cell? ⟨gb,go+k*3+1,none⟩=some (.int .i64 m.ds[k].at_)):=zh (fun g u=>by
   have r:=f.below u f.lt;have L:=r.cell 7;have I:=r.cell 8;simp only[rmC,zA,zB,zC]at L I
   exact⟨L,I,(u.cell ab).trans q1⟩)
  clear q q0 q1 q2 f;generalize m.ds[k].at_=ta at *;obtain⟨cA,C⟩:∃cA,y.c=cA:=⟨_,rfl⟩;rw[T,C]at Hcy p;clear C
  go_upto_region 5 with(fail);clear p;by_cases v:m.floor≤ta
  ·rw[zI v]at e;refine iF (fF []) (fun g=>Below (World.heap wr).size wr g) (fun G w2=>zWW G w2) jk jk (fQ) (zy _ _).drew ?_
   iterate 10
    refine fG _ ?_ rfl jr jr (fun g l hD=>?_) ?_;rotate_left
    ·have Y:=Hcy.out g l;go_simp;all_goals with_reducible rfl
    try simp only[Act.put,zD,zE,zF]
   refine fW (fun w5 l R=>?_);have s:=zh (b.out.trans (l.mono D));have aj:IntKind.i64.wrap ((n:Int)+1)=((n+1:Nat):Int):=by rw[IntKind.wrap_i64];omega
   clear R l;go_wp2;go_roundw
   case rel=>exact⟨k+1,n+1,rfl,ju,jo,jo,zh (by rw[e.out,←W.out]),s⟩
   simp[intOf];omega
  rw[zH v]at e;refine iF (fF []) (fun g=>Below (World.heap wr).size wr g) (fun G w2=>zWW G w2) jk jk (fQ) (zy _ _).drew ?_
  iterate 10
   refine fG _ ?_ rfl jr jr (fun g l hD=>?_) ?_;rotate_left
   ·have Y:=Hcy.out g l;go_simp;all_goals with_reducible rfl
   try simp only[Act.put,zD,zE,zF]
  refine fW (fun w5 l R=>?_);have s:=zh (b.out.trans (l.mono D));clear R l;go_wp2;go_roundw
  case rel=>exact⟨k+1,n,rfl,ju,jo,jo,zh (by rw[e.out,←W.out];rfl),s⟩
  simp[intOf];omega
 obtain rfl:k=m.ds.length:=jo;have ag:¬(m.ds.length:Int)<(y.n:Int):=jo;have H:=zh (HR.out.below b.out HR.out.lt);have U:=zh (HB.out.trans (b.out.mono HB.out.size));have HE:=zh (X.out n m.ds.length (by rw[W.out,j.out]) rfl);obtain⟨t,x⟩:∃t,((m.ds.length:Nat):Int)=t:=⟨_,rfl⟩;have B:(y.n:Int)=t:=jo;have al:IntKind.i64.wrap ((y.n:Int)+1)=t+1:=by rw[IntKind.wrap_i64];omega
 rw[x]at HE;have i:=zh f;have L:=i.out.cell 7;have I:=i.out.cell 8;have r9:=i.out.cell 9;have O:=i.out.cell 10;simp only[rmC,zA,zB,zC]at L I r9 O;clear f x B;have P:=zh (zz _ (w.heap.size+1) _ (rsC 0 0 m.floor nil nil nil n (t+1) m.now m.acked) _ _ H.out);go_wp2_with (refine zx (o:=⟨none,.store 42 _ _,_,_,_,_⟩) rfl 42 _ _ rfl (w.heap.size+1) (rsC 0 0 m.floor nil nil nil n (t+1) m.now m.acked) rfl rfl 42 rs0 H.out jk rfl (by simp[rsC,Value.oneCell']) ?_);refine zw (fA rfl rfl (zv _ (w.heap.size+1) 42 42 _ (0,0) _ P.out underlying42 rfl jk)) rfl ?_;exact⟨_,_,rfl,vI U.out jo _,rfl,by rw[←HE.out];exact iq ..⟩
end
end Md

namespace Md
open Go.RowKit Ut Tk Qy Qp Ev Cu
section
variable {w:World} {S:Nat→Prop} {K:Nat} {m:M} {y:Rz}
theorem IR(h:RAt w S K m y)(hK:K≤60000)(r:Rq)(z:Rw)(hcur:Reads w w.heap.size 1 z.C z.cn (bv r.cur))(hcn:z.cn≤140737488351232∧z.cn≤z.cc∧(z.C=none→z.cc=0)) :
  Calls prog 53 #[.agg (rmC m y),.agg (rqC r z)] w (RaP (TlA m r) w):=by
 have j:zWW w (((w.alloc (.cells (rmC m y) 29)).alloc (.cells (rqC r z) 37)).alloc (.cells rs0 42)):=((zRR _).alloc jz _).alloc jm _;have hm:=((Blk.new w 29 (rmC m y)).alloc (.cells (rqC r z) 37)).alloc (.cells rs0 42);have hq:=(Blk.new (w.alloc (.cells (rmC m y) 29)) 37 (rqC r z)).alloc (.cells rs0 42);have hr:=Blk.new ((w.alloc (.cells (rmC m y) 29)).alloc (.cells (rqC r z) 37)) 42 rs0;have z1:(w.alloc (.cells (rmC m y) 29)).heap.size=w.heap.size+1:=jz;have z2:((w.alloc (.cells (rmC m y) 29)).alloc (.cells (rqC r z) 37)).heap.size=w.heap.size+2:=jz;rw[z1]at hq;rw[z2]at hr;have H1:=zh (h.below j);have HM:=zh hm;have HQ:=zh hq;have HR:=zh hr;have HB:=zh j;have bi:w.heap.size+3≤(World.heap (((w.alloc (.cells (rmC m y) 29)).alloc (.cells (rqC r z) 37)).alloc (.cells rs0 42))).size:=jz;have az:=h.few;have be:Hid (∀b,S b→b<w.heap.size):=zh h.lt;have CD:Hid (∀i,zWW w i→Calls prog 87 #[.slice z.C z.cn z.cc] i (sJ i r.cur)):=zh (fun i j=>Ez z.C z.cn z.cc r.cur i ((hcur.below j).more j.size) hcn.1 hcn.2.1);have aN:=zh h.ok;clear hcur hcn;clear h j hm hq hr z1 z2;go_enter func53,ntmps53
 go_upto_region 1 with(fail);generalize (((w.alloc (.cells (rmC m y) 29)).alloc (.cells (rqC r z) 37)).alloc (.cells rs0 42))=w1 at *;have aJ:=HQ.out.cell 10;simp only[rqC,zA,zB,zC]at aJ;go_wp2_with fail;refine(CD.out w1 HB.out).mono ?_;rintro e w2 ⟨a,q,E,hd,rfl,ao⟩;have HD:=zh hd;have aZ:zWW w2 (w2.alloc (.cells #[.int .i64 a,.string q] 122)):=zRR _;have G:=ao.trans (aZ.mono ao.size);have ac:=zh (Blk.new w2 122 #[.int .i64 a,.string q]);have H3:=zh (H1.out.below G);have aW:=zb HM G;have V:=zb HR G;have ad:=zb HQ G;have ab:=zt HB G;clear ao aZ G hd CD aJ H1 HM HR HQ HB;have bf:E=0∨E≠0:=jo
 go_upto_region 2 with(fail);generalize w2.alloc (.cells #[.int .i64 a,.string q] 122)=w3 at *;rcases bf with rfl|hE
 ·have q7:=ad.out.cell 7;have y1:=ac.out.cell 1;simp only[rqC,zA,zB,zC]at q7 y1;have CL:=zh (yj r.lim w3);have aG:Hid (iO r.lim=true→1≤r.lim):=zh (fun h=>(show 1≤r.lim∧r.lim≤10000 by simpa[iO]using h).1);obtain⟨lb,ap⟩:∃lb,iO r.lim=lb:=⟨_,rfl⟩;rw[ap]at CL aG;have aO:=zh ap;clear ap
  cases lb with
  | false=>
   go_wp2_with fail;refine CL.out.mono ?_;rintro e L ⟨rfl,rfl⟩;go_wp2_with fail;refine(lW (1) w3).mono ?_;rintro e w9 ⟨rfl,B⟩;have ai:=zt ab B;have N:=zb V B;clear B;have al:=zh (zz _ (w.heap.size+2) _ (rsC (1) 0 0 nil nil nil 0 0 0 0) _ _ N.out);go_wp2_with (refine zx (o:=⟨none,.store 42 _ _,_,_,_,_⟩) rfl 42 _ _ rfl (w.heap.size+2) (rsC (1) 0 0 nil nil nil 0 0 0 0) rfl rfl 42 rs0 N.out jk rfl (by simp[rsC,Value.oneCell']) ?_);refine zw (fA rfl rfl (zv _ (w.heap.size+2) 42 42 _ (0,0) _ al.out underlying42 rfl jk)) rfl ?_;exact⟨_,_,rfl,vI ai.out jo _,⟨a,q,0,HD.out,.inr (.inl ⟨rfl,aO.out,rfl⟩)⟩,iq ..⟩
  | true=>
   go_wp2_with fail;refine CL.out.mono ?_;rintro e L ⟨rfl,rfl⟩;clear CL;go_wp2_with fail;refine(p9 q w3).mono ?_;rintro e L ⟨E,o,a0,a1,a2,a3,hp,rfl,hF,aw⟩;obtain⟨A1,n1,c1,A2,n2,c2,e4⟩:=hF.four;simp only[zQ,and_true]at e4;obtain⟨rfl,rfl,rfl,rfl⟩:=e4;obtain⟨o',aX⟩:=(uf HD.out rfl).2.2;obtain⟨rfl,rfl⟩:=hp.det aX
   obtain⟨D,rfl,a5⟩:∃D,o=some D∧QSz D:=by
    rcases oK hp with⟨_,q,rfl,h⟩|⟨h,_⟩
    ·exact⟨q,rfl,h⟩
    exact absurd rfl h
   have HP:=zh hp;have aV:((some D:Option Q).getD noQ)=D:=rfl;rw[aV]at hF ⊢;have ay:QAt L L.heap.size D [.int .i64 D.kind,.string D.name,.slice A1 n1 c1,.slice A2 n2 c2]:=hF.at_ (fun b j=>j.2);have af:zWW L (L.alloc (.cells #[.int .i64 D.kind,.string D.name,.slice A1 n1 c1,.slice A2 n2 c2] 60)):=zRR _;have v:=aw.trans (af.mono aw.size);have aq:=zh (Blk.new L 60 #[.int .i64 D.kind,.string D.name,.slice A1 n1 c1,.slice A2 n2 c2]);have aK:=zh (ay.grow af);have H5:=zh (H3.out.below v);have ar:=zb aW v;have aP:=zb V v;have av:=zb ad v;have P:=zb ac v;have W:=zt ab v;have a6:=zh a5;clear aw af v ay hF hp aX aV a5 q7 y1 H3 aW V ad ac ab;obtain⟨k5,ae⟩:∃k5,D.kind=k5:=⟨_,rfl⟩;obtain⟨n5,am⟩:∃n5,D.name=n5:=⟨_,rfl⟩;have aD:=zh (And.intro ae am);rw[ae,am]at aq aK H5 ar aP av P W ⊢;clear ae am
   go_upto_region 7 with(fail);generalize L.alloc (.cells #[.int .i64 k5,.string n5,.slice A1 n1 c1,.slice A2 n2 c2] 60)=w5 at *;have CU:Hid (∀i,zWW w5 i→Calls prog 89 #[.agg (rmC m y),.agg #[.int .i64 k5,.string n5,.slice A1 n1 c1,.slice A2 n2 c2],.int .i64 a,.int .i64 m.acked] i (Di i S (lh m (fun d=>fC d.fs D) a m.acked))):=zh (fun i j=>F5 (H5.out.below j) hK D a6.out _ _ _ _ a m.acked ⟨A1,n1,c1,A2,n2,c2,by rw[aD.out.1,aD.out.2]⟩ (aK.out.grow j));have an:Hid ((lh m (fun d=>fC d.fs D) a m.acked).length≤60000):=zh (zY (Lx ..) (zY az hK));have Z:=uf HD.out rfl;have O:=NL (a:=a) (k:=m.acked) (aG.out (by first|rfl|trivial)) (Nt aN.out (fun d=>fC d.fs D));have ah:Hid (gV a m.acked r.lim (lh m (fun d=>fC d.fs D) a m.acked)=gV a m.acked r.lim (upL m (fun d=>fC d.fs D))):=zh (Lv m _ a m.acked r.lim);obtain⟨U,hu⟩:∃U,lh m (fun d=>fC d.fs D) a m.acked=U:=⟨_,rfl⟩;rw[hu]at CU an ah;clear hu;rw[←ah.out]at O;have aI:Hid ((gV a m.acked r.lim U).1.length≤60000):=zh (zY (wF ..) an.out);obtain⟨I,F,aj⟩:∃I F,gV a m.acked r.lim U=(I,F):=⟨_,_,rfl⟩;have aF:=zh aj;rw[aj]at O aI;have aS:IsC F q:=⟨by have h1:=O.ge;have h2:=Z.1;show 0≤F;have h1:a≤F:=h1;omega,by have h1:=O.le;have h2:=Z.2.1;have h3:=aN.out.ak.2;have h1:F≤max a m.acked:=h1;omega,Z.2.2⟩;have aU:=zh aS;have CF:Hid (∀i A n c,DocsAt i i.heap.size A n U→Calls prog 88 #[.agg #[.int .i64 a,.string q],.int .i64 m.acked,.int .i64 r.lim,.slice A n c] i (Dh i (I,F) q)):=zh (fun i A n c X=>by rw[←aF.out];exact Ep a m.acked r.lim q A n c U i X (by rw[←X.ln];have:=an.out;omega))
   have Hc:Hid (∀i,zWW w5 i→i.cell? ⟨w2.heap.size,0,none⟩=some (.int .i64 a)∧i.cell? ⟨w2.heap.size,1,none⟩=some (.string q)∧i.cell? ⟨w.heap.size+1,7,none⟩=some (.int .i64 r.lim)∧i.cell? ⟨L.heap.size,0,none⟩=some (.int .i64 k5)∧i.cell? ⟨L.heap.size,1,none⟩=some (.string n5)∧i.cell? ⟨L.heap.size,2,none⟩=some (.slice A1 n1 c1)∧i.cell? ⟨L.heap.size,3,none⟩=some (.slice A2 n2 c2)∧i.cell? ⟨w.heap.size,0,none⟩=some (.int .i64 m.c.size)∧i.cell? ⟨w.heap.size,1,none⟩=some (.int .i64 m.c.age)∧i.cell? ⟨w.heap.size,2,none⟩=some (.int .i64 m.c.retain)∧i.cell? ⟨w.heap.size,3,none⟩=some (.int .i64 m.c.batch)∧i.cell? ⟨w.heap.size,4,none⟩=some (.int .i64 m.c.buckets)∧i.cell? ⟨w.heap.size,5,none⟩=some (.bool m.c.bt)∧i.cell? ⟨w.heap.size,6,none⟩=some (.bool m.c.bb)∧i.cell? ⟨w.heap.size,7,none⟩=some (.slice y.A y.n y.c)∧i.cell? ⟨w.heap.size,8,none⟩=some (.int .i64 m.floor)∧i.cell? ⟨w.heap.size,9,none⟩=some (.int .i64 m.now)∧i.cell? ⟨w.heap.size,10,none⟩=some (.int .i64 m.acked)∧i.cell? ⟨w.heap.size,11,none⟩=some (.slice y.EA y.en y.ec)):=zh (fun i j=>by
    have r0:=(P.out.below j P.out.lt).cell 0;have r1:=(P.out.below j P.out.lt).cell 1;have r3:=(av.out.below j av.out.lt).cell 7;have s:=aq.out.below j aq.out.lt;have s0:=s.cell 0;have s1:=s.cell 1;have s2:=s.cell 2;have s3:=s.cell 3;have t:=ar.out.below j ar.out.lt;have u0:=t.cell 0;have u1:=t.cell 1;have u2:=t.cell 2;have u3:=t.cell 3;have u4:=t.cell 4;have u5:=t.cell 5;have u6:=t.cell 6;have u7:=t.cell 7;have u8:=t.cell 8;have u9:=t.cell 9;have u10:=t.cell 10;have u11:=t.cell 11;simp only[rmC,rqC,zA,zB,zC]at r0 r1 r3 s0 s1 s2 s3 u0 u1 u2 u3 u4 u5 u6 u7 u8 u9 u10 u11
    exact⟨r0,r1,r3,s0,s1,s2,s3,u0,u1,u2,u3,u4,u5,u6,u7,u8,u9,u10,u11⟩)
   clear aj O aS Z;refine kJ 18 (fF [(11,⟨Option Addr × Nat,fun x=>.slice x.1 U.length x.2,fun x wz=>DocsAt wz wz.heap.size x.1 U.length U⟩),(12,⟨Option Addr × Nat,fun x=>.tuple #[.slice x.1 I.length x.2,.agg #[.int .i64 F,.string q]],fun x wz=>DW wz (.slice x.1 I.length x.2) I⟩),(16,⟨Nat,fun x=>.pointer (some ⟨x,0,none⟩),fun g i=>Blk i g 122 #[.int .i64 0,.string ⟨#[]⟩]∧w5.heap.size≤g⟩)]) (fun i=>zWW w5 i) (fun w1 w2=>zWW w1 w2) jk jk (fN (fun x wa wb hg h=>h.grow hg) (fN (fun x wa wb hg h=>h.below hg) (fN (fun x wa wb hg h=>⟨h.1.below hg h.1.lt,h.2⟩) (fQ)))) ((zy _ _).drew) ?_;simp only[zX,List.take_zero,zo,List.drop_zero]
   iterate 11
    refine fG _ ?_ rfl jr jr (fun i l X=>?_) ?_;rotate_left
    ·have T:=Hc.out i l;go_simp;all_goals with_reducible rfl
    try simp only[Act.put,zD,zE,zF]
   refine fo 12 _ rfl jr jr (fun i l X=>?_) (fun x=>?_)
   ·refine fZ (f:=?_) (args:=?_) ?_ ?_;rotate_left 2
    ·have T:=Hc.out i l;go_simp;all_goals first|with_reducible rfl|(refine⟨?_,?_⟩<;>with_reducible rfl)
    refine(CU.out i l).mono ?_;rintro e w9 ⟨v9,rfl,J,B⟩;obtain⟨A9,c9,rfl,aM,_⟩:=J.read;exact⟨_,rfl,B,l.trans (B.mono l.size),(A9,c9),rfl,BV aM (fun b j=>j.2) (fun b j=>by have:=be.out b j;have:=W.out.size;have:=l.size;have:=B.size;omega)⟩
   obtain⟨A8,c8⟩:=x;try simp only[Act.put,zD,zE,zF]
   refine fo 13 _ rfl jr jr (fun i l X=>?_) (fun x=>?_)
   ·refine fZ (f:=?_) (args:=?_) ?_ ?_;rotate_left 2
    ·have T:=Hc.out i l;go_simp;all_goals first|with_reducible rfl|(refine⟨?_,?_⟩<;>with_reducible rfl)
    refine(CF.out i A8 U.length c8 (gZ (kM X 11 jk) jd)).mono ?_;rintro e w9 ⟨v9,rfl,J⟩;obtain⟨bj,_,g2,_⟩:=J.ex;obtain⟨A9,c9,rfl,_⟩:=Ev.fP g2;exact⟨_,rfl,J.bel,l.trans (J.bel.mono l.size),(A9,c9),rfl,DW.of J⟩
   obtain⟨A7,c7⟩:=x;try simp only[Act.put,zD,zE,zF]
   iterate 3
    refine fG _ ?_ rfl jr jr (fun i l X=>?_) ?_;rotate_left
    ·have T:=Hc.out i l;go_simp;all_goals with_reducible rfl
    try simp only[Act.put,zD,zE,zF]
   refine fo 17 _ rfl jr jr (fun i l X=>?_) (fun x=>?_)
   ·refine kr (u:=?_) (w':=?_) ?_ ?_ ?_;rotate_left 2
    ·have T:=Hc.out i l;go_simp;all_goals first|with_reducible rfl|(refine⟨?_,?_⟩<;>with_reducible rfl)
    ·exact(zRR _)
    exact⟨l.alloc l.size _,i.heap.size,rfl,Blk.new _ _ _,l.size⟩
   rename Nat=>x9
   try simp only[Act.put,zD,zE,zF]
   refine fG 18 ?_ rfl jr jr (fun i l X=>?_) ?_;rotate_left
   ·have T:=Hc.out i l;go_simp;all_goals with_reducible rfl
   try simp only[Act.put,zD,zE,zF]
   refine fW (fun w6 l hF=>?_);have aY:=zh (gZ (nk (hF 12) jd) jd);have a9:Hid (w.heap.size≤x9):=zh (zY W.out.size (gZ (hF 16) jd).2);have aT:=zt W l;have ag:=zb aP l;have H:=(gZ (hF 16) jd).1;clear hF l CU CF Hc;have y0:=H.cell 0;have y1:=H.cell 1;have ba:=H.frozen 0;have a8:=H.frozen 1;simp only[zA,zB,zC]at y0 y1;have aa:=zh (nH (b0:=.int .i64 F) (b1:=.string q) H);have aA:w.heap.size+2≠x9:=ag.out.ne_ H jd;have aH:w.heap.size≤x9:=a9.out;have aL:=zh ((ag.out.far (p:=⟨x9,0,none⟩) aA (.int .i64 F)).far (p:=⟨x9,1,none⟩) aA (.string q));have aC:=zh ((aT.out.setCell (p:=⟨x9,0,none⟩) aH (.int .i64 F)).setCell (p:=⟨x9,1,none⟩) aH (.string q));have aB:Hid (DW ((w6.setCell ⟨x9,0,none⟩ (.int .i64 F)).setCell ⟨x9,1,none⟩ (.string q)) (.slice A7 I.length c7) I):=zh (aY.out.keep H jd (M9 _ _) (by simp[World.setCell]) (fun b j=>(vN _ _ _ _ j).trans (vN _ _ _ _ j)));have CE:=zh (yC F q ((w6.setCell ⟨x9,0,none⟩ (.int .i64 F)).setCell ⟨x9,1,none⟩ (.string q)));rw[Cb aU.out]at CE;have aE:=zh (og F q);obtain⟨bs,au⟩:∃bs,gJ F q=bs:=⟨_,rfl⟩;rw[au]at CE aE;have aQ:=zh au;clear H aY aT ag au
   go_upto_region 8 with(fail);generalize (w6.setCell ⟨x9,0,none⟩ (.int .i64 F)).setCell ⟨x9,1,none⟩ (.string q)=w7 at *;clear y0 y1 ba a8;have y0:=aa.out.cell 0;have y1:=aa.out.cell 1;simp only[zA,zB,zC]at y0 y1;go_wp2_with fail;refine CE.out.mono ?_;rintro e w8 R;obtain⟨v8,rfl,ax⟩:=R.ex;obtain⟨A4,c4,rfl,_⟩:=Ev.fP ax;have aR:=zh ax;have a7:=zh (aC.out.trans (R.bel.mono aC.out.size));have Y:=zh (aL.out.below R.bel aL.out.lt);have a4:=zh (aB.out.below R.bel);clear R ax CE y0 y1;have aa:=zh (zz _ (w.heap.size+2) _ (rsC 0 0 0 (.slice A7 I.length c7) nil (.slice A4 bs.length c4) 0 0 0 0) _ _ Y.out);go_wp2_with (refine zx (o:=⟨none,.store 42 _ _,_,_,_,_⟩) rfl 42 _ _ rfl (w.heap.size+2) (rsC 0 0 0 (.slice A7 I.length c7) nil (.slice A4 bs.length c4) 0 0 0 0) rfl rfl 42 rs0 Y.out jk rfl (by simp[rsC,Value.oneCell']) ?_);refine zw (fA rfl rfl (zv _ (w.heap.size+2) 42 42 _ (0,0) _ aa.out underlying42 rfl jk)) rfl ?_;have bd:=a4.out.keep Y.out jd rf (w':=w8.setRow (w.heap.size+2) (rsC 0 0 0 (.slice A7 I.length c7) nil (.slice A4 bs.length c4) 0 0 0 0)) jz (fun b j=>vL w8 _ b _ j)
   have bg:=gz (w':=w8.setRow (w.heap.size+2) (rsC 0 0 0 (.slice A7 I.length c7) nil (.slice A4 bs.length c4) 0 0 0 0)) aR.out (fun b j=>vL w8 _ b _ (fun e=>by
    subst e
    exact absurd ((fO aR.out j).one ⟨_,_,Y.out⟩) jd))
   exact⟨_,{ an0 0 0 0 with docs:=I,cur:=gJ F q },rfl,vI a7.out jo _,⟨a,q,0,HD.out,.inr (.inr ⟨D,(I,F),rfl,aO.out,HP.out,by rw[←aF.out];exact ah.out,.inr ⟨Cb aU.out,rfl⟩⟩)⟩,
    ⟨_,nil,_,rfl,bd,⟨0,vO _ _ _ _⟩,_,by rw[show (({ an0 0 0 0 with docs:=I,cur:=gJ F q }:Ans).cur)=bs from aQ.out];exact bg⟩,by have:=aI.out;show I.length≤1048576;have h:I.length≤60000:=this;omega,zS _,by show (gJ F q).length≤1048576;rw[aQ.out];have:=aE.out;omega⟩
 have bh:(E != 0)=true:=by simpa using hE
 have bc:E=250:=by
  rcases HD.out with⟨_,_,_,_,e⟩|⟨_,_,_,e⟩
  ·exact absurd e hE
  exact e
 subst bc;clear hE;go_wp2_with fail;refine(lW (250) w3).mono ?_;rintro e w9 ⟨rfl,B⟩;have ai:=zt ab B;have N:=zb V B;clear B;have al:=zh (zz _ (w.heap.size+2) _ (rsC (250) 0 0 nil nil nil 0 0 0 0) _ _ N.out);go_wp2_with (refine zx (o:=⟨none,.store 42 _ _,_,_,_,_⟩) rfl 42 _ _ rfl (w.heap.size+2) (rsC (250) 0 0 nil nil nil 0 0 0 0) rfl rfl 42 rs0 N.out jk rfl (by simp[rsC,Value.oneCell']) ?_);refine zw (fA rfl rfl (zv _ (w.heap.size+2) 42 42 _ (0,0) _ al.out underlying42 rfl jk)) rfl ?_;exact⟨_,_,rfl,vI ai.out jo _,⟨a,q,250,HD.out,.inl ⟨jd,rfl⟩⟩,iq ..⟩
end
end Md
end Go.Proofs.YtmomjpolkkbhnaaGreat
