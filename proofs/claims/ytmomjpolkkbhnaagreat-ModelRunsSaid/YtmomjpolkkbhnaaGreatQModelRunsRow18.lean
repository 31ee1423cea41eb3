/- The model: expire, stats (printed by gen_mdg.py). -/
import Derived.Test.YtmomjpolkkbhnaaGreatQModelRunsRow15
set_option linter.unusedSimpArgs false
set_option linter.unusedVariables false
set_option maxRecDepth 20000
set_option maxHeartbeats 100000000
open Go.Proofs.Tryz
namespace Go.Proofs.YtmomjpolkkbhnaaGreat
namespace Md
open Go.RowKit Ut Tk Qy Qp Ev
def lK(m:M):Int:=if -9223372036854775808+m.c.retain≤m.now then max m.floor (m.now-m.c.retain)else m.floor
def nS(m:M):M:=if m.now=-9223372036854775808 then m else { m with floor:=lK m }
def kz(m:M):Array Value:=if m.now=-9223372036854775808 then rsC 271 0 0 nil nil nil 0 0 0 0 else rsC 0 0 (lK m) nil nil nil 0 0 0 0
section
variable {w:World} {n0 X K:Nat} {v:Value} {m:M}
theorem Fe(h:At w n0 X K v m)(r:Rq)(z:Rw):Calls prog 32 #[.pointer (some ⟨X,0,none⟩),.agg (rqC r z)] w (StP n0 X K v (nS m) w (kz m)):=by
 have s:zWW w ((w.alloc (.cells (rqC r z) 37)).alloc (.cells rs0 42)):=(zRR _).alloc jz _;have hq:=(Blk.new w 37 (rqC r z)).alloc (.cells rs0 42);have T:=Blk.new (w.alloc (.cells (rqC r z) 37)) 42 rs0;have z1:(w.alloc (.cells (rqC r z) 37)).heap.size=w.heap.size+1:=jz;rw[z1]at T;have y:=zh (h.below s);have HQ:=zh hq;have G:=zh T;have D:=zh s;have af:w.heap.size+2≤(World.heap ((w.alloc (.cells (rqC r z) 37)).alloc (.cells rs0 42))).size:=jz;have ae:=h.blk.lt;have k9:=y.out.blk.cell 9;simp only[mdC,zA,zB,zC]at k9;have a:=h.ok;have hc:=a.c;have V:=a.nw;have U:=a.fl;have J:=a.ret;unfold okC I64 at *;by_cases d:m.now=-9223372036854775808
 ·have L:kz m=rsC 271 0 0 nil nil nil 0 0 0 0:=zI d;have H:nS m=m:=zI d;rw[L,H];have ab:(m.now == -9223372036854775808)=true:=by simpa using d
  clear h s hq T z1 a L H d;go_enter func32,ntmps32
  go_upto_region 1 with(fail);generalize ((w.alloc (.cells (rqC r z) 37)).alloc (.cells rs0 42))=l at *;go_wp2_with fail;refine(iy 271 l).mono ?_;rintro e w3 ⟨rfl,I⟩;have j:=zh I;have E:=zh (y.out.below j.out);have k:=zh (G.out.below j.out G.out.lt);clear I;have g:=zh (zz _ (w.heap.size+1) _ (rsC 271 0 0 nil nil nil 0 0 0 0) _ _ k.out);go_wp2_with (refine zx (o:=⟨none,.store 42 _ _,_,_,_,_⟩) rfl 42 _ _ rfl (w.heap.size+1) (rsC 271 0 0 nil nil nil 0 0 0 0) rfl rfl 42 rs0 k.out jk rfl (by simp[rsC,Value.oneCell']) ?_);refine zw (fA rfl rfl (zv _ (w.heap.size+1) 42 42 _ (0,0) _ g.out underlying42 rfl jk)) rfl ?_;exact⟨rfl,E.out.row k.out _,iA (iG (D.out.trans (j.out.mono D.out.size))) (zZ _) _⟩
 have L:kz m=rsC 0 0 (lK m) nil nil nil 0 0 0 0:=zH d;have H:nS m={ m with floor:=lK m }:=zH d;rw[L,H];have ab:(m.now == -9223372036854775808)=false:=by simpa using d
 have ad:IntKind.i64.wrap (-9223372036854775808+m.c.retain)=-9223372036854775808+m.c.retain:=by rw[IntKind.wrap_i64];omega
 have W:w.heap.size+1≠X:=jo;clear h s hq T z1 L H d;by_cases hge : -9223372036854775808+m.c.retain≤m.now
 ·have N:lK m=max m.floor (m.now-m.c.retain):=zI hge;rw[N];have ac:IntKind.i64.wrap (m.now-m.c.retain)=m.now-m.c.retain:=by rw[IntKind.wrap_i64];omega
  have hmx : -9223372036854775808≤max m.floor (m.now-m.c.retain)∧max m.floor (m.now-m.c.retain)≤9223372036854775807:=jo;clear N;go_enter func32,ntmps32
  go_upto_region 1 with(fail);generalize ((w.alloc (.cells (rqC r z) 37)).alloc (.cells rs0 42))=l at *;have S:=y.out.blk.cell 2;simp only[mdC,zA,zB,zC]at S
  go_upto_region 3 with(fail);go_quiet (fail);have f:=zh (lV (zy l.heap.size l) nq);have A:=zh (y.out.below f.out);have n:=zh (G.out.below f.out G.out.lt);have B:=zh (D.out.trans (f.out.mono D.out.size));generalize l.drewN nq=P at *
  have Hc:Hid (∀q,zWW P q→q.cell? ⟨X,8,none⟩=some (.int .i64 m.floor)∧q.cell? ⟨X,9,none⟩=some (.int .i64 m.now)∧q.cell? ⟨X,2,none⟩=some (.int .i64 m.c.retain)):=zh (fun q s=>by
   have r0:=(A.out.below s).blk.cell 8;have r1:=(A.out.below s).blk.cell 9;have r2:=(A.out.below s).blk.cell 2;simp only[mdC,zA,zB,zC]at r0 r1 r2
   exact⟨r0,r1,r2⟩)
  clear k9 S
  go_upto_region 4 with(fail);refine kJ 18 (fF []) (fun q=>zWW P q) (fun l P=>zWW l P) jk jk (fQ) ((zy _ _).drew) ?_;simp only[zX,List.take_zero,zo,List.drop_zero]
  iterate 18
   refine fG _ ?_ rfl jr jr (fun q F hD=>?_) ?_;rotate_left
   ·have ag:=Hc.out q F;go_simp;all_goals with_reducible rfl
   try simp only[Act.put,zD,zE,zF]
  refine fW (fun w3 F hF=>?_);have E:=zh (A.out.below F);have k:=zb n F;have j:=zt B F;have C:=(E.out.blk).cell 8;have Z:=(E.out.blk).frozen 8;simp only[mdC,zA,zB,zC]at C;clear hF F Hc;have R:=zh (E.out.set (i:=8) (u:=.int .i64 (max m.floor (m.now-m.c.retain))) (m':={ m with floor:=max m.floor (m.now-m.c.retain) }) (by have:=E.out.blk.set_ 8 (.int .i64 (max m.floor (m.now-m.c.retain)));simpa[mdC]using this) rfl ⟨a.c,a.ret,a.doc,hmx,a.nw,a.ak⟩);have t:=zh (k.out.far (p:=⟨X,8,none⟩) W (.int .i64 (max m.floor (m.now-m.c.retain))));have aa:=zh ((iG (O:=fun b=>b=X) j.out).trans (qH _ X 8 (.int .i64 (max m.floor (m.now-m.c.retain)))) (fun x hx=>.inl hx));clear a hc V U J hmx ac ad;generalize max m.floor (m.now-m.c.retain)=Y at *
  go_upto_region 5 with(fail);generalize w3.setCell ⟨X,8,none⟩ (.int .i64 Y)=w4 at *;have q8:=(R.out.blk).cell 8;simp only[mdC,zA,zB,zC]at q8;clear C Z;have g:=zh (zz _ (w.heap.size+1) _ (rsC 0 0 Y nil nil nil 0 0 0 0) _ _ t.out);go_wp2_with (refine zx (o:=⟨none,.store 42 _ _,_,_,_,_⟩) rfl 42 _ _ rfl (w.heap.size+1) (rsC 0 0 Y nil nil nil 0 0 0 0) rfl rfl 42 rs0 t.out jk rfl (by simp[rsC,Value.oneCell']) ?_);refine zw (fA rfl rfl (zv _ (w.heap.size+1) 42 42 _ (0,0) _ g.out underlying42 rfl jk)) rfl ?_;exact⟨rfl,R.out.row t.out _,iA aa.out (zZ _) _⟩
 have N:lK m=m.floor:=zH hge;rw[N];have e4:({ m with floor:=m.floor }:M)=m:=rfl;rw[e4];clear N e4;go_enter func32,ntmps32
 go_upto_region 1 with(fail);generalize ((w.alloc (.cells (rqC r z) 37)).alloc (.cells rs0 42))=l at *;have S:=y.out.blk.cell 2;have C:=y.out.blk.cell 8;simp only[mdC,zA,zB,zC]at S C
 go_upto_region 3 with(fail);go_quiet (fail);have f:=zh (lV (zy l.heap.size l) nq);have A:=zh (y.out.below f.out);have n:=zh (G.out.below f.out G.out.lt);have B:=zh (D.out.trans (f.out.mono D.out.size));have C:=(A.out.blk).cell 8;simp only[mdC,zA,zB,zC]at C;generalize l.drewN nq=P at *;have g:=zh (zz _ (w.heap.size+1) _ (rsC 0 0 m.floor nil nil nil 0 0 0 0) _ _ n.out);go_wp2_with (refine zx (o:=⟨none,.store 42 _ _,_,_,_,_⟩) rfl 42 _ _ rfl (w.heap.size+1) (rsC 0 0 m.floor nil nil nil 0 0 0 0) rfl rfl 42 rs0 n.out jk rfl (by simp[rsC,Value.oneCell']) ?_);refine zw (fA rfl rfl (zv _ (w.heap.size+1) 42 42 _ (0,0) _ g.out underlying42 rfl jk)) rfl ?_;exact⟨rfl,A.out.row n.out _,iA (iG B.out) (zZ _) _⟩
def mh(m:M):Array Value:=rsC 0 0 m.floor nil nil nil (upL m (fun _=>true)).length ((m.ds.length:Nat)+1) m.now m.acked
def RdP(w:World)(cs:Array Value)(e:Ending)(w':World):Prop:=e=.returned (.agg cs)∧zWW w w'
theorem Gy(h:At w n0 X K v m)(hK:K≤60000)(r:Rq)(z:Rw):Calls prog 37 #[.pointer (some ⟨X,0,none⟩),.agg (rqC r z)] w (RdP w (mh m)):=by
 obtain⟨V,J,W,_,_,_⟩:=h.docs;subst W;have b:zWW w ((w.alloc (.cells (rqC r z) 37)).alloc (.cells rs0 42)):=(zRR _).alloc jz _;have I:=(Blk.new w 37 (rqC r z)).alloc (.cells rs0 42);have s:=Blk.new (w.alloc (.cells (rqC r z) 37)) 42 rs0;have F:(w.alloc (.cells (rqC r z) 37)).heap.size=w.heap.size+1:=jz;rw[F]at s;have R:=zh (h.below b);have HQ:=zh I;have T:=zh s;have x:=zh b;have P:w.heap.size+2≤(World.heap ((w.alloc (.cells (rqC r z) 37)).alloc (.cells rs0 42))).size:=jz;have N:=h.blk.lt;have G:Hid (∀a,zWW w a→Calls prog 72 #[.pointer (some ⟨X,0,none⟩),.func (.func 75) #[] #[]] a (pz a (upL m (fun _=>true)))):=zh (fun a b=>wK (h.below b) hK 75 #[] (fun _=>true) (enters_of func75 jk rfl) (fun d hd Z Y O L C=>Fc d O L Z));have f:mh m=rsC 0 0 m.floor nil nil nil ((upL m (fun _=>true)).length:Nat) ((m.ds.length:Nat)+1) m.now m.acked:=rfl;have A:=h.few;rw[f];generalize upL m (fun _=>true)=U at *;clear h b I s F f;go_enter func37,ntmps37
 go_upto_region 1 with(fail);generalize ((w.alloc (.cells (rqC r z) 37)).alloc (.cells rs0 42))=q at *;go_wp2_with fail;refine(G.out q x.out).mono ?_;rintro e k ⟨v2,rfl,p,c⟩;obtain⟨A3,c3,rfl,_⟩:=p.read;have j:=zh (R.out.below c);have t:=zb T c;have u:=zt x c
 have B:Hid (∀a,zWW k a→a.cell? ⟨X,7,none⟩=some (.slice V m.ds.length J)∧a.cell? ⟨X,8,none⟩=some (.int .i64 m.floor)∧a.cell? ⟨X,9,none⟩=some (.int .i64 m.now)∧a.cell? ⟨X,10,none⟩=some (.int .i64 m.acked)):=zh (fun a b=>by
  have D:=(j.out.below b).blk.cell 7;have H:=(j.out.below b).blk.cell 8;have E:=(j.out.below b).blk.cell 9;have y:=(j.out.below b).blk.cell 10;simp only[mdC,zA,zB,zC]at D H E y
  exact⟨D,H,E,y⟩)
 have hw:IntKind.i64.wrap (((m.ds.length:Nat):Int)+1)=((m.ds.length:Nat):Int)+1:=by rw[IntKind.wrap_i64];omega
 clear p c G
 go_upto_region 2 with(fail);refine kJ 20 (fF []) (fun a=>zWW k a) (fun q k=>zWW q k) jk jk (fQ) ((zy _ _).drew) ?_;simp only[zX,List.take_zero,zo,List.drop_zero]
 iterate 20
  refine fG _ ?_ rfl jr jr (fun a i p=>?_) ?_;rotate_left
  ·have S:=B.out a i;go_simp;all_goals with_reducible rfl
  try simp only[Act.put,zD,zE,zF]
 refine fW (fun w3 i C=>?_);have g:=zb t i;have n:=zt u i;clear C i B;have l:=zh (zz _ (w.heap.size+1) _ (rsC 0 0 m.floor nil nil nil (U.length:Nat) ((m.ds.length:Nat)+1) m.now m.acked) _ _ g.out);go_wp2_with (refine zx (o:=⟨none,.store 42 _ _,_,_,_,_⟩) rfl 42 _ _ rfl (w.heap.size+1) (rsC 0 0 m.floor nil nil nil (U.length:Nat) ((m.ds.length:Nat)+1) m.now m.acked) rfl rfl 42 rs0 g.out jk rfl (by simp[rsC,Value.oneCell']) ?_);refine zw (fA rfl rfl (zv _ (w.heap.size+1) 42 42 _ (0,0) _ l.out underlying42 rfl jk)) rfl ?_;exact⟨rfl,vI n.out (zZ _) _⟩
end
end Md

namespace Md
open Go.RowKit Ut Tk Qy Qp Ev
theorem Np{K:Nat}{q:Q}(h:QW K q):QSz q:=by
 induction h with
 | mk h1 h2 h3 ih=>exact .mk h1 h2 ih
theorem oK{s:P}{E:Int}{o:Option Q}(h:PrsR s E o):(E=0∧∃q,o=some q∧QSz q)∨(E≠0∧o=none):=by
 cases h with
 | @ok l q h hp hr hm hd=>
  have a:=uF s.length s l (zG _) hp;have c:=tF s.length s l (zG _) hp;obtain⟨K,_,hK⟩:=vB hr (fun x b=>by have:=(a x b).2;omega) jo;exact .inl ⟨rfl,q,rfl,Np hK⟩
 | _=>exact .inr ⟨jd,rfl⟩
def SeR(base:Nat)(w':World)(m:M)(r:Rq)(cs:Array Value):Prop:=∃E o,PrsR r.q.data.toList E o∧((E≠0∧cs=rsC E 0 0 nil nil nil 0 0 0 0)∨(E=0∧iO r.lim=false∧cs=rsC 1 0 0 nil nil nil 0 0 0 0) ∨
 (∃q D A c,E=0∧o=some q∧iO r.lim=true∧ByT (upL m (inB r.frm r.til q)) D∧DOwn w' base (.slice A D.length c) D∧cs=rsC 0 0 0 (.slice A (min D.length r.lim.toNat) c) nil nil 0 0 0 0))
def ReP(R:World→World→Array Value→Prop)(w:World)(e:Ending)(w':World):Prop:=∃cs,e=.returned (.agg cs)∧zWW w w'∧R w w' cs
section
variable {w:World} {n0 X K:Nat} {v:Value} {m:M}
theorem tV(h:At w n0 X K v m)(hK:K≤60000)(r:Rq)(z:Rw):Calls prog 33 #[.pointer (some ⟨X,0,none⟩),.agg (rqC r z)] w (ReP (fun w w' cs=>SeR w.heap.size w' m r cs) w):=by
 have hb:zWW w ((w.alloc (.cells (rqC r z) 37)).alloc (.cells rs0 42)):=(zRR _).alloc jz _;have hq:=(Blk.new w 37 (rqC r z)).alloc (.cells rs0 42);have hr:=Blk.new (w.alloc (.cells (rqC r z) 37)) 42 rs0;have z1:(w.alloc (.cells (rqC r z) 37)).heap.size=w.heap.size+1:=jz;rw[z1]at hr;have H1:=zh (h.below hb);have HQ:=zh hq;have HR:=zh hr;have HB:=zh hb;have ak:w.heap.size+2≤(World.heap ((w.alloc (.cells (rqC r z) 37)).alloc (.cells rs0 42))).size:=jz;have al:=h.blk.lt;have N:=h.few;clear h hb hq hr z1;go_enter func33,ntmps33
 go_upto_region 1 with(fail);generalize ((w.alloc (.cells (rqC r z) 37)).alloc (.cells rs0 42))=w1 at *;have q4:=HQ.out.cell 4;simp only[rqC,zA,zB,zC]at q4;go_wp2_with fail;refine(pg r.q w1).mono ?_;rintro e y ⟨E,o,a0,a1,a2,a3,hp,rfl,hF,l⟩;obtain⟨t,B,C,A,F,p,e4⟩:=hF.four;simp only[zQ,and_true]at e4;obtain⟨rfl,rfl,rfl,rfl⟩:=e4;have H2:=zh (H1.out.below l);have u:=zb HR l;have T:=zb HQ l;have x:=zt HB l;have HP:=zh hp;have L:QAt y y.heap.size (o.getD noQ) [.int .i64 (o.getD noQ).kind,.string (o.getD noQ).name,.slice t B C,.slice A F p]:=hF.at_ (fun b hb=>hb.2);have g:=zh L;have Y:zWW y (y.alloc (.cells #[.int .i64 (o.getD noQ).kind,.string (o.getD noQ).name,.slice t B C,.slice A F p] 60)):=zRR _;have f:=zh (Blk.new y 60 #[.int .i64 (o.getD noQ).kind,.string (o.getD noQ).name,.slice t B C,.slice A F p]);have a:=zh Y;clear hF l hp L Y q4;rcases oK HP.out with⟨rfl,q,rfl,Z⟩|⟨hE,rfl⟩
 ·have W:((some q:Option Q).getD noQ)=q:=rfl;rw[W]at g f a ⊢;have aa:=zh Z;clear W Z;have ah:Hid (QBl (y.alloc (.cells #[.int .i64 q.kind,.string q.name,.slice t B C,.slice A F p] 60)) y.heap.size q):=zh ⟨t,B,C,A,F,p,f.out,g.out.grow a.out⟩;obtain⟨qk,J⟩:∃qk,q.kind=qk:=⟨_,rfl⟩;obtain⟨qn,H⟩:∃qn,q.name=qn:=⟨_,rfl⟩;have O:=zh (And.intro J H);rw[J,H]at g f a ah ⊢;clear J H;have j:=zh (x.out.trans (a.out.mono x.out.size));have s:=zh (u.out.below a.out u.out.lt);have n:=zh (T.out.below a.out T.out.lt);have H3:=zh (H2.out.below a.out);have V:=zh (g.out.grow a.out)
  go_upto_region 2 with(fail);generalize y.alloc (.cells #[.int .i64 qk,.string qn,.slice t B C,.slice A F p] 60)=w3 at *;have q7:=n.out.cell 7;have q5:=n.out.cell 5;have q6:=n.out.cell 6;have k0:=f.out.cell 0;have k1:=f.out.cell 1;have k2:=f.out.cell 2;have k3:=f.out.cell 3;simp only[rqC,zA,zB,zC]at q5 q6 q7 k0 k1 k2 k3;have CL:=zh (xj r.lim w3);have CD:Hid (Calls prog 67 #[.pointer (some ⟨X,0,none⟩),.agg #[.int .i64 qk,.string qn,.slice t B C,.slice A F p],.int .i64 r.frm,.int .i64 r.til] w3 (sG w3 (upL m (inB r.frm r.til q)))):=zh (qy H3.out hK q aa.out _ _ _ _ r.frm r.til ⟨t,B,C,A,F,p,by rw[O.out.1,O.out.2]⟩ V.out);have P:Hid (iO r.lim=true→1≤r.lim∧r.lim≤10000):=zh (fun h=>by simpa[iO]using h);obtain⟨lb,I⟩:∃lb,iO r.lim=lb:=⟨_,rfl⟩;rw[I]at CL P;have S:=zh I;have af:Hid ((upL m (inB r.frm r.til q)).length≤60000):=zh (zY (List.length_filter_le _ _) (zY N hK));clear I;generalize hu:upL m (inB r.frm r.til q)=U at *;have HU:=zh hu;clear hu
  cases lb with
  | false=>
   clear CD;go_wp2_with fail;refine CL.out.mono ?_;rintro e R ⟨rfl,rfl⟩;go_wp2_with fail;refine(iy 1 _).mono ?_;rintro e R ⟨rfl,c⟩;have k:=zt j c;have d:=zb s c;clear c;have i:=zh (zz _ (w.heap.size+1) _ (rsC 1 0 0 nil nil nil 0 0 0 0) _ _ d.out);go_wp2_with (refine zx (o:=⟨none,.store 42 _ _,_,_,_,_⟩) rfl 42 _ _ rfl (w.heap.size+1) (rsC 1 0 0 nil nil nil 0 0 0 0) rfl rfl 42 rs0 d.out jk rfl (by simp[rsC,Value.oneCell']) ?_);refine zw (fA rfl rfl (zv _ (w.heap.size+1) 42 42 _ (0,0) _ i.out underlying42 rfl jk)) rfl ?_;exact⟨_,rfl,vI k.out (zZ _) _,0,_,HP.out,.inr (.inl ⟨rfl,S.out,rfl⟩)⟩
  | true=>
   go_wp2_with fail;refine CL.out.mono ?_;rintro e R ⟨rfl,rfl⟩;clear CL;go_wp2_with fail;refine CD.out.mono ?_;rintro e R ⟨v4,D,rfl,hD,hT,c⟩;obtain⟨A3,c3,rfl,_,an,_⟩:=hD.read;have k:=zt j c;have d:=zb s c;have ae:=zb n c;have ad:=zh hD;have HT:=zh hT;have ap:D.length≤60000:=by rw[hT.perm.length_eq];exact af.out
   have ag:=j.out.size;obtain⟨ao,am⟩:=P.out (by first|rfl|trivial);have ac:min (D.length:Int) r.lim=((min D.length r.lim.toNat:Nat):Int):=jo;have ab:((min D.length r.lim.toNat:Nat):Int)≤(c3:Int):=jo;clear hD hT c CD q5 q6 q7 k0 k1 k2 k3;have q7:=ae.out.cell 7;simp only[rqC,zA,zB,zC]at q7;obtain⟨mn,G⟩:∃mn,min D.length r.lim.toNat=mn:=⟨_,rfl⟩;have ai:=zh G;rw[G]at ac ab;clear G;have i:=zh (zz _ (w.heap.size+1) _ (rsC 0 0 0 (.slice A3 mn c3) nil nil 0 0 0 0) _ _ d.out);go_wp2_with (refine zx (o:=⟨none,.store 42 _ _,_,_,_,_⟩) rfl 42 _ _ rfl (w.heap.size+1) (rsC 0 0 0 (.slice A3 mn c3) nil nil 0 0 0 0) rfl rfl 42 rs0 d.out jk rfl (by simp[rsC,Value.oneCell']) ?_);refine zw (fA rfl rfl (zv _ (w.heap.size+1) 42 42 _ (0,0) _ i.out underlying42 rfl jk)) rfl ?_
   exact⟨_,rfl,vI k.out (zZ _) _,0,_,HP.out,.inr (.inr ⟨q,D,A3,c3,rfl,rfl,S.out,by rw[HU.out];exact HT.out,l8 (ad.out.mono ag) (fun b hb=>vL R _ b _ (fun e=>by
    subst e;rcases hb with hb|hb
    ·exact absurd (hb.one ⟨_,_,d.out⟩) jd
    exact absurd (hb.one ⟨_,_,d.out⟩) jd)),by rw[ai.out]⟩)⟩
 have aj:(E != 0)=true:=by simpa using hE
 have HE:=zh hE;have j:=zh (x.out.trans (a.out.mono x.out.size));have s:=zh (u.out.below a.out u.out.lt);clear f g hE;generalize ((none:Option Q).getD noQ).kind=z1 at *;generalize ((none:Option Q).getD noQ).name=z2 at *
 go_upto_region 2 with(fail);generalize y.alloc (.cells #[.int .i64 z1,.string z2,.slice t B C,.slice A F p] 60)=w3 at *;go_wp2_with fail;refine(iy E _).mono ?_;rintro e R ⟨rfl,c⟩;have k:=zt j c;have d:=zb s c;clear c;have i:=zh (zz _ (w.heap.size+1) _ (rsC E 0 0 nil nil nil 0 0 0 0) _ _ d.out);go_wp2_with (refine zx (o:=⟨none,.store 42 _ _,_,_,_,_⟩) rfl 42 _ _ rfl (w.heap.size+1) (rsC E 0 0 nil nil nil 0 0 0 0) rfl rfl 42 rs0 d.out jk rfl (by simp[rsC,Value.oneCell']) ?_);refine zw (fA rfl rfl (zv _ (w.heap.size+1) 42 42 _ (0,0) _ i.out underlying42 rfl jk)) rfl ?_;exact⟨_,rfl,vI k.out (zZ _) _,E,_,HP.out,.inl ⟨HE.out,rfl⟩⟩
end
end Md
end Go.Proofs.YtmomjpolkkbhnaaGreat
