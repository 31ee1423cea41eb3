/- The model: open (printed by gen_mdi.py). -/
import Derived.Test.YtmomjpolkkbhnaaGreatQModelRunsRow18
import Derived.Test.YtmomjpolkkbhnaaGreatQModelRunsRow27
import Derived.Test.YtmomjpolkkbhnaaGreatQModelRunsRow30
set_option linter.unusedSimpArgs false
set_option linter.unusedVariables false
set_option maxRecDepth 20000
set_option maxHeartbeats 100000000
open Go.Proofs.Tryz
namespace Go.Proofs.YtmomjpolkkbhnaaGreat
namespace Md
open Go.RowKit Ut Tk Qy Qp Ev Cu
open Classical in
noncomputable def gJ (a:Int) (q:ByteArray):List UInt8:=if IsC a q then enc a.toNat q.data.toList else[]
open Classical in
noncomputable def fE (a:Int) (q:ByteArray):Int:=if IsC a q then 0 else 250
theorem qa(a:Int)(q:ByteArray)(w:World):Calls prog 69 #[.agg #[.int .i64 a,.string q]] w (BytesTo w (gJ a q) (fE a q)):=by
 unfold gJ fE;by_cases h:IsC a q
 ·rw[zI h,zI h];obtain⟨n,rfl⟩:∃n:Nat,a=(n:Int):=⟨a.toNat,by have:=h.1;omega⟩;rw[Int.toNat_natCast];exact yX n q w h
 rw[zH h,zH h];exact AZ a q w h
def OpR(base:Nat)(w':World)(r:Rq)(cs:Array Value):Prop:=∃E o,PrsR r.q.data.toList E o∧((E≠0∧cs=rsC E 0 0 nil nil nil 0 0 0 0)∨(E=0∧fE r.after r.q≠0∧cs=rsC (fE r.after r.q) 0 0 nil nil nil 0 0 0 0) ∨
 (∃v,E=0∧fE r.after r.q=0∧w'.ownsRow base 5 1 v (gJ r.after r.q).length (bv (gJ r.after r.q))∧cs=rsC 0 0 0 nil nil v 0 0 0 0))
section
variable {w:World} {n0 X K:Nat} {v:Value} {m:M}
theorem Jk(h:At w n0 X K v m)(r:Rq)(z:Rw):Calls prog 35 #[.pointer (some ⟨X,0,none⟩),.agg (rqC r z)] w (ReP (fun w w' cs=>OpR w.heap.size w' r cs) w):=by
 have s:zWW w ((w.alloc (.cells (rqC r z) 37)).alloc (.cells rs0 42)):=(zRR _).alloc jz _;have hq:=(Blk.new w 37 (rqC r z)).alloc (.cells rs0 42);have Z:=Blk.new (w.alloc (.cells (rqC r z) 37)) 42 rs0;have z1:(w.alloc (.cells (rqC r z) 37)).heap.size=w.heap.size+1:=jz;rw[z1]at Z;have H1:=zh (h.below s);have HQ:=zh hq;have HR:=zh Z;have HB:=zh s;have ac:w.heap.size+2≤(World.heap ((w.alloc (.cells (rqC r z) 37)).alloc (.cells rs0 42))).size:=jz;have ab:=h.blk.lt;clear h s hq Z z1;go_enter func35,ntmps35
 go_upto_region 1 with(fail);generalize ((w.alloc (.cells (rqC r z) 37)).alloc (.cells rs0 42))=w1 at *;have A:=HQ.out.cell 4;simp only[rqC,zA,zB,zC]at A;go_wp2_with fail;refine(pg r.q w1).mono ?_;rintro e x ⟨E,o,a0,a1,a2,a3,hp,rfl,U,k⟩;obtain⟨L,R,J,N,P,I,e4⟩:=U.four;simp only[zQ,and_true]at e4;obtain⟨rfl,rfl,rfl,rfl⟩:=e4;have H2:=zh (H1.out.below k);have F:=zb HR k;have D:=zb HQ k;have G:=zt HB k;have Y:=zh hp;have y:QAt x x.heap.size (o.getD noQ) [.int .i64 (o.getD noQ).kind,.string (o.getD noQ).name,.slice L R J,.slice N P I]:=U.at_ (fun b s=>s.2);have S:=zh y;have C:zWW x (x.alloc (.cells #[.int .i64 (o.getD noQ).kind,.string (o.getD noQ).name,.slice L R J,.slice N P I] 60)):=zRR _;have T:=zh (Blk.new x 60 #[.int .i64 (o.getD noQ).kind,.string (o.getD noQ).name,.slice L R J,.slice N P I]);have f:=zh C;clear U k hp y C A;clear S T;have g:=zh (G.out.trans (f.out.mono G.out.size));have j:=zh (F.out.below f.out F.out.lt);have B:=zh (D.out.below f.out D.out.lt);clear f;generalize (o.getD noQ).kind=z5 at *;generalize (o.getD noQ).name=z6 at *;have W:E=0∨E≠0:=jo
 go_upto_region 2 with(fail);generalize x.alloc (.cells #[.int .i64 z5,.string z6,.slice L R J,.slice N P I] 60)=w3 at *;rcases W with rfl|hE
 ·have CE:=zh (qa r.after r.q w3);have q9:=B.out.cell 9;have A:=B.out.cell 4;simp only[rqC,zA,zB,zC]at A q9;obtain⟨u,n⟩:∃u,fE r.after r.q=u:=⟨_,rfl⟩;rw[n]at CE;have t:=zh n;clear n;go_wp2_with fail;refine CE.out.mono ?_;rintro e w4 l;obtain⟨v4,rfl,p⟩:=l.ex;obtain⟨A4,c4,rfl,_⟩:=Ev.fP p;have H:=zh p;have c:=zh (g.out.trans (l.bel.mono g.out.size));have a:=zh (j.out.below l.bel j.out.lt);have V:=g.out.size;clear l p CE A q9;by_cases O:u=0
  ·subst O;have i:=zh (zz _ (w.heap.size+1) _ (rsC 0 0 0 nil nil (.slice A4 (gJ r.after r.q).length c4) 0 0 0 0) _ _ a.out);go_wp2_with (refine zx (o:=⟨none,.store 42 _ _,_,_,_,_⟩) rfl 42 _ _ rfl (w.heap.size+1) (rsC 0 0 0 nil nil (.slice A4 (gJ r.after r.q).length c4) 0 0 0 0) rfl rfl 42 rs0 a.out jk rfl (by simp[rsC,Value.oneCell']) ?_);refine zw (fA rfl rfl (zv _ (w.heap.size+1) 42 42 _ (0,0) _ i.out underlying42 rfl jk)) rfl ?_
   exact⟨_,rfl,vI c.out (zZ _) _,0,_,Y.out,.inr (.inr ⟨_,rfl,t.out,gz (lH H.out V) (fun b s=>vL w4 _ b _ (fun e=>by
    subst e
    exact absurd ((fO H.out s).one ⟨_,_,a.out⟩) jd)),rfl⟩)⟩
  have ad:(u != 0)=true:=by simpa using O
  have HN:=zh O;have g:=c;have j:=a;clear O c a;go_wp2_with fail;refine(iy u _).mono ?_;rintro e w5 ⟨rfl,d⟩;have c:=zt g d;have a:=zb j d;clear d;have i:=zh (zz _ (w.heap.size+1) _ (rsC u 0 0 nil nil nil 0 0 0 0) _ _ a.out);go_wp2_with (refine zx (o:=⟨none,.store 42 _ _,_,_,_,_⟩) rfl 42 _ _ rfl (w.heap.size+1) (rsC u 0 0 nil nil nil 0 0 0 0) rfl rfl 42 rs0 a.out jk rfl (by simp[rsC,Value.oneCell']) ?_);refine zw (fA rfl rfl (zv _ (w.heap.size+1) 42 42 _ (0,0) _ i.out underlying42 rfl jk)) rfl ?_;exact⟨_,rfl,vI c.out (zZ _) _,0,_,Y.out,.inr (.inl ⟨rfl,by rw[t.out];exact HN.out,by rw[t.out]⟩)⟩
 have aa:(E != 0)=true:=by simpa using hE
 have HE:=zh hE;clear hE;go_wp2_with fail;refine(iy E _).mono ?_;rintro e w4 ⟨rfl,d⟩;have c:=zt g d;have a:=zb j d;clear d;have i:=zh (zz _ (w.heap.size+1) _ (rsC E 0 0 nil nil nil 0 0 0 0) _ _ a.out);go_wp2_with (refine zx (o:=⟨none,.store 42 _ _,_,_,_,_⟩) rfl 42 _ _ rfl (w.heap.size+1) (rsC E 0 0 nil nil nil 0 0 0 0) rfl rfl 42 rs0 a.out jk rfl (by simp[rsC,Value.oneCell']) ?_);refine zw (fA rfl rfl (zv _ (w.heap.size+1) 42 42 _ (0,0) _ i.out underlying42 rfl jk)) rfl ?_;exact⟨_,rfl,vI c.out (zZ _) _,E,_,Y.out,.inl ⟨HE.out,rfl⟩⟩
end
end Md

namespace Md
open Go.RowKit Ut Tk Qy Qp Ev Cu
theorem wS{w:World}{S:Nat→Prop}{B:Nat}{d:Dc}{u:List Value}(h:DcS w S d u)(hS:∀b,S b→b<B):DcV w B d u:=by
 obtain⟨F,g,c,e,a,f⟩:=h.ex;exact⟨F,g,c,e,a.mono hS,f⟩
theorem M7{w:World}{base:Nat}{A:Option Addr}{n c:Nat}{ds:List Dc}(h:DOwn w base (.slice A n c) ds):DocsAt w w.heap.size A n ds:=by
 obtain⟨o,p,e,l,_⟩:=h.read;injection e with e1 e2 e3;subst e1 e2;obtain⟨f,k,j,g⟩:=l.ex;exact⟨rfl,f,k,j.mono (fun b d=>d.2),fun i a b=>wS (g i a b) (fun b d=>d.2.lt)⟩
def NoS(cs:Array Value):Prop:=∀o s t,cs[o]?=some (.string s)→cs[o+1]?=some (.string t)→False
theorem rf:NoS rs0:=fun o s t a b=>by
 rcases zj o 10 with ho|ho
 ·rcases(by omega:o=0∨o=1∨o=2∨o=3∨o=4∨o=5∨o=6∨o=7∨o=8∨o=9)with rfl|rfl|rfl|rfl|rfl|rfl|rfl|rfl|rfl|rfl<;>cases a
 rw[zp (by simpa[rsC]using ho)]at a
 cases a
theorem M9(a:Int)(q:ByteArray):NoS #[.int .i64 a,.string q]:=fun o s t b c=>by
 rcases zj o 2 with ho|ho
 ·rcases(by omega:o=0∨o=1)with rfl|rfl
  ·cases b
  cases c
 rw[zp (by simpa using ho)]at b
 cases b
structure DW (w:World) (v:Value) (ds:List Dc):Prop where
 ex:∃base,∃vss:List (List Value),vss.length=ds.length∧w.ownsRow base 48 3 v ds.length vss.flatten∧∀i (h:i<ds.length) (h':i<vss.length),DcV w w.heap.size ds[i] vss[i]
theorem DW.of{w0 w:World}{v:Value}{ds:List Dc}(h:DocsOwn w0 w v ds):DW w v ds:=by
 obtain⟨c,e,f,d⟩:=h.ex;exact⟨_,c,e,f,fun i a b=>(d i a b).1⟩
theorem DW.below{w w':World}{v:Value}{ds:List Dc}(h:DW w v ds)(hb:zWW w w'):DW w' v ds:=by
 obtain⟨c,d,j,f,e⟩:=h.ex;exact⟨c,d,j,f.kept (fH hb none) (by cases hv:v.ownBlock<;>simp),fun i a b=>((e i a b).keep fun _ _ g=>hb.cell g).more hb.size⟩
theorem DW.keep{w w':World}{v:Value}{ds:List Dc}{g:Nat}{T:TypeId}{cs:Array Value}(h:DW w v ds)(hg:Blk w g T cs)(hT:48≠T)(hn:NoS cs)(hs:w.heap.size≤w'.heap.size)(hk:∀b,b≠g→w'.heap[b]?=w.heap[b]?):DW w' v ds:=by
 obtain⟨c,s,k,x,D⟩:=h.ex
 refine⟨c,s,k,gz x (fun b E=>hk b (fun e=>by
  subst e
  exact hT ((fO x E).one ⟨_,_,hg⟩))),fun i a b=>?_⟩
 obtain⟨F,G,A,e,t,y⟩:=D i a b;refine⟨F,G,A,e,⟨t.1,fun n=>?_⟩,y⟩;obtain⟨p,d,C,q,r⟩:=t.2 n
 have o:p≠g:=by
  cases hf:ds[i].fs with
  | nil=>have:=y.1;rw[hf]at this;simp at this;omega
  | cons f l=>
   have z:=r 0 (.string f.1) (by rw[hf];simp[fJ]);have k:=r 1 (.string f.2) (by rw[hf];simp[fJ]);rintro rfl;rw[Nat.add_zero,hg.cell d]at z;rw[hg.cell (d+1)]at k;exact hn d _ _ z k
 exact⟨p,d,C,zT q hs,fun j u B=>(vP (hk p o)).trans (r j u B)⟩
theorem DW.at_{w:World}{v:Value}{ds:List Dc}(h:DW w v ds):∃A c,v=.slice A ds.length c∧DocsAt w w.heap.size A ds.length ds:=by
 obtain⟨b,a,g,f,d⟩:=h.ex;obtain⟨A,c,rfl,e,_⟩:=Ev.fP f;exact⟨A,c,rfl,rfl,a,g,e,d⟩
def TlR(w':World)(m:M)(r:Rq)(base:Nat)(cs:Array Value):Prop:=∃a q E,DecR r.cur a q E∧((E≠0∧cs=rsC E 0 0 nil nil nil 0 0 0 0)∨(E=0∧iO r.lim=false∧cs=rsC 1 0 0 nil nil nil 0 0 0 0) ∨
 (∃qq p,E=0∧iO r.lim=true∧PrsR q.data.toList 0 (some qq)∧p=gV a m.acked r.lim (upL m (fun d=>fC d.fs qq))∧((fE p.2 q≠0∧cs=rsC (fE p.2 q) 0 0 nil nil nil 0 0 0 0) ∨
  (fE p.2 q=0∧∃A c v,DOwn w' base (.slice A p.1.length c) p.1∧w'.ownsRow base 5 1 v (gJ p.2 q).length (bv (gJ p.2 q))∧cs=rsC 0 0 0 (.slice A p.1.length c) nil v 0 0 0 0))))
theorem uf{L:List UInt8}{a:Int}{q:ByteArray}{E:Int}(h:DecR L a q E)(hE:E=0):IsC a q:=by
 rcases h with⟨n,rfl,b,_⟩|⟨_,_,_,e⟩
 ·exact b
 rw[hE]at e;cases e
section
variable {w:World} {n0 X K:Nat} {v:Value} {m:M}
theorem Jl(h:At w n0 X K v m)(hK:K≤60000)(r:Rq)(z:Rw)(hcur:Reads w w.heap.size 1 z.C z.cn (bv r.cur))(hcn:z.cn≤140737488351232∧z.cn≤z.cc∧(z.C=none→z.cc=0)) :
  Calls prog 36 #[.pointer (some ⟨X,0,none⟩),.agg (rqC r z)] w (ReP (fun w w' cs=>TlR w' m r w.heap.size cs) w):=by
 have l:zWW w ((w.alloc (.cells (rqC r z) 37)).alloc (.cells rs0 42)):=(zRR _).alloc jz _;have hq:=(Blk.new w 37 (rqC r z)).alloc (.cells rs0 42);have hr:=Blk.new (w.alloc (.cells (rqC r z) 37)) 42 rs0;have z1:(w.alloc (.cells (rqC r z) 37)).heap.size=w.heap.size+1:=jz;rw[z1]at hr;have H1:=zh (h.below l);have HQ:=zh hq;have HR:=zh hr;have HB:=zh l;have aZ:w.heap.size+2≤(World.heap ((w.alloc (.cells (rqC r z) 37)).alloc (.cells rs0 42))).size:=jz;have a4:=h.blk.lt;have CD:Hid (∀j,zWW w j→Calls prog 70 #[.slice z.C z.cn z.cc] j (sJ j r.cur)):=zh (fun j l=>tO z.C z.cn z.cc r.cur j ((hcur.below l).more l.size) hcn.1 hcn.2.1 hcn.2.2);have ao:=h.few;have aO:=zh h.ok;clear h l hq hr z1 hcur hcn;go_enter func36,ntmps36
 go_upto_region 1 with(fail);generalize ((w.alloc (.cells (rqC r z) 37)).alloc (.cells rs0 42))=w1 at *;have av:=HQ.out.cell 10;simp only[rqC,zA,zB,zC]at av;go_wp2_with fail;refine(CD.out w1 HB.out).mono ?_;rintro e w2 ⟨a,q,E,hd,rfl,ah⟩;have HD:=zh hd;have aF:zWW w2 (w2.alloc (.cells #[.int .i64 a,.string q] 122)):=zRR _;have F:=ah.trans (aF.mono ah.size);have aa:=zh (Blk.new w2 122 #[.int .i64 a,.string q]);have H3:=zh (H1.out.below F);have S:=zb HR F;have ab:=zb HQ F;have Z:=zt HB F;clear ah aF F hd CD av H1 HR HQ HB;have aU:E=0∨E≠0:=jo
 go_upto_region 2 with(fail);generalize w2.alloc (.cells #[.int .i64 a,.string q] 122)=w3 at *;rcases aU with rfl|hE
 ·have q7:=ab.out.cell 7;have y1:=aa.out.cell 1;simp only[rqC,zA,zB,zC]at q7 y1;have CL:=zh (xj r.lim w3);obtain⟨lb,ai⟩:∃lb,iO r.lim=lb:=⟨_,rfl⟩;rw[ai]at CL;have ag:=zh ai;clear ai
  cases lb with
  | false=>
   go_wp2_with fail;refine CL.out.mono ?_;rintro e N ⟨rfl,rfl⟩;go_wp2_with fail;refine(iy 1 _).mono ?_;rintro e w9 ⟨rfl,k⟩;have L:=zt Z k;have D:=zb S k;clear k;have O:=zh (zz _ (w.heap.size+1) _ (rsC 1 0 0 nil nil nil 0 0 0 0) _ _ D.out);go_wp2_with (refine zx (o:=⟨none,.store 42 _ _,_,_,_,_⟩) rfl 42 _ _ rfl (w.heap.size+1) (rsC 1 0 0 nil nil nil 0 0 0 0) rfl rfl 42 rs0 D.out jk rfl (by simp[rsC,Value.oneCell']) ?_);refine zw (fA rfl rfl (zv _ (w.heap.size+1) 42 42 _ (0,0) _ O.out underlying42 rfl jk)) rfl ?_;exact⟨_,rfl,vI L.out (zZ _) _,a,q,0,HD.out,.inr (.inl ⟨rfl,ag.out,rfl⟩)⟩
  | true=>
   go_wp2_with fail;refine CL.out.mono ?_;rintro e N ⟨rfl,rfl⟩;clear CL;go_wp2_with fail;refine(pg q w3).mono ?_;rintro e N ⟨E,o,a0,a1,a2,a3,hp,rfl,R,aj⟩;obtain⟨A1,n1,c1,A2,n2,c2,e4⟩:=R.four;simp only[zQ,and_true]at e4;obtain⟨rfl,rfl,rfl,rfl⟩:=e4;obtain⟨o',aD⟩:=(uf HD.out rfl).2.2;obtain⟨rfl,rfl⟩:=hp.det aD
   obtain⟨t,rfl,aH⟩:∃t,o=some t∧QSz t:=by
    rcases oK hp with⟨_,q,rfl,h⟩|⟨h,_⟩
    ·exact⟨q,rfl,h⟩
    exact absurd rfl h
   have HP:=zh hp;have aB:((some t:Option Q).getD noQ)=t:=rfl;rw[aB]at R ⊢;have an:QAt N N.heap.size t [.int .i64 t.kind,.string t.name,.slice A1 n1 c1,.slice A2 n2 c2]:=R.at_ (fun b l=>l.2);have ac:zWW N (N.alloc (.cells #[.int .i64 t.kind,.string t.name,.slice A1 n1 c1,.slice A2 n2 c2] 60)):=zRR _;have y:=aj.trans (ac.mono aj.size);have aS:Hid (QBl (N.alloc (.cells #[.int .i64 t.kind,.string t.name,.slice A1 n1 c1,.slice A2 n2 c2] 60)) N.heap.size t):=zh ⟨A1,n1,c1,A2,n2,c2,Blk.new _ _ _,an.grow ac⟩;have H5:=zh (H3.out.below y);have aQ:=zb S y;have aC:=zb ab y;have W:=zb aa y;have T:=zt Z y;have aI:=zh aH;clear aj ac y an R hp aD aB aH q7 y1 H3 S ab aa Z;generalize aJ:t.kind=k5 at *;generalize aR:t.name=n5 at *;clear aJ aR
   go_upto_region 9 with(fail);generalize N.alloc (.cells #[.int .i64 k5,.string n5,.slice A1 n1 c1,.slice A2 n2 c2] 60)=w5 at *
   have CU:Hid (∀j,zWW w5 j→Calls prog 72 #[.pointer (some ⟨X,0,none⟩),.func (.func 73) #[] #[.pointer (some ⟨N.heap.size,0,none⟩)]] j (pz j (upL m (fun d=>fC d.fs t)))):=zh (fun j l=>wK (H5.out.below l) hK 73 #[.pointer (some ⟨N.heap.size,0,none⟩)] (fun d=>fC d.fs t) (enters_of func73 jk rfl)
    (fun d hd wy aL Fa fc R=>Gv d (wM aO.out d hd) t aI.out Fa fc _ wy (aS.out.below (l.trans (aL.mono l.size))) R))
   have ay:Hid ((upL m (fun d=>fC d.fs t)).length≤60000):=zh (zY (List.length_filter_le _ _) (zY ao hK));obtain⟨U,hu⟩:∃U,upL m (fun d=>fC d.fs t)=U:=⟨_,rfl⟩;rw[hu]at CU ay;have HU:=zh hu;obtain⟨G,B,ax⟩:∃G B,gV a m.acked r.lim U=(G,B):=⟨_,_,rfl⟩;have ae:=zh ax
   have CF:Hid (∀j A c,DOwn j w.heap.size (.slice A U.length c) U→w.heap.size≤j.heap.size→Calls prog 71 #[.agg #[.int .i64 a,.string q],.int .i64 m.acked,.int .i64 r.lim,.slice A U.length c] j fun e w'=>∃A9 c9,e=.returned (.tuple #[.slice A9 G.length c9,.agg #[.int .i64 B,.string q]])∧DOwn w' w.heap.size (.slice A9 G.length c9) G∧zWW j w'):=zh (fun j A c V aM=>by
    obtain⟨A',c',e',hS,_⟩:=V.read;injection e' with e1 e2 e3;subst e1 e3;refine(Ft a m.acked r.lim q A U.length c U j _ _ hS (fun b l=>l.2) (fun b l=>l.2.lt) (by have:=ay.out;omega)).mono ?_;rintro e w9 ⟨v9,rfl,H,k⟩;rw[ae.out]at H ⊢;obtain⟨aV,g1,g2,g3⟩:=H.ex;obtain⟨A9,c9,rfl,_⟩:=Ev.fP g2
    exact⟨A9,c9,rfl,⟨aV,g1,lH g2 aM,fun i a b=>(g3 i a b).same (fun b hS=>⟨⟨hS.1,hS.2.new k⟩,rfl⟩)⟩,k⟩)
   have Hc:Hid (∀j,zWW w5 j→j.cell? ⟨w2.heap.size,0,none⟩=some (.int .i64 a)∧j.cell? ⟨w2.heap.size,1,none⟩=some (.string q)∧j.cell? ⟨X,10,none⟩=some (.int .i64 m.acked)∧j.cell? ⟨w.heap.size,7,none⟩=some (.int .i64 r.lim)):=zh (fun j l=>by
    have r0:=(W.out.below l W.out.lt).cell 0;have r1:=(W.out.below l W.out.lt).cell 1;have r2:=(H5.out.below l).blk.cell 10;have r3:=(aC.out.below l aC.out.lt).cell 7;simp only[mdC,rqC,zA,zB,zC]at r0 r1 r2 r3
    exact⟨r0,r1,r2,r3⟩)
   clear hu ax;refine kJ 16 (fF [(9,⟨Option Addr × Nat,fun x=>.slice x.1 U.length x.2,fun x wz=>DOwn wz w.heap.size (.slice x.1 U.length x.2) U⟩),(10,⟨Option Addr × Nat,fun x=>.tuple #[.slice x.1 G.length x.2,.agg #[.int .i64 B,.string q]],fun x wz=>DOwn wz w.heap.size (.slice x.1 G.length x.2) G⟩),(14,⟨Nat,fun x=>.pointer (some ⟨x,0,none⟩),fun g j=>Blk j g 122 #[.int .i64 0,.string ⟨#[]⟩]∧w5.heap.size≤g⟩)]) (fun j=>zWW w5 j) (fun w1 w2=>zWW w1 w2) jk jk (fN (fun x wa wb hg h=>h.below hg) (fN (fun x wa wb hg h=>h.below hg) (fN (fun x wa wb hg h=>⟨h.1.below hg h.1.lt,h.2⟩) (fQ)))) ((zy _ _).drew) ?_;simp only[zX,List.take_zero,zo,List.drop_zero]
   iterate 8
    refine fG _ ?_ rfl jr jr (fun j n V=>?_) ?_;rotate_left
    ·have J:=Hc.out j n;go_simp;all_goals with_reducible rfl
    try simp only[Act.put,zD,zE,zF]
   refine fG 9 ?_ rfl jr jr (fun j n V=>?_) ?_;rotate_left
   ·have aX:∀(fn:Fn) (first cap:Array Value) (w:World),(Instr.makeFunc fn first cap).run prog w=.ok (.func fn first cap) w:=fun _ _ _ _=>rfl
    have J:=Hc.out j n;go_simp;all_goals with_reducible rfl
   try simp only[Act.put,zD,zE,zF]
   refine fo 10 _ rfl jr jr (fun j n V=>?_) (fun x=>?_)
   ·refine fZ (f:=?_) (args:=?_) ?_ ?_;rotate_left 2
    ·have J:=Hc.out j n;go_simp;all_goals first|with_reducible rfl|(refine⟨?_,?_⟩<;>with_reducible rfl)
    refine(CU.out j n).mono ?_;rintro e w9 ⟨v9,rfl,H,k⟩;obtain⟨A9,c9,rfl,_⟩:=H.read;exact⟨_,rfl,k,n.trans (k.mono n.size),(A9,c9),rfl,H.mono (zY T.out.size n.size)⟩
   obtain⟨A8,c8⟩:=x;try simp only[Act.put,zD,zE,zF]
   refine fo 11 _ rfl jr jr (fun j n V=>?_) (fun x=>?_)
   ·refine fZ (f:=?_) (args:=?_) ?_ ?_;rotate_left 2
    ·have J:=Hc.out j n;go_simp;all_goals first|with_reducible rfl|(refine⟨?_,?_⟩<;>with_reducible rfl)
    refine(CF.out j A8 c8 (gZ (kM V 9 jk) jd) (zY T.out.size n.size)).mono ?_;rintro e w9 ⟨A9,c9,rfl,H,k⟩;exact⟨_,rfl,k,n.trans (k.mono n.size),(A9,c9),rfl,H⟩
   obtain⟨A7,c7⟩:=x;try simp only[Act.put,zD,zE,zF]
   iterate 3
    refine fG _ ?_ rfl jr jr (fun j n V=>?_) ?_;rotate_left
    ·have J:=Hc.out j n;go_simp;all_goals with_reducible rfl
    try simp only[Act.put,zD,zE,zF]
   refine fo 15 _ rfl jr jr (fun j n V=>?_) (fun x=>?_)
   ·refine kr (u:=?_) (w':=?_) ?_ ?_ ?_;rotate_left 2
    ·have J:=Hc.out j n;go_simp;all_goals first|with_reducible rfl|(refine⟨?_,?_⟩<;>with_reducible rfl)
    ·exact(zRR _)
    exact⟨n.alloc n.size _,j.heap.size,rfl,Blk.new _ _ _,n.size⟩
   rename Nat=>x9
   try simp only[Act.put,zD,zE,zF]
   refine fG 16 ?_ rfl jr jr (fun j n V=>?_) ?_;rotate_left
   ·have J:=Hc.out j n;go_simp;all_goals with_reducible rfl
   try simp only[Act.put,zD,zE,zF]
   refine fW (fun w6 n R=>?_);have aE:=zh (gZ (nk (R 10) jd) jd);have aN:Hid (w.heap.size≤x9):=zh (zY T.out.size (gZ (R 14) jd).2);have aA:=zt T n;have af:=zb aQ n;have s:=(gZ (R 14) jd).1;clear R n CU CF Hc;have y0:=s.cell 0;have y1:=s.cell 1;have aP:=s.frozen 0;have aK:=s.frozen 1;simp only[zA,zB,zC]at y0 y1;have Y:=zh (nH (b0:=.int .i64 B) (b1:=.string q) s);have ap:w.heap.size+1≠x9:=af.out.ne_ s jd;have au:w.heap.size≤x9:=aN.out;have aw:=zh ((af.out.far (p:=⟨x9,0,none⟩) ap (.int .i64 B)).far (p:=⟨x9,1,none⟩) ap (.string q));have ad:=zh ((aA.out.setCell (p:=⟨x9,0,none⟩) au (.int .i64 B)).setCell (p:=⟨x9,1,none⟩) au (.string q));have aq:Hid (DOwn ((w6.setCell ⟨x9,0,none⟩ (.int .i64 B)).setCell ⟨x9,1,none⟩ (.string q)) w.heap.size (.slice A7 G.length c7) G):=zh (l8 aE.out (fun b l=>(vN _ _ _ _ (fun e=>by have e:b=x9:=e;subst e;exact l.elim (fun h=>absurd (h.one ⟨_,_,s⟩) jd) (fun h=>absurd (h.one ⟨_,_,s⟩) jd))).trans (vN _ _ _ _ (fun e=>by have e:b=x9:=e;subst e;exact l.elim (fun h=>absurd (h.one ⟨_,_,s⟩) jd) (fun h=>absurd (h.one ⟨_,_,s⟩) jd)))));have CE:=zh (qa B q ((w6.setCell ⟨x9,0,none⟩ (.int .i64 B)).setCell ⟨x9,1,none⟩ (.string q)));obtain⟨en,ak⟩:∃en,fE B q=en:=⟨_,rfl⟩;rw[ak]at CE;have al:=zh ak;clear ak s aE aA af
   go_upto_region 10 with(fail);generalize (w6.setCell ⟨x9,0,none⟩ (.int .i64 B)).setCell ⟨x9,1,none⟩ (.string q)=w7 at *;clear y0 y1 aP aK;have y0:=Y.out.cell 0;have y1:=Y.out.cell 1;simp only[zA,zB,zC]at y0 y1;go_wp2_with fail;refine CE.out.mono ?_;rintro e w8 P;obtain⟨v8,rfl,am⟩:=P.ex;obtain⟨A4,c4,rfl,_⟩:=Ev.fP am;have az:=zh am;have ar:=zh (ad.out.trans (P.bel.mono ad.out.size));have I:=zh (aw.out.below P.bel aw.out.lt);have aG:=zh (aq.out.below P.bel);have aW:=ad.out.size;clear P am CE y0 y1;by_cases hn:en=0
   ·subst hn;have Y:=zh (zz _ (w.heap.size+1) _ (rsC 0 0 0 (.slice A7 G.length c7) nil (.slice A4 (gJ B q).length c4) 0 0 0 0) _ _ I.out);go_wp2_with (refine zx (o:=⟨none,.store 42 _ _,_,_,_,_⟩) rfl 42 _ _ rfl (w.heap.size+1) (rsC 0 0 0 (.slice A7 G.length c7) nil (.slice A4 (gJ B q).length c4) 0 0 0 0) rfl rfl 42 rs0 I.out jk rfl (by simp[rsC,Value.oneCell']) ?_);refine zw (fA rfl rfl (zv _ (w.heap.size+1) 42 42 _ (0,0) _ Y.out underlying42 rfl jk)) rfl ?_;have aT:DOwn (w8.setRow (w.heap.size+1) (rsC 0 0 0 (.slice A7 G.length c7) nil (.slice A4 (gJ B q).length c4) 0 0 0 0)) w.heap.size (.slice A7 G.length c7) G:=l8 aG.out (fun b l=>vL w8 _ b _ (fun e=>by subst e;exact l.elim (fun h=>absurd (h.one ⟨_,_,I.out⟩) jd) (fun h=>absurd (h.one ⟨_,_,I.out⟩) jd)))
    exact⟨_,rfl,vI ar.out (zZ _) _,a,q,0,HD.out,.inr (.inr ⟨t,(G,B),rfl,ag.out,HP.out,by rw[HU.out,ae.out],.inr ⟨al.out,A7,c7,_,aT,gz (lH az.out aW) (fun b l=>vL w8 _ b _ (fun e=>by
     subst e
     exact absurd ((fO az.out l).one ⟨_,_,I.out⟩) jd)),rfl⟩⟩)⟩
   have a5:(en != 0)=true:=by simpa using hn
   have HN:=zh hn;clear hn;go_wp2_with fail;refine(iy en _).mono ?_;rintro e w9 ⟨rfl,k⟩;have L:=zt ar k;have D:=zb I k;clear k;have O:=zh (zz _ (w.heap.size+1) _ (rsC en 0 0 nil nil nil 0 0 0 0) _ _ D.out);go_wp2_with (refine zx (o:=⟨none,.store 42 _ _,_,_,_,_⟩) rfl 42 _ _ rfl (w.heap.size+1) (rsC en 0 0 nil nil nil 0 0 0 0) rfl rfl 42 rs0 D.out jk rfl (by simp[rsC,Value.oneCell']) ?_);refine zw (fA rfl rfl (zv _ (w.heap.size+1) 42 42 _ (0,0) _ O.out underlying42 rfl jk)) rfl ?_;exact⟨_,rfl,vI L.out (zZ _) _,a,q,0,HD.out,.inr (.inr ⟨t,(G,B),rfl,ag.out,HP.out,by rw[HU.out,ae.out],.inl ⟨by show fE B q≠0;rw[al.out];exact HN.out,by show _=rsC (fE B q) 0 0 nil nil nil 0 0 0 0;rw[al.out]⟩⟩)⟩
 have aY:(E != 0)=true:=by simpa using hE
 have HE:=zh hE;clear hE;go_wp2_with fail;refine(iy E _).mono ?_;rintro e w9 ⟨rfl,k⟩;have L:=zt Z k;have D:=zb S k;clear k;have O:=zh (zz _ (w.heap.size+1) _ (rsC E 0 0 nil nil nil 0 0 0 0) _ _ D.out);go_wp2_with (refine zx (o:=⟨none,.store 42 _ _,_,_,_,_⟩) rfl 42 _ _ rfl (w.heap.size+1) (rsC E 0 0 nil nil nil 0 0 0 0) rfl rfl 42 rs0 D.out jk rfl (by simp[rsC,Value.oneCell']) ?_);refine zw (fA rfl rfl (zv _ (w.heap.size+1) 42 42 _ (0,0) _ O.out underlying42 rfl jk)) rfl ?_;exact⟨_,rfl,vI L.out (zZ _) _,a,q,E,HD.out,.inl ⟨HE.out,rfl⟩⟩
end
end Md

namespace Md
open Go.RowKit Ut Tk Qy Qp Ev
theorem rN:I64 (-9223372036854775808):=⟨by decide,by decide⟩
theorem tX(n a b:Int)(w:World):Calls prog 76 #[.int .i64 n,.int .i64 a,.int .i64 b] w fun e w'=>e=.returned (.bool (decide (a≤n)&&decide (n≤b)))∧w=w':=by
 by_cases c:a≤n
 ·by_cases d:n≤b
  ·rw[zO c,zO d];go_enter func76,ntmps76;go_wp2;go_ret;exact⟨rfl,rfl⟩
  rw[zO c,zN d];go_enter func76,ntmps76;go_wp2;go_ret;exact⟨rfl,rfl⟩
 rw[zN c];go_enter func76,ntmps76;go_wp2;go_ret;exact⟨rfl,rfl⟩
theorem NI(c:Cf):decide (okC c)=((decide (1≤c.size)&&decide (c.size≤262144))&&decide (1≤c.age)&&decide (0≤c.retain)&&(decide (1≤c.batch)&&decide (c.batch≤64))&&(decide (1≤c.buckets)&&decide (c.buckets≤10000))):=by
 by_cases h:okC c
 ·have a:=h;unfold okC at a;obtain⟨g,e,b,d,l,i,f,j⟩:=a;rw[zO h,zO g,zO e,zO b,zO d,zO l,zO i,zO f,zO j];rfl
 rw[zN h];refine(Bool.eq_false_iff.2 (fun k=>h ?_)).symm;simp only[zr,zg]at k;unfold okC;omega
theorem Fy(c:Cf)(w:World):Calls prog 40 #[c.v] w fun e w'=>e=.returned (.int .i64 (if okC c then 0 else 270))∧zWW w w':=by
 have B:zWW w (w.alloc (.cells #[.int .i64 c.size,.int .i64 c.age,.int .i64 c.retain,.int .i64 c.batch,.int .i64 c.buckets,.bool c.bt,.bool c.bb] 25)):=zRR _;have f:=Blk.new w 25 #[.int .i64 c.size,.int .i64 c.age,.int .i64 c.retain,.int .i64 c.batch,.int .i64 c.buckets,.bool c.bt,.bool c.bb];have G:=f.cell 0;have C:=f.cell 1;have D:=f.cell 2;have F:=f.cell 3;have E:=f.cell 4;simp only[zA,zB,zC]at G C D F E;have i:(if okC c then(0:Int)else 270)=(if decide (okC c)=true then 0 else 270):=jz;rw[i,NI];obtain⟨s,o,m,n,r,I,H⟩:=c;simp only[Cf.v]at *;have b:=zh B;have a:=zh (fun k=>tX s 1 262144 k);have g:=zh (fun k=>tX n 1 64 k);have h:=zh (fun k=>tX r 1 10000 k);generalize (decide (1≤s)&&decide (s≤262144))=z at *;generalize (decide (1≤n)&&decide (n≤64))=A at *;generalize (decide (1≤r)&&decide (r≤10000))=y at *
 have x:∀p q:Bool,decide (1≤o)=p→decide (0≤m)=q→Calls prog 40 #[.agg #[.int .i64 s,.int .i64 o,.int .i64 m,.int .i64 n,.int .i64 r,.bool I,.bool H]] w fun e w'=>e=.returned (.int .i64 (if(z&&p&&q&&A&&y)=true then 0 else 270))∧zWW w w':=by
  intro p q j d;clear B f i
  cases z with
  | false=>
   clear j d;go_enter func40,ntmps40;go_wp2_with fail;refine(a.out _).mono ?_;rintro e l ⟨rfl,rfl⟩;clear a g h;go_wp2;go_ret;exact⟨rfl,b.out⟩
  | true=>
   cases p with
   | false=>
    have u:¬1≤o:=of_decide_eq_false j;clear j d;go_enter func40,ntmps40;go_wp2_with fail;refine(a.out _).mono ?_;rintro e l ⟨rfl,rfl⟩;clear a g h;go_wp2;go_ret;exact⟨rfl,b.out⟩
   | true=>
    have u:1≤o:=of_decide_eq_true j;clear j
    cases q with
    | false=>
     have t:¬0≤m:=of_decide_eq_false d;clear d;go_enter func40,ntmps40;go_wp2_with fail;refine(a.out _).mono ?_;rintro e l ⟨rfl,rfl⟩;clear a g h;go_wp2;go_ret;exact⟨rfl,b.out⟩
    | true=>
     have t:0≤m:=of_decide_eq_true d;clear d;go_enter func40,ntmps40;go_wp2_with fail;refine(a.out _).mono ?_;rintro e l ⟨rfl,rfl⟩;go_wp2_with fail;refine(g.out _).mono ?_;rintro e l ⟨rfl,rfl⟩
     cases A with
     | false=>
      clear a g h;go_wp2;go_ret;exact⟨rfl,b.out⟩
     | true=>
      go_wp2_with fail;refine(h.out _).mono ?_;rintro e l ⟨rfl,rfl⟩;clear a g h
      cases y with
      | false=>
       go_wp2;go_ret;exact⟨rfl,b.out⟩
      | true=>
       go_wp2;go_ret;exact⟨rfl,b.out⟩
 exact x _ _ rfl rfl
def xI(c:Cf)(w:World)(e:Ending)(w':World):Prop:=(okC c∧∃X,e=.returned (.tuple #[.pointer (some ⟨X,0,none⟩),.int .i64 0])∧w.heap.size≤X∧At w' w.heap.size X 0 nil ⟨c,[],-9223372036854775808,-9223372036854775808,0⟩∧zWW w w') ∨
 (¬okC c∧e=.returned (.tuple #[.pointer none,.int .i64 270])∧zWW w w')
theorem CY(c:Cf)(hr:c.retain≤9223372036854775807)(w:World):Calls prog 15 #[c.v] w (xI c w):=by
 have y:zWW w (w.alloc (.cells #[.int .i64 c.size,.int .i64 c.age,.int .i64 c.retain,.int .i64 c.batch,.int .i64 c.buckets,.bool c.bt,.bool c.bb] 25)):=zRR _;have d:=zh (Blk.new w 25 #[.int .i64 c.size,.int .i64 c.age,.int .i64 c.retain,.int .i64 c.batch,.int .i64 c.buckets,.bool c.bt,.bool c.bb]);have z:=zh y;have x:Hid (∀r,Calls prog 40 #[.agg #[.int .i64 c.size,.int .i64 c.age,.int .i64 c.retain,.int .i64 c.batch,.int .i64 c.buckets,.bool c.bt,.bool c.bb]] r fun e B=>e=.returned (.int .i64 (if okC c then 0 else 270))∧zWW r B):=zh (fun r=>Fy c r);show Calls prog 15 #[.agg #[.int .i64 c.size,.int .i64 c.age,.int .i64 c.retain,.int .i64 c.batch,.int .i64 c.buckets,.bool c.bt,.bool c.bb]] w (xI c w);clear y;go_enter func15,ntmps15
 go_upto_region 1 with(fail);generalize w.alloc (.cells #[.int .i64 c.size,.int .i64 c.age,.int .i64 c.retain,.int .i64 c.batch,.int .i64 c.buckets,.bool c.bt,.bool c.bb] 25)=A at *;have q:=d.out.cell 0;have l:=d.out.cell 1;have m:=d.out.cell 2;have p:=d.out.cell 3;have n:=d.out.cell 4;have o:=d.out.cell 5;have s:=d.out.cell 6;simp only[zA,zB,zC]at q l m p n o s;go_wp2_with fail;refine(x.out A).mono ?_;rintro e k ⟨rfl,j⟩;have g:=zt z j;have a:=d.out.below j d.out.lt;clear j x q l m p n o s;have q:=a.cell 0;have l:=a.cell 1;have m:=a.cell 2;have p:=a.cell 3;have n:=a.cell 4;have o:=a.cell 5;have s:=a.cell 6;simp only[zA,zB,zC]at q l m p n o s;clear a;by_cases b:okC c
 ·rw[zI b];have u:=Blk.new k 81 (mdC ⟨c,[],-9223372036854775808,-9223372036854775808,0⟩ nil);have f:zWW k (k.alloc (.cells (mdC ⟨c,[],-9223372036854775808,-9223372036854775808,0⟩ nil) 81)):=zRR _;have t:=g.out.size;have FIN:Hid (xI c w (.returned (.tuple #[.pointer (some ⟨k.heap.size,0,none⟩),.int .i64 0])) (k.alloc (.cells (mdC ⟨c,[],-9223372036854775808,-9223372036854775808,0⟩ nil) 81))):=zh (.inl ⟨b,_,rfl,t,⟨u,DOwn.start _ _,zY t f.size,⟨b,hr,fun i h=>absurd h jz,rN,rN,⟨Int.le_refl _,Int.natCast_nonneg _⟩⟩,zG _⟩,g.out.trans (f.mono t)⟩);clear u f b;go_wp2;go_ret2;exact FIN.out
 rw[zH b];go_wp2;go_ret2;exact .inr ⟨b,rfl,g.out⟩
end Md
end Go.Proofs.YtmomjpolkkbhnaaGreat
