/- Whether any two answers are the same: the program's Same, the document's SameResp (printed by gen_mfd.py). -/
import Derived.Test.YtmomjpolkkbhnaaGreatQModelRunsRow43
set_option linter.unusedSimpArgs false
set_option linter.unusedVariables false
set_option maxRecDepth 20000
set_option maxHeartbeats 100000000
open Go.Proofs.Tryz
namespace Go.Proofs.YtmomjpolkkbhnaaGreat
namespace Md
open Go.RowKit Ut Tk Qy Qp Ev Cu
open Hi (Bk bkC)
def AnsI(w:World)(cs:Array Value)(a:Ans):Prop:=∃A n c B k d C l e,cs=rsC a.E a.seq a.fl (.slice A n c) (.slice B k d) (.slice C l e) a.ev a.nx a.nw a.ak∧DocsAt w w.heap.size A n a.docs∧n≤8796093021952 ∧
 Reads w w.heap.size 2 B k (bkC a.bk)∧a.bk.length=k∧k≤140737488351232∧Reads w w.heap.size 1 C l (bv a.cur)∧a.cur.length=l∧l≤140737488351232
theorem AnsAt.big{w:World}{cs:Array Value}{a:Ans}(h:AnsAt w cs a):AnsI w cs a:=by
 obtain⟨A,n,c,B,k,d,C,l,e,i,g,o,b,m,p,f,j,q⟩:=h;exact⟨A,n,c,B,k,d,C,l,e,i,g,jo,b,m,jo,f,j,jo⟩
theorem AnsI.below{w w':World}{cs:Array Value}{a:Ans}(h:AnsI w cs a)(hb:zWW w w'):AnsI w' cs a:=by
 obtain⟨A,n,c,B,k,d,C,l,e,j,i,b,f,p,m,g,o⟩:=h;exact⟨A,n,c,B,k,d,C,l,e,j,i.grow hb,b,(f.below hb).more hb.size,p,m,(g.below hb).more hb.size,o⟩
def mo(a b:Ans):Bool:=(a.E==b.E)&&((a.seq==b.seq)&&((a.fl==b.fl)&&(decide (a.docs=b.docs)&&(decide (a.bk=b.bk)&&(decide (a.cur=b.cur)&&((a.ev==b.ev)&&((a.nx==b.nx)&&((a.nw==b.nw)&&(a.ak==b.ak)))))))))
theorem tY(a:Ans):mo a a=true:=by simp[mo]
theorem BZ(cs1 cs2:Array Value)(a b:Ans)(w:World)(h1:AnsI w cs1 a)(h2:AnsI w cs2 b):Calls prog 25 #[.agg cs1,.agg cs2] w fun e w'=>e=.returned (.bool (mo a b))∧zWW w w':=by
 obtain⟨A,n,c,B,k,d,C,l,e,rfl,hA,hn,hB,hk,an,hC,hl,ap⟩:=h1;obtain⟨A',n',c',B',k',d',C',l',e',rfl,ai,ao,al,am,ag,aj,aq,ah⟩:=h2;obtain⟨E,x,fl,ds,bk,u,ev,nx,nw,ak⟩:=a;obtain⟨E',r,G,af,v,f,H,F,D,I⟩:=b;simp only at *;subst hk am hl aq;have z:=((zy w.heap.size w).alloc (zG _) (.cells (rsC E x fl (.slice A n c) (.slice B bk.length d) (.slice C u.length e) ev nx nw ak) 42)).alloc jz (.cells (rsC E' r G (.slice A' n' c') (.slice B' v.length d') (.slice C' f.length e') H F D I) 42);have hx:=(Blk.new w 42 (rsC E x fl (.slice A n c) (.slice B bk.length d) (.slice C u.length e) ev nx nw ak)).alloc (.cells (rsC E' r G (.slice A' n' c') (.slice B' v.length d') (.slice C' f.length e') H F D I) 42);have hy:=Blk.new (w.alloc (.cells (rsC E x fl (.slice A n c) (.slice B bk.length d) (.slice C u.length e) ev nx nw ak) 42)) 42 (rsC E' r G (.slice A' n' c') (.slice B' v.length d') (.slice C' f.length e') H F D I);have z1:(w.alloc (.cells (rsC E x fl (.slice A n c) (.slice B bk.length d) (.slice C u.length e) ev nx nw ak) 42)).heap.size=w.heap.size+1:=jz;rw[z1]at hy;have i:=zh hx;have g:=zh hy;have ae:=zh z;obtain⟨t0,g0⟩:∃t,(E==E')=t:=⟨_,rfl⟩;obtain⟨t1,g1⟩:∃t,(x==r)=t:=⟨_,rfl⟩;obtain⟨t2,g2⟩:∃t,(fl==G)=t:=⟨_,rfl⟩;obtain⟨t3,g3⟩:∃t,(ev==H)=t:=⟨_,rfl⟩;obtain⟨t4,g4⟩:∃t,(nx==F)=t:=⟨_,rfl⟩;obtain⟨t5,g5⟩:∃t,(nw==D)=t:=⟨_,rfl⟩;obtain⟨t6,g6⟩:∃t,(ak==I)=t:=⟨_,rfl⟩;obtain⟨zd,gd⟩:∃t,decide (ds=af)=t:=⟨_,rfl⟩;obtain⟨zb',gb⟩:∃t,decide (bk=v)=t:=⟨_,rfl⟩;obtain⟨zc,gc⟩:∃t,decide (u=f)=t:=⟨_,rfl⟩;have L:Hid (mo ⟨E,x,fl,ds,bk,u,ev,nx,nw,ak⟩ ⟨E',r,G,af,v,f,H,F,D,I⟩=(t0&&(t1&&(t2&&(zd&&(zb'&&(zc&&(t3&&(t4&&(t5&&t6)))))))))):=zh (by simp only[mo,gd,gb,gc,g0,g1,g2,g3,g4,g5,g6]);have CD:Hid (∀s,zWW w s→Calls prog 58 #[.slice A n c,.slice A' n' c',.func (.func 59) #[] #[]] s fun e w'=>e=.returned (.bool zd)∧zWW s w'):=zh (fun s z=>by rw[←gd];exact NU A A' n n' c c' ds af s (hA.grow z) (ai.grow z) hn ao);have CB:Hid (∀s,zWW w s→Calls prog 61 #[.slice B bk.length d,.slice B' v.length d'] s fun e w'=>e=.returned (.bool zb')∧zWW s w'):=zh (fun s z=>by rw[←gb];exact Hi.IE B B' d d' s.heap.size s.heap.size bk v s ((hB.below z).more z.size) ((al.below z).more z.size) an ag);have CC:Hid (∀s,zWW w s→Calls prog 62 #[.slice C u.length e,.slice C' f.length e'] s fun e w'=>e=.returned (.bool zc)∧zWW s w'):=zh (fun s z=>by rw[←gc];exact MJ C C' e e' u f s ((hC.below z).more z.size) ((aj.below z).more z.size) ap ah);clear z hx hy z1 hA ai hB al hC aj gd gb gc;go_enter func25,ntmps25
 go_upto_region 1 with(fail);generalize ((w.alloc (.cells (rsC E x fl (.slice A n c) (.slice B bk.length d) (.slice C u.length e) ev nx nw ak) 42)).alloc (.cells (rsC E' r G (.slice A' n' c') (.slice B' v.length d') (.slice C' f.length e') H F D I) 42))=w1 at *;have x0:=i.out.cell 0;have W:=g.out.cell 0;have X:=i.out.cell 1;have R:=g.out.cell 1;have x2:=i.out.cell 2;have T:=g.out.cell 2;have V:=i.out.cell 3;have N:=g.out.cell 3;have O:=i.out.cell 4;have y4:=g.out.cell 4;have Z:=i.out.cell 5;have y5:=g.out.cell 5;have M:=i.out.cell 6;have U:=g.out.cell 6;have x7:=i.out.cell 7;have y7:=g.out.cell 7;have S:=i.out.cell 8;have P:=g.out.cell 8;have Y:=i.out.cell 9;have y9:=g.out.cell 9;simp only[rsC,zA,zB,zC]at x0 W X R x2 T V N O y4 Z y5 M U x7 y7 S P Y y9;go_wp2_with fail;refine(CD.out w1 ae.out).mono ?_;rintro e2 w2 ⟨rfl,ad⟩;have y:=zt ae ad;have o:=zb i ad;have h:=zb g ad;clear ad CD i g ae x0 W X R x2 T V N O y4 Z y5 M U x7 y7 S P Y y9;have x0:=o.out.cell 0;have W:=h.out.cell 0;have X:=o.out.cell 1;have R:=h.out.cell 1;have x2:=o.out.cell 2;have T:=h.out.cell 2;have V:=o.out.cell 3;have N:=h.out.cell 3;have O:=o.out.cell 4;have y4:=h.out.cell 4;have Z:=o.out.cell 5;have y5:=h.out.cell 5;have M:=o.out.cell 6;have U:=h.out.cell 6;have x7:=o.out.cell 7;have y7:=h.out.cell 7;have S:=o.out.cell 8;have P:=h.out.cell 8;have Y:=o.out.cell 9;have y9:=h.out.cell 9;simp only[rsC,zA,zB,zC]at x0 W X R x2 T V N O y4 Z y5 M U x7 y7 S P Y y9
 cases zd
 ·go_wp2;go_ret;exact⟨by rw[L.out];simp,y.out⟩
 cases t0
 ·go_wp2;go_ret;exact⟨by rw[L.out];simp,y.out⟩
 cases t1
 ·go_wp2;go_ret;exact⟨by rw[L.out];simp,y.out⟩
 cases t2
 ·go_wp2;go_ret;exact⟨by rw[L.out];simp,y.out⟩
 go_wp2_with fail;refine(CB.out w2 y.out).mono ?_;rintro e2 w3 ⟨rfl,ac⟩;have ab:=zt y ac;have j:=zb o ac;have m:=zb h ac;clear ac CB o h y x0 W X R x2 T V N O y4 Z y5 M U x7 y7 S P Y y9;have x0:=j.out.cell 0;have W:=m.out.cell 0;have X:=j.out.cell 1;have R:=m.out.cell 1;have x2:=j.out.cell 2;have T:=m.out.cell 2;have V:=j.out.cell 3;have N:=m.out.cell 3;have O:=j.out.cell 4;have y4:=m.out.cell 4;have Z:=j.out.cell 5;have y5:=m.out.cell 5;have M:=j.out.cell 6;have U:=m.out.cell 6;have x7:=j.out.cell 7;have y7:=m.out.cell 7;have S:=j.out.cell 8;have P:=m.out.cell 8;have Y:=j.out.cell 9;have y9:=m.out.cell 9;simp only[rsC,zA,zB,zC]at x0 W X R x2 T V N O y4 Z y5 M U x7 y7 S P Y y9
 cases zb'
 ·go_wp2;go_ret;exact⟨by rw[L.out];simp,ab.out⟩
 go_wp2_with fail;refine(CC.out w3 ab.out).mono ?_;rintro e2 w4 ⟨rfl,aa⟩;have J:=zt ab aa;have p:=zb j aa;have q:=zb m aa;clear aa CC j m ab x0 W X R x2 T V N O y4 Z y5 M U x7 y7 S P Y y9;have x0:=p.out.cell 0;have W:=q.out.cell 0;have X:=p.out.cell 1;have R:=q.out.cell 1;have x2:=p.out.cell 2;have T:=q.out.cell 2;have V:=p.out.cell 3;have N:=q.out.cell 3;have O:=p.out.cell 4;have y4:=q.out.cell 4;have Z:=p.out.cell 5;have y5:=q.out.cell 5;have M:=p.out.cell 6;have U:=q.out.cell 6;have x7:=p.out.cell 7;have y7:=q.out.cell 7;have S:=p.out.cell 8;have P:=q.out.cell 8;have Y:=p.out.cell 9;have y9:=q.out.cell 9;simp only[rsC,zA,zB,zC]at x0 W X R x2 T V N O y4 Z y5 M U x7 y7 S P Y y9
 cases zc
 ·go_wp2;go_ret;exact⟨by rw[L.out];simp,J.out⟩
 cases t3
 ·go_wp2;go_ret;exact⟨by rw[L.out];simp,J.out⟩
 cases t4
 ·go_wp2;go_ret;exact⟨by rw[L.out];simp,J.out⟩
 cases t5
 ·go_wp2;go_ret;exact⟨by rw[L.out];simp,J.out⟩
 cases t6
 ·go_wp2;go_ret;exact⟨by rw[L.out];simp,J.out⟩
 go_wp2;go_ret;exact⟨by rw[L.out];simp,J.out⟩
theorem uL(cs1 cs2:Array Value)(a b:Ans)(w:World)(h1:AnsI w cs1 a)(h2:AnsI w cs2 b):Calls prog 20 #[.agg cs1,.agg cs2] w fun e w'=>e=.returned (.bool (mo a b))∧zWW w w':=by
 obtain⟨A,n,c,B,k,d,C,l,e,rfl,hA,hn,hB,hk,ah,hC,hl,an⟩:=h1;obtain⟨A',n',c',B',k',d',C',l',e',rfl,ac,ai,ae,ag,ab,ad,aj,al⟩:=h2;obtain⟨E,x,fl,ds,N,o,ev,nx,nw,P⟩:=a;obtain⟨E',s,F,aa,u,f,G,z,y,H⟩:=b;simp only at *;subst hk ag hl aj;have I:=((zy w.heap.size w).alloc (zG _) (.cells (rsC E x fl (.slice A n c) (.slice B N.length d) (.slice C o.length e) ev nx nw P) 42)).alloc jz (.cells (rsC E' s F (.slice A' n' c') (.slice B' u.length d') (.slice C' f.length e') G z y H) 42);have hx:=(Blk.new w 42 (rsC E x fl (.slice A n c) (.slice B N.length d) (.slice C o.length e) ev nx nw P)).alloc (.cells (rsC E' s F (.slice A' n' c') (.slice B' u.length d') (.slice C' f.length e') G z y H) 42);have hy:=Blk.new (w.alloc (.cells (rsC E x fl (.slice A n c) (.slice B N.length d) (.slice C o.length e) ev nx nw P) 42)) 42 (rsC E' s F (.slice A' n' c') (.slice B' u.length d') (.slice C' f.length e') G z y H);have z1:(w.alloc (.cells (rsC E x fl (.slice A n c) (.slice B N.length d) (.slice C o.length e) ev nx nw P) 42)).heap.size=w.heap.size+1:=jz;rw[z1]at hy;have j:=zh hx;have g:=zh hy;have D:=zh I;obtain⟨t0,g0⟩:∃t,(E==E')=t:=⟨_,rfl⟩;obtain⟨t1,g1⟩:∃t,(x==s)=t:=⟨_,rfl⟩;obtain⟨t2,g2⟩:∃t,(fl==F)=t:=⟨_,rfl⟩;obtain⟨t3,g3⟩:∃t,(ev==G)=t:=⟨_,rfl⟩;obtain⟨t4,g4⟩:∃t,(nx==z)=t:=⟨_,rfl⟩;obtain⟨t5,g5⟩:∃t,(nw==y)=t:=⟨_,rfl⟩;obtain⟨t6,g6⟩:∃t,(P==H)=t:=⟨_,rfl⟩;obtain⟨zd,gd⟩:∃t,decide (ds=aa)=t:=⟨_,rfl⟩;obtain⟨X,gb⟩:∃t,decide (N=u)=t:=⟨_,rfl⟩;obtain⟨zc,gc⟩:∃t,decide (o=f)=t:=⟨_,rfl⟩;have J:Hid (mo ⟨E,x,fl,ds,N,o,ev,nx,nw,P⟩ ⟨E',s,F,aa,u,f,G,z,y,H⟩=(t0&&(t1&&(t2&&(zd&&(X&&(zc&&(t3&&(t4&&(t5&&t6)))))))))):=zh (by simp only[mo,gd,gb,gc,g0,g1,g2,g3,g4,g5,g6]);have CD:Hid (∀r,zWW w r→Calls prog 55 #[.slice A n c,.slice A' n' c'] r fun e w'=>e=.returned (.bool zd)∧zWW r w'):=zh (fun r I=>by rw[←gd];exact KE A A' n n' c c' ds aa r (hA.grow I) (ac.grow I) hn ai);have CB:Hid (∀r,zWW w r→Calls prog 14 #[.slice B N.length d,.slice B' u.length d'] r fun e w'=>e=.returned (.bool X)∧zWW r w'):=zh (fun r I=>by rw[←gb];exact Hi.IB B B' d d' r.heap.size r.heap.size N u r ((hB.below I).more I.size) ((ae.below I).more I.size) ah ab);have af:Hid (∀r,zWW w r→(convert 30 9 (.slice C o.length e)).run prog r=.ok (.string ⟨o.toArray⟩) r∧(convert 30 9 (.slice C' f.length e')).run prog r=.ok (.string ⟨f.toArray⟩) r):=zh (fun r I=>⟨nG e (hC.below I),nG e' (ad.below I)⟩);have gs:(o==f)=zc:=by rw[←gc];by_cases h:o=f<;>simp[h]
 clear I hx hy z1 hA ac hB ae hC ad gd gb gc;go_enter func20,ntmps20;have x0:=j.out.cell 0;have y0:=g.out.cell 0;have x1:=j.out.cell 1;have V:=g.out.cell 1;have x2:=j.out.cell 2;have Y:=g.out.cell 2;have x3:=j.out.cell 3;have S:=g.out.cell 3;have T:=j.out.cell 4;have y4:=g.out.cell 4;have x5:=j.out.cell 5;have y5:=g.out.cell 5;have R:=j.out.cell 6;have Z:=g.out.cell 6;have x7:=j.out.cell 7;have y7:=g.out.cell 7;have W:=j.out.cell 8;have U:=g.out.cell 8;have x9:=j.out.cell 9;have y9:=g.out.cell 9;simp only[rsC,zA,zB,zC]at x0 y0 x1 V x2 Y x3 S T y4 x5 y5 R Z x7 y7 W U x9 y9
 cases t0
 ·go_wp2;go_ret;exact⟨by rw[J.out];simp,D.out⟩
 cases t1
 ·go_wp2;go_ret;exact⟨by rw[J.out];simp,D.out⟩
 cases t2
 ·go_wp2;go_ret;exact⟨by rw[J.out];simp,D.out⟩
 go_wp2_with fail;generalize ((w.alloc (.cells (rsC E x fl (.slice A n c) (.slice B N.length d) (.slice C o.length e) ev nx nw P) 42)).alloc (.cells (rsC E' s F (.slice A' n' c') (.slice B' u.length d') (.slice C' f.length e') G z y H) 42))=w1 at *;refine(CD.out w1 D.out).mono ?_;rintro e2 w2 ⟨rfl,O⟩;have L:=zt D O;have m:=zb j O;have i:=zb g O;clear O CD j g D x0 y0 x1 V x2 Y x3 S T y4 x5 y5 R Z x7 y7 W U x9 y9;have x0:=m.out.cell 0;have y0:=i.out.cell 0;have x1:=m.out.cell 1;have V:=i.out.cell 1;have x2:=m.out.cell 2;have Y:=i.out.cell 2;have x3:=m.out.cell 3;have S:=i.out.cell 3;have T:=m.out.cell 4;have y4:=i.out.cell 4;have x5:=m.out.cell 5;have y5:=i.out.cell 5;have R:=m.out.cell 6;have Z:=i.out.cell 6;have x7:=m.out.cell 7;have y7:=i.out.cell 7;have W:=m.out.cell 8;have U:=i.out.cell 8;have x9:=m.out.cell 9;have y9:=i.out.cell 9;simp only[rsC,zA,zB,zC]at x0 y0 x1 V x2 Y x3 S T y4 x5 y5 R Z x7 y7 W U x9 y9
 cases zd
 ·go_wp2;go_ret;exact⟨by rw[J.out];simp,L.out⟩
 go_wp2_with fail;refine(CB.out w2 L.out).mono ?_;rintro e2 w3 ⟨rfl,M⟩;have v:=zt L M;have p:=zb m M;have q:=zb i M;clear M CB m i L x0 y0 x1 V x2 Y x3 S T y4 x5 y5 R Z x7 y7 W U x9 y9;have x0:=p.out.cell 0;have y0:=q.out.cell 0;have x1:=p.out.cell 1;have V:=q.out.cell 1;have x2:=p.out.cell 2;have Y:=q.out.cell 2;have x3:=p.out.cell 3;have S:=q.out.cell 3;have T:=p.out.cell 4;have y4:=q.out.cell 4;have x5:=p.out.cell 5;have y5:=q.out.cell 5;have R:=p.out.cell 6;have Z:=q.out.cell 6;have x7:=p.out.cell 7;have y7:=q.out.cell 7;have W:=p.out.cell 8;have U:=q.out.cell 8;have x9:=p.out.cell 9;have y9:=q.out.cell 9;simp only[rsC,zA,zB,zC]at x0 y0 x1 V x2 Y x3 S T y4 x5 y5 R Z x7 y7 W U x9 y9
 cases X
 ·go_wp2;go_ret;exact⟨by rw[J.out];simp,v.out⟩
 obtain⟨ao,am⟩:=af.out w3 v.out
 cases zc
 ·go_wp2;go_ret;exact⟨by rw[J.out];simp,v.out⟩
 cases t3
 ·go_wp2;go_ret;exact⟨by rw[J.out];simp,v.out⟩
 cases t4
 ·go_wp2;go_ret;exact⟨by rw[J.out];simp,v.out⟩
 cases t5
 ·go_wp2;go_ret;exact⟨by rw[J.out];simp,v.out⟩
 cases t6
 ·go_wp2;go_ret;exact⟨by rw[J.out];simp,v.out⟩
 go_wp2;go_ret;exact⟨by rw[J.out];simp,v.out⟩
end Md
end Go.Proofs.YtmomjpolkkbhnaaGreat
