/- What Do tells, kept while the model goes on: its rows are none of the model's. (No walk.) -/
import Derived.Test.YtmomjpolkkbhnaaGreatQModelRunsRow35
import Derived.Test.YtmomjpolkkbhnaaGreatQModelRunsRow38
import Derived.Test.YtmomjpolkkbhnaaGreatQModelRunsRow43
set_option linter.unusedSimpArgs false
set_option linter.unusedVariables false
set_option maxRecDepth 20000
set_option maxHeartbeats 100000000
open Go.Proofs.Tryz
namespace Go.Proofs.YtmomjpolkkbhnaaGreat
namespace Md
open Go.RowKit Ut Tk Qy Qp Ev Cu
open Hi (Bk bkC ofF OwnB)
structure AnsP (w:World) (v:Value) (cs:Array Value) (a:Ans):Prop where
 ex:∃v1 v2 v3 lo,cs=rsC a.E a.seq a.fl v1 v2 v3 a.ev a.nx a.nw a.ak∧DOwn w lo v1 a.docs∧(∃base,w.ownsRow base 91 2 v2 a.bk.length (bkC a.bk))∧(∃base,w.ownsRow base 5 1 v3 a.cur.length (bv a.cur))∧∀b,v1.ownBlock=some b→b<w.heap.size∧v.ownBlock≠some b
 few:a.docs.length≤1048576∧a.bk.length≤1048576∧a.cur.length≤1048576
section
variable {w w':World} {v v':Value} {cs:Array Value} {a:Ans} {n0 X K base:Nat} {m m':M} {r:Rq}
theorem AnsP.o(h:AnsP w v cs a):AnsO w cs a:=by
 obtain⟨⟨j,c,f,k,e,g,d,b,_⟩,i⟩:=h;exact⟨⟨j,c,f,e,DW.ofD g,d,b⟩,i⟩
theorem jB(w:World)(v:Value)(e s f v0 n u k:Int):AnsP w v (rsC e s f nil nil nil v0 n u k) ⟨e,s,f,[],[],[],v0,n,u,k⟩:=
 ⟨⟨nil,nil,nil,0,rfl,DOwn.start _ _,⟨0,vO _ _ _ _⟩,⟨0,vO _ _ _ _⟩,fun b h=>by cases h⟩,zS _,zS _,zS _⟩
theorem AnsP.below(h:AnsP w v cs a)(hb:zWW w w'):AnsP w' v cs a:=by
 obtain⟨⟨n,c,f,p,e,k,⟨g,j⟩,⟨o,i⟩,d⟩,l⟩:=h;exact⟨⟨n,c,f,p,e,k.below hb,⟨g,j.kept (fH hb none) (by cases hv:c.ownBlock<;>simp)⟩,⟨o,i.kept (fH hb none) (by cases hv:f.ownBlock<;>simp)⟩,fun b e=>⟨zT (d b e).1 hb.size,(d b e).2⟩⟩,l⟩
theorem AnsP.step(h:AnsP w v cs a)(hA:At w n0 X K v m)(hc:Chg (fun b=>b=X∨v.ownBlock=some b) w w')(ho:OwnN w v v'):AnsP w' v' cs a:=by
 obtain⟨⟨n,E,y,B,e,H,⟨u,F⟩,⟨J,q⟩,d⟩,I⟩:=h;obtain⟨g,o,l,x⟩:=H.ex;obtain⟨C,_,p,_⟩:=hA.own.ex
 have j:∀b (T:TypeId),Tg w T b→T≠81→b≠X:=fun b T A D e=>by
  subst e;exact D (A.one ⟨_,_,hA.blk⟩)
 refine⟨⟨n,E,y,B,e,⟨g,o,gz l (fun b c=>hc.block b (d b c).1 (fun h=>h.elim (j b _ (fO l c) jd) (d b c).2)),fun i a b=>(x i a b).same (fun b c=>?_)⟩,⟨u,chg_own hc hA F jd jd⟩,⟨J,chg_own hc hA q jd jd⟩,fun b c=>?_⟩,I⟩
 ·have k:=hc.block b c.2.lt (fun h=>h.elim (j b _ c.2 jd) (fun h=>absurd ((fO p h).one c.2) jd));refine⟨⟨c.1,?_⟩,k⟩;obtain⟨f,s,G⟩:=c.2;exact⟨f,s,k.trans G⟩
 obtain⟨t,z⟩:=d b c;refine⟨zT t hc.size,fun h=>?_⟩;rcases ho with ho|ho
 ·exact z (ho ▸ h)
 have:=ho b h;omega
theorem AnsP.kp(h:AnsP w v cs a)(hs:w.heap.size≤w'.heap.size)(hk:∀b T,Tg w T b→T=48∨T=91∨T=5∨T=85→w'.heap[b]?=w.heap[b]?):AnsP w' v cs a:=by
 obtain⟨⟨o,j,k,q,e,l,⟨i,f⟩,⟨p,d⟩,g⟩,n⟩:=h;exact⟨⟨o,j,k,q,e,l8 l (fun b c=>c.elim (fun h=>hk b _ h (.inl rfl)) (fun h=>hk b _ h (.inr (.inr (.inr rfl))))),⟨i,gz f (fun b c=>hk b _ (fO f c) (.inr (.inl rfl)))⟩,⟨p,gz d (fun b c=>hk b _ (fO d c) (.inr (.inr (.inl rfl))))⟩,fun b c=>⟨zT (g b c).1 hs,(g b c).2⟩⟩,n⟩
end
section
variable {w w':World} {v v':Value} {cs:Array Value} {n0 X K base:Nat} {m m':M} {r:Rq}
theorem DX{w:World}{base k n:Nat}{T:TypeId}{v u:Value}{xs:List Value}(h:w.ownsRow base T k v n xs)(hu:∀b,u.ownBlock=some b→b<base):∀b,v.ownBlock=some b→b<w.heap.size∧u.ownBlock≠some b:=fun b c=>by
 have:=h.lt b c;exact⟨this.2,fun e=>by have:=hu b e;omega⟩
theorem J3{A:Option Addr}{n j c:Nat}{ds:List Dc}(h:DOwn w base (.slice A n c) ds)(hn:ds.length=n)(hj:j≤n):DOwn w base (.slice A j c) (ds.take j):=by
 obtain⟨d,p,g,f⟩:=h.ex
 have k:∀v∈d,v.length=3:=fun v o=>by
  obtain⟨i,l,rfl⟩:=zu.1 o;exact(f i jo l).len
 have e:(ds.take j).length=j:=jw;refine⟨d.take j,by rw[zK,e];omega,?_,fun i a b=>?_⟩
 ·rw[e,oU k];rw[hn]at g;exact CX g hj
 rw[List.getElem_take,List.getElem_take];exact f i (by rw[e]at a;omega) (by rw[zK]at b;omega)
theorem qR(w:World)(T:TypeId)(k:Nat):∃base,w.ownsRow base T k nil 0 []:=⟨0,vO _ _ _ _⟩
theorem SeR.ansP(h:SeR base w' m r cs)(hk:m.ds.length≤1048576)(hv:∀b,v.ownBlock=some b→b<base):∃a,SeA m r a∧AnsP w' v cs a:=by
 obtain⟨E,o,f,⟨d,rfl⟩|⟨d,e,rfl⟩|⟨q,D,A,c,d,e,j,g,n,rfl⟩⟩:=h
 ·exact⟨_,⟨E,o,f,.inl ⟨d,rfl⟩⟩,jB ..⟩
 ·exact⟨_,⟨E,o,f,.inr (.inl ⟨d,e,rfl⟩)⟩,jB ..⟩
 have p:=g.perm.length_eq;have s:=rM m (inB r.frm r.til q);have i:=J3 n rfl (Nat.min_le_left D.length r.lim.toNat);obtain⟨l,_,k,_⟩:=i.ex;exact⟨{ an0 0 0 0 with docs:=D.take (min D.length r.lim.toNat) },⟨E,o,f,.inr (.inr ⟨q,D,d,e,j,g,rfl⟩)⟩,⟨_,nil,nil,_,rfl,i,qR ..,qR ..,DX k hv⟩,by show (D.take _).length≤1048576;rw[zK];omega,zS _,zS _⟩
theorem HgR.ansP(h:HgR w' m r base cs)(hb:m.c.buckets≤10000):∃a,HgA m r a∧AnsP w' v cs a:=by
 obtain⟨E,o,f,⟨d,rfl⟩|⟨d,e,rfl⟩|⟨q,D,d,e,i,j,⟨g,rfl⟩|⟨g,v,k,rfl⟩⟩⟩:=h
 ·exact⟨_,⟨E,o,f,.inl ⟨d,rfl⟩⟩,jB ..⟩
 ·exact⟨_,⟨E,o,f,.inr (.inl ⟨d,e,rfl⟩)⟩,jB ..⟩
 ·exact⟨_,⟨E,o,f,.inr (.inr ⟨q,D,d,e,i,j,.inl ⟨g,rfl⟩⟩)⟩,jB ..⟩
 exact⟨{ an0 0 0 0 with bk:=ofF r.width (D.map (·.at_)) },⟨E,o,f,.inr (.inr ⟨q,D,d,e,i,j,.inr ⟨g,rfl⟩⟩)⟩,⟨nil,v,nil,0,rfl,DOwn.start _ _,⟨_,k⟩,qR ..,fun b h=>by cases h⟩,zS _,by show (ofF r.width (D.map (·.at_))).length≤1048576;omega,zS _⟩
theorem OpR.ansP(h:OpR base w' r cs):∃a,OpA r a∧AnsP w' v cs a:=by
 obtain⟨E,o,e,⟨c,rfl⟩|⟨c,d,rfl⟩|⟨v,c,d,f,rfl⟩⟩:=h
 ·exact⟨_,⟨E,o,e,.inl ⟨c,rfl⟩⟩,jB ..⟩
 ·exact⟨_,⟨E,o,e,.inr (.inl ⟨c,d,rfl⟩)⟩,jB ..⟩
 have:=og r.after r.q;exact⟨{ an0 0 0 0 with cur:=gJ r.after r.q },⟨E,o,e,.inr (.inr ⟨c,d,rfl⟩)⟩,⟨nil,nil,v,0,rfl,DOwn.start _ _,qR ..,⟨_,f⟩,fun b h=>by cases h⟩,zS _,zS _,by show (gJ r.after r.q).length≤1048576;omega⟩
theorem TlR.ansP(h:TlR w' m r base cs)(hk:m.ds.length≤1048576)(hv:∀b,v.ownBlock=some b→b<base):∃a,TlA m r a∧AnsP w' v cs a:=by
 obtain⟨x,q,E,f,⟨d,rfl⟩|⟨d,e,rfl⟩|⟨l,p,d,e,j,g,⟨i,rfl⟩|⟨i,A,c,v,k,n,rfl⟩⟩⟩:=h
 ·exact⟨_,⟨x,q,E,f,.inl ⟨d,rfl⟩⟩,jB ..⟩
 ·exact⟨_,⟨x,q,E,f,.inr (.inl ⟨d,e,rfl⟩)⟩,jB ..⟩
 ·exact⟨_,⟨x,q,E,f,.inr (.inr ⟨l,p,d,e,j,g,.inl ⟨i,rfl⟩⟩)⟩,jB ..⟩
 have:=og p.2 q;have t:p.1.length≤m.ds.length:=by rw[g];exact zY (wF ..) (rM ..)
 obtain⟨s,_,o,_⟩:=k.ex;exact⟨{ an0 0 0 0 with docs:=p.1,cur:=gJ p.2 q },⟨x,q,E,f,.inr (.inr ⟨l,p,d,e,j,g,.inr ⟨i,rfl⟩⟩)⟩,⟨_,nil,v,_,rfl,k,qR ..,⟨_,n⟩,DX o hv⟩,by show p.1.length≤1048576;omega,zS _,by show (gJ p.2 q).length≤1048576;omega⟩
theorem J4(m:M)(r:Rq)(w:World):AnsP w v (ing m r).2 (ko m r):=by
 unfold ing ko
 repeat' split
 all_goals exact jB ..
theorem J5(m:M)(w:World):AnsP w v (kz m) (oN m):=by
 unfold kz oN
 split
 all_goals exact jB ..
theorem DoR.ansP(h:DoR w.heap.size w' m r m' cs)(hA:At w n0 X K v m)(hk:K≤1048576)(hc:Chg (fun b=>b=X∨v.ownBlock=some b) w w')(h7:7≤r.op→zWW w w'∧v'=v):m'=gD m r∧∃a,AnsR m r a∧AnsP w' v' cs a:=by
 have i:=hA.ok;have hk:m.ds.length≤1048576:=zY hA.few hk;have j:=i.c.2.2.2.2.2.2.2;have g:=DV hA;unfold gD;rcases h with⟨e,rfl,rfl⟩|⟨e,rfl,rfl⟩|⟨e,rfl,rfl⟩|⟨e,rfl,rfl⟩|⟨e,rfl,rfl⟩|⟨e,rfl,h⟩|⟨e,rfl,h⟩|⟨e,rfl,h⟩|⟨e,rfl,h⟩|⟨e,rfl,rfl⟩|⟨e,rfl,rfl⟩
 ·exact⟨by rw[zI e],_,.inl ⟨e,rfl⟩,J4 m r w'⟩
 ·exact⟨by rw[zH jo,zI e],_,.inr (.inl ⟨e,rfl⟩),jB ..⟩
 ·exact⟨by rw[zH jo,zH jo,zI e],_,.inr (.inr (.inl ⟨e,rfl⟩)),jB ..⟩
 ·exact⟨by rw[zH jo,zH jo,zH jo,zH jo],_,.inr (.inr (.inr (.inl ⟨e,rfl⟩))),jB ..⟩
 ·exact⟨by rw[zH jo,zH jo,zH jo,zI e],_,.inr (.inr (.inr (.inr (.inl ⟨e,rfl⟩)))),J5 m w'⟩
 ·obtain⟨a,f,d⟩:=h.ansP hk g;rw[(h7 jo).2];exact⟨by rw[zH jo,zH jo,zH jo,zH jo],a,.inr (.inr (.inr (.inr (.inr (.inl ⟨e,f⟩))))),d⟩
 ·obtain⟨a,f,d⟩:=h.ansP j;exact⟨by rw[zH jo,zH jo,zH jo,zH jo],a,.inr (.inr (.inr (.inr (.inr (.inr (.inl ⟨e,f⟩)))))),d⟩
 ·obtain⟨a,f,d⟩:=h.ansP;exact⟨by rw[zH jo,zH jo,zH jo,zH jo],a,.inr (.inr (.inr (.inr (.inr (.inr (.inr (.inl ⟨e,f⟩))))))),d⟩
 ·obtain⟨a,f,d⟩:=h.ansP hk g;rw[(h7 jo).2];exact⟨by rw[zH jo,zH jo,zH jo,zH jo],a,.inr (.inr (.inr (.inr (.inr (.inr (.inr (.inr (.inl ⟨e,f⟩)))))))),d⟩
 ·exact⟨by rw[zH jo,zH jo,zH jo,zH jo],_,.inr (.inr (.inr (.inr (.inr (.inr (.inr (.inr (.inr (.inl ⟨e,rfl⟩))))))))),jB ..⟩
 exact⟨by rw[zH jo,zH jo,zH jo,zH jo],_,.inr (.inr (.inr (.inr (.inr (.inr (.inr (.inr (.inr (.inr ⟨e,rfl⟩))))))))),jB ..⟩
end
end Md

namespace Md
open Go.RowKit Ut Tk Qy Qp Ev Ph Cu
theorem EvsS.at_{w:World}{S:Nat→Prop}{n c:Nat}{A:Option Addr}{l:List Evn}(h:EvsS w S A n c l){i:Nat}(hi:i<l.length) :
  ∃b o F fn fc,A=some ⟨b,o,none⟩∧S b∧w.cell? ⟨b,o+i*2,none⟩=some (.int .i64 l[i].1)∧w.cell? ⟨b,o+i*2+1,none⟩=some (.slice F fn fc)∧ReadsS w S 2 F fn (fJ l[i].2)∧l[i].2.length=fn∧fn≤8796093021952∧fn≤fc∧(F=none→fc=0):=by
 obtain⟨d,J,C,f⟩:=h.ex;have I:=h.ln;have a:i<d.length:=jo
 have g:∀v∈d,v.length=2:=fun v B=>by
  obtain⟨j,u,rfl⟩:=zu.1 B;obtain⟨_,_,_,e,_⟩:=(f j jo u).ex;rw[e];rfl
 obtain⟨F,fn,fc,e,s,D,y,x,G⟩:=(f i hi a).ex;obtain⟨b,o,t,H,p⟩:=C.2 jo;have r:=iM g i 0 a jo;have k:=iM g i 1 a jo;rw[e]at r k;have E:=p _ _ r;have q:=p _ _ k;rw[←Nat.add_assoc]at q;exact⟨b,o,F,fn,fc,t,H,E,q,s,D,y,x,G⟩
def sZ(w:World)(S Se:Nat→Prop)(K:Nat)(m:M)(evs:List Evn)(e:Ending)(w':World):Prop:=∃z':Rz,e=.returned (.agg (rmC m z')) ∧
 RAt w' (fun b=>S b∨Se b∨(w.heap.size≤b∧b<w'.heap.size)) (K+65) { m with ds:=m.ds++Ev.mkD ((m.ds.length:Nat)+1) evs } z'∧z'.n=m.ds.length+evs.length∧zWW w w'
section
variable {w:World} {S Se:Nat→Prop} {K:Nat} {m:M} {z:Rz}
theorem J6(h:RAt w S K m z)(hK:K≤60000)(A:Option Addr)(n c:Nat)(evs:List Evn)(hE:EvsS w Se A n c evs)(hSe:∀b,Se b→b<w.heap.size)(hck:gQ ((m.ds.length:Nat)+1) evs=0)(ht:∀e∈evs,I64 e.1) :
  Calls prog 83 #[.agg (rmC m z),.slice A n c] w (sZ w S Se K m evs):=by
 obtain⟨i0,aS,aU,a2,aL⟩:=info_parts Ev.lU;obtain⟨j0,a7,aF,bc,aV⟩:=info_parts oV;have hb:zWW w ((w.alloc (.cells (rmC m z) 29)).alloc (.cells zmC 29)):=(zRR _).alloc jz _;have hm:=(Blk.new w 29 (rmC m z)).alloc (.cells zmC 29);have hr:=Blk.new (w.alloc (.cells (rmC m z) 29)) 29 zmC;have z1:(w.alloc (.cells (rmC m z) 29)).heap.size=w.heap.size+1:=jz;rw[z1]at hr;have HM:=zh hm;have HR:=zh hr;have HB:=zh hb;have HA:=zh (h.below hb);have bM:=zh hE;have bQ:m.ds.length≤z.n:=by rw[h.ds.ln];exact zG _
 have bR:z.n≤m.ds.length:=by rw[h.ds.ln];exact zG _
 have aw:=zh h.ds.ln;have ac:=zh hE.ln;have b8:n≤64:=by rw[←ac.out];exact(rF hck).2.1
 have b3:w.heap.size+2=(World.heap ((w.alloc (.cells (rmC m z) 29)).alloc (.cells zmC 29))).size:=jz;have bN:=h.few;have a0:=h.ek;have q:Hid ((∀b,S b→b<w.heap.size)∧∀b,Se b→b<w.heap.size):=zh ⟨h.lt,hSe⟩;have bA:=h.ok.ak;have bw:=zh (ru h.ok evs hck ht m.acked ⟨bA.1,jo⟩);have bE:Hid (∀(e:Ending) (w':World),sZ w S Se K m evs e w'→sZ w S Se K m evs e w'):=zh (fun _ _ h=>h);obtain⟨aj,g1,g2,g3⟩:=(h.below hb).ds.ex;have aE:Reads _ _ 3 z.A z.n aj.flatten:=g2.reads (fun b hb'=>zT (h.lt b hb') hb.size);have G2:=zh aE;have G1:=zh g1;have G3:=zh g3;have az:=zh (ui (by rw[g1,aw.out]) g3);have bC:=zh (And.intro h.cap h.nl);have aR:=zh h.en;clear h hE hSe hck ht hb hm hr z1 g1 g2 g3 aE;go_enter func83,ntmps83
 go_upto_region 1 with(fail);generalize ((w.alloc (.cells (rmC m z) 29)).alloc (.cells zmC 29))=y at *;have k7:=HM.out.cell 7;simp only[rmC,zA,zB,zC]at k7;have bZ:=HM.out.lt;have I:w.heap.size+1≠w.heap.size:=jo;have aK:zWW y (y.alloc (.cells #[] 48)):=zRR _;have ab:(y.alloc (.cells #[] 48)).ownsRow y.heap.size 48 3 (.slice (some ⟨y.heap.size,0,none⟩) 0 0) 0 []:=by simpa using World.ownsRow_made (base:=y.heap.size) (e:=48) (size:=3) y #[] 0 jz jx rfl
 have V:=zh aK;have a3:=zh ab;clear aK ab;go_wp2_with (at_builtin;(refine D6 rfl _ _ 26 rfl y.heap.size 48 i0 _ 3 40 underlying26 aS aU a2 aL rfl jd _ 0 [] rfl a3.out z.A z.n z.c aj.flatten rfl ((G2.out.below V.out).more V.out.size) bC.out.2 az.out ?d1 ?d2 ?d3 ?_))
 case d1=>unfold maxLen;omega
 case d2=>omega
 case d3=>simp
 intro v2 w2 Y H;try rw[zi]at Y
 try rw[List.nil_append]at Y
 have C:zWW y w2:=V.out.grown H V.out.size (fun j P=>by injection P with P;subst P;exact zG _);obtain⟨t,s,rfl,_,aP,bL,_⟩:=Ev.fP Y;have bi:Hid (DOwnS w2 y.heap.size (fun b=>S b∨Se b) (.slice t z.n s) m.ds):=zh ⟨aj,by rw[G1.out,aw.out],by rw[aw.out];exact Y,fun i a b=>(G3.out i a b).same (fun b hb=>⟨.inl hb,C.block b (by have:=q.out.1 b hb;omega)⟩)⟩;have aO:=zh (HB.out.trans (C.mono jo));have af:=zb HM C;have aN:=zb HR C;have bB:=C.size;clear Y H C a3 V HM HR HB HA G1 G2 G3 az k7;have k7:=af.out.cell 7;simp only[rmC,zA,zB,zC]at k7;have br:=af.out.frozen 7
 have a4:Hid (Blk (w2.setCell ⟨w.heap.size,7,none⟩ (.slice t z.n s)) w.heap.size 29 (rmC m ⟨t,z.n,s,z.EA,z.en,z.ec⟩)):=zh (by
  have:=af.out.set_ 7 (.slice t z.n s)
  simpa[rmC]using this)
 have aB:=zh (aN.out.far (p:=⟨w.heap.size,7,none⟩) I (.slice t z.n s));have bb:=zh (aO.out.setCell (p:=⟨w.heap.size,7,none⟩) (zG _) (.slice t z.n s));have bz:Hid (∀(U:World) (u:Value) (i:Nat) (b:Nat),(S b∨Se b)→(S b∨Se b)∧(U.setCell ⟨w.heap.size,i,none⟩ u).heap[b]?=U.heap[b]?):=zh (fun U u i b hb=>⟨hb,vN _ _ _ _ (fun e=>by have e:b=w.heap.size:=e;rcases hb with hb|hb;(have:=q.out.1 b hb;omega);(have:=q.out.2 b hb;omega))⟩)
 have aq:Hid (∀(U:World) (u v:Value) (i:Nat) (D:List Dc),DOwnS U y.heap.size (fun b=>S b∨Se b) v D→DOwnS (U.setCell ⟨w.heap.size,i,none⟩ u) y.heap.size (fun b=>S b∨Se b) v D):=zh (fun U u v i D h=>h.same (fun b hv=>vN _ _ _ _ (fun e=>by
  have e:b=w.heap.size:=e;obtain⟨aj,g1,g2,g3⟩:=h.ex;have:=(g2.lt b hv).1
  omega)) (bz.out U u i))
 have bg:=zh (aq.out w2 (.slice t z.n s) _ 7 _ bi.out);have aY:y.heap.size≤(w2.setCell ⟨w.heap.size,7,none⟩ (.slice t z.n s)).heap.size:=by simp[World.setCell];omega
 go_upto_region 2 with(fail);generalize w2.setCell ⟨w.heap.size,7,none⟩ (.slice t z.n s)=w3 at *;have aA:Hid (z.n=m.ds.length+0):=zh jo;have a8:Hid (DOwnS w3 y.heap.size (fun b=>S b∨Se b) (.slice t z.n s) (m.ds++Ev.mkD ((m.ds.length:Nat)+1) (evs.take 0))):=zh (by simpa[Ev.mkD]using bg.out);have ao:z.n≤s:=aP;clear k7 br af aN aO bi bg aP bL bB;go_wp2_with fail;go_loopw [5] (fun iv wr=>∃(k:Nat) (t:Option Addr) (l s:Nat),iv=.int .i64 (k:Nat)∧k≤n∧Hid (l=m.ds.length+k)∧Hid (Blk wr w.heap.size 29 (rmC m ⟨t,l,s,z.EA,z.en,z.ec⟩))∧Hid (Blk wr (w.heap.size+1) 29 zmC)∧Hid (DOwnS wr y.heap.size (fun b=>S b∨Se b) (.slice t l s) (m.ds++Ev.mkD ((m.ds.length:Nat)+1) (evs.take k)))∧Hid (zWW w wr)∧y.heap.size≤wr.heap.size) (fun iv _=>n-(intOf iv).toNat)
 case atStart=>exact⟨0,t,z.n,s,rfl,zS _,aA,a4,aB,a8,bb,aY⟩
 clear a4 aB a8 bb aY aA ao;obtain⟨k,t,l,s,rfl,hk,T,L,ah,ad,W,bX⟩:=hrel;have bS:l≤m.ds.length+k:=by rw[T.out];exact zG _
 have bT:m.ds.length+k≤l:=by rw[T.out];exact zG _
 by_cases bx:k<n
 ·have bV:(k:Int)<(n:Int):=jo;have b1:(0:Int)≤(k:Int):=jo;have a1:k<evs.length:=by rw[ac.out];exact bx
  obtain⟨eb,eo,F,fn,fc,bI,ay,c0,c1,bj,ba,a5,bk,al⟩:=bM.out.at_ a1;have an:=q.out.2 eb ay;have av:Hid (∀d,zWW w d→DcS d (fun b=>S b∨Se b) ⟨((l:Nat):Int)+1,evs[k].1,evs[k].2⟩ [.int .i64 (((l:Nat):Int)+1),.int .i64 evs[k].1,.slice F fn fc]):=zh (fun d hb=>DcS.same (w:=w) (S:=Se) ⟨F,fn,fc,rfl,bj,ba,a5,bk,al⟩ (fun b hb'=>⟨.inr hb',hb.block b (q.out.2 b hb')⟩))
  have ag:Hid (m.ds++Ev.mkD ((m.ds.length:Nat)+1) (evs.take (k+1))=(m.ds++Ev.mkD ((m.ds.length:Nat)+1) (evs.take k)) ++ [⟨((l:Nat):Int)+1,evs[k].1,evs[k].2⟩]):=zh (by
   rw[Ev.BB _ _ _ a1,List.append_assoc,T.out];congr 4
   push_cast;omega)
  have ar:Hid (∀d,zWW w d→d.cell? ⟨eb,eo+k*2,none⟩=some (.int .i64 evs[k].1)∧d.cell? ⟨eb,eo+k*2+1,none⟩=some (.slice F fn fc)):=zh (fun d hb=>⟨(hb.cell (p:=⟨eb,eo+k*2,none⟩) an).trans c0,(hb.cell (p:=⟨eb,eo+k*2+1,none⟩) an).trans c1⟩);have aQ:IntKind.i64.wrap ((l:Int)+1)=(l:Int)+1:=by rw[IntKind.wrap_i64];omega
  have N:Hid (l=(m.ds++Ev.mkD ((m.ds.length:Nat)+1) (evs.take k)).length):=zh (by rw[zJ,Ev.ol,zK,T.out];omega);clear c0 c1 bj ba a5 bk al ay;generalize evs[k].1=et at *;generalize evs[k].2=ef at *;generalize m.ds++Ev.mkD ((m.ds.length:Nat)+1) (evs.take k)=D0 at *;subst bI;have bU:=L.out.lt;have bP:l≤60064:=jo;obtain⟨J,Z⟩:∃J,(l:Int)+1=J:=⟨_,rfl⟩;rw[Z]at av ag;replace aQ:IntKind.i64.wrap ((l:Int)+1)=J:=aQ.trans Z;clear Z
  go_upto_region 5 with(fail)
  refine kK 14 (fF [(11,⟨Nat,fun x=>.slice (some ⟨x,0,none⟩) 1 1,fun x d=>zWW wr d∧Blk d x 48 #[.int .i64 J,.int .i64 et,.slice F fn fc]⟩),(12,⟨Value,fun v'=>v',fun v' d=>DOwnS d y.heap.size (fun b=>S b∨Se b) v' (D0 ++ [⟨J,et,ef⟩])∧y.heap.size≤d.heap.size⟩)])
   (fun d=>Blk d w.heap.size 29 (rmC m ⟨t,l,s,z.EA,z.en,z.ec⟩)∧Blk d (w.heap.size+1) 29 zmC∧zWW w d) (fun d=>d=wr.drew) jk jk (kN jk) ⟨L.out,ah.out,W.out.drew⟩ rfl ?_
  iterate 11
   refine ik _ ?_ rfl jr jr (fun d f=>?_) ?_;rotate_left
   ·have f0:=f.1.cell 7;have f1:=ar.out d f.2.2;simp only[rmC,zA,zB,zC]at f0;go_simp;all_goals with_reducible rfl
   try simp only[Act.put,zD,zE,zF]
  refine kw 12 _ rfl jr jr (fun d f hI=>?_) (fun x=>?_)
  ·subst hI;refine kr (u:=?_) (w':=?_) ?_ ?_ ?_;rotate_left 2
   ·go_simp;all_goals first|with_reducible rfl|(refine⟨?_,?_⟩<;>with_reducible rfl)
   ·exact trivial
   exact⟨⟨f.1.alloc _,f.2.1.alloc _,f.2.2.alloc (by show w.heap.size≤wr.heap.size;omega) _⟩,wr.heap.size,rfl,((zy _ _).drew:zWW wr wr.drew).alloc (zG _) _,Blk.new _ _ _⟩
  rename Nat=>x5
  try simp only[Act.put,zD,zE,zF]
  refine kw 13 _ rfl jr jr (fun d f hI=>?_) (fun x=>?_)
  ·obtain⟨hb,hx⟩:=hI;have hO:=ad.out.below hb (fun b hb'=>by rcases hb' with hb'|hb';(have:=q.out.1 b hb';omega);(have:=q.out.2 b hb';omega));obtain⟨vs,e1,e2,e3⟩:=hO.ex;have b4:=hb.size;rw[←N.out]at e2;refine pM _ _ 26 rfl y.heap.size 48 i0 _ 3 40 underlying26 aS aU a2 aL rfl jd (.slice t l s) l vs.flatten rfl e2 (Bd:=d.heap.size) (some ⟨x5,0,none⟩) 1 1 [.int .i64 J,.int .i64 et,.slice F fn fc] rfl ⟨rfl,fun _=>⟨x5,0,rfl,hx.lt,fun j u P=>by rw[zi];exact(hx.cell j).trans (by simpa using P)⟩⟩ (fun e=>nomatch e) (fun u hu=>by simp at hu;rcases hu with rfl|rfl|rfl<;>rfl) jx jo jo ?_;intro v' w' Y H bY;have ax:∀j,(Value.slice t l s).ownBlock=some j→y.heap.size≤j:=fun j P=>(e2.lt j P).1
   refine⟨⟨f.1.grown H (fun e=>by have:=ax _ e.symm;omega),f.2.1.grown H (fun e=>by have:=ax _ e.symm;omega),f.2.2.grown H jo (fun j P=>by have:=ax j P;omega)⟩,v',rfl,DOwnS.put ⟨vs,e1,by rw[←N.out];exact e2,e3,rfl⟩ (by rw[←N.out];exact Y) H (av.out d f.2.2) (fun b hb'=>by rcases hb' with hb'|hb';(have:=q.out.1 b hb';omega);(have:=q.out.2 b hb';omega)) jo,by have:=H.size;omega⟩
  rename Value=>x6
  try simp only[Act.put,zD,zE,zF]
  refine ik 14 ?_ rfl jr jr (fun d f=>?_) ?_;rotate_left
  ·have f0:=f.1.cell 7;have f1:=ar.out d f.2.2;simp only[rmC,zA,zB,zC]at f0;go_simp;all_goals with_reducible rfl
  try simp only[Act.put,zD,zE,zF]
  refine kT (fun w7 f hI=>?_);obtain⟨ae,b7⟩:=hI;obtain⟨A7,c7,rfl,_,bt,b2⟩:=ae.read;have aC:(D0 ++ [(⟨J,et,ef⟩:Dc)]).length=l+1:=by rw[zJ,←N.out];rfl
  rw[aC]at ae bt ⊢;clear aC;have g0:=f.1.cell 7;have bl:=f.1.frozen 7;simp only[rmC,zA,zB,zC]at g0
  have bm:Hid (Blk (w7.setCell ⟨w.heap.size,7,none⟩ (.slice A7 (l+1) c7)) w.heap.size 29 (rmC m ⟨A7,l+1,c7,z.EA,z.en,z.ec⟩)):=zh (by
   have:=f.1.set_ 7 (.slice A7 (l+1) c7)
   simpa[rmC]using this)
  have bG:=zh (f.2.1.far (p:=⟨w.heap.size,7,none⟩) I (.slice A7 (l+1) c7));have bp:=zh (f.2.2.setCell (p:=⟨w.heap.size,7,none⟩) (zG _) (.slice A7 (l+1) c7));have bD:=zh (aq.out w7 (.slice A7 (l+1) c7) _ 7 _ ae);have bH:y.heap.size≤(w7.setCell ⟨w.heap.size,7,none⟩ (.slice A7 (l+1) c7)).heap.size:=by simp[World.setCell];omega
  clear f ae L ah ad W av ar
  go_upto_region 4 with(fail);generalize w7.setCell ⟨w.heap.size,7,none⟩ (.slice A7 (l+1) c7)=w8 at *;clear g0 bl;go_wp2;go_roundw
  case rel=>exact⟨k+1,A7,l+1,c7,ju,jo,zh jo,bm,bG,by rw[ag.out];exact bD,bp,bH⟩
  simp[intOf];omega
 obtain rfl:k=n:=jo;have b6:¬(k:Int)<(k:Int):=jo;have ag:Hid (evs.take k=evs):=zh (zR (by rw[ac.out];exact zG _));rw[ag.out]at ad
 go_upto_region 6 with(fail);obtain⟨es,bf⟩:=aR.out;have am:ReadsS wr S 1 z.EA z.en (es.map (Value.int .i64)):=bf.same (fun b hb=>⟨hb,W.out.block b (q.out.1 b hb)⟩);have bF:Hid (∀d,zWW wr d→Reads d d.heap.size 1 z.EA z.en (es.map (Value.int .i64))):=zh (fun d hb=>(((am.reads (B:=wr.heap.size) (fun b hb'=>by have:=q.out.1 b hb';omega)).below hb).more hb.size))
 have R:Hid (∀d,zWW wr d→d.cell? ⟨w.heap.size,7,none⟩=some (.slice t l s)∧d.cell? ⟨w.heap.size,11,none⟩=some (.slice z.EA z.en z.ec)):=zh (fun d hb=>by
  have r:=L.out.below hb L.out.lt;have r0:=r.cell 7;have r1:=r.cell 11;simp only[rmC,zA,zB,zC]at r0 r1
  exact⟨r0,r1⟩)
 have bO:=a0.1;have bK:=zh a0.2.2;clear bf am;refine Gx.si 10 (fF [(0,⟨Nat,fun g=>.slice (some ⟨g,0,none⟩) 0 0,fun g d=>d.ownsRow wr.heap.size 3 1 (.slice (some ⟨g,0,none⟩) 0 0) 0 []⟩),(3,⟨Value,fun v=>v,fun v d=>d.ownsRow wr.heap.size 3 1 v z.en (es.map (Value.int .i64))⟩),(7,⟨Nat,fun g=>.slice (some ⟨g,0,none⟩) 1 1,fun g d=>Blk d g 3 #[.int .i64 (l:Nat)]⟩),(8,⟨Value,fun v=>v,fun v d=>d.ownsRow wr.heap.size 3 1 v (z.en+1) (es.map (Value.int .i64) ++ [.int .i64 (l:Nat)])⟩)]) (fun i=>i==8) (fun d=>Below (World.heap wr).size wr d) (fun y w2=>zWW y w2) jk jk (Gx.uK jk) (fN (fun g U wb H h=>h.kept (fH H none) (by simp[Value.ownBlock])) (fN (fun g U wb H h=>h.kept (fH H none) (by cases hv:g.ownBlock<;>simp)) (fN (fun g U wb H h=>h.below H h.lt) (fN (fun g U wb H h=>h.kept (fH H none) (by cases hv:g.ownBlock<;>simp)) (fQ))))) ((zy _ _).drew) ?_;simp only[zX,List.take_zero,zo,List.drop_zero];refine Gx.mZ 1 _ rfl jr jr jr (fun d f hD=>?_) (fun x=>?_)
 ·refine kr (u:=?_) (w':=?_) ?_ ?_ ?_;rotate_left 2
  ·have ai:=R.out d f;go_simp;all_goals first|with_reducible rfl|(refine⟨?_,?_⟩<;>with_reducible rfl)
  ·exact(zRR _)
  exact⟨f.alloc f.size _,d.heap.size,rfl,World.ownsRow_made (base:=wr.heap.size) (e:=3) (size:=1) d #[] 0 f.size jx rfl⟩
 rename Nat=>x0
 try simp only[Act.put,zD,zE,zF]
 iterate 2
  refine Gx.nR _ ?_ rfl jr jr (fun d f hD=>?_) ?_;rotate_left
  ·have ai:=R.out d f;go_simp;all_goals with_reducible rfl
  try simp only[Act.put,zD,zE,zF]
 refine Gx.mZ 4 _ rfl jr jr jr (fun d f hD=>?_) (fun x=>?_)
 ·have O:=gZ (kM hD 0 jk) jd;have hr:=bF.out d f;refine xL _ _ 27 rfl wr.heap.size 3 j0 _ 1 8 underlying27 a7 aF bc aV rfl jd x0 rfl O z.EA z.en z.ec _ rfl hr bK.out (fun u hu=>by obtain⟨e,_,rfl⟩:=List.mem_map.1 hu;rfl) jx jo f.size (fun v' w' Y hb=>⟨f.trans (hb.mono f.size),v',rfl,Y⟩)
 rename Value=>x3
 try simp only[Act.put,zD,zE,zF]
 iterate 3
  refine Gx.nR _ ?_ rfl jr jr (fun d f hD=>?_) ?_;rotate_left
  ·have ai:=R.out d f;go_simp;all_goals with_reducible rfl
  try simp only[Act.put,zD,zE,zF]
 refine Gx.mZ 8 _ rfl jr jr jr (fun d f hD=>?_) (fun x=>?_)
 ·refine kr (u:=?_) (w':=?_) ?_ ?_ ?_;rotate_left 2
  ·have ai:=R.out d f;go_simp;all_goals first|with_reducible rfl|(refine⟨?_,?_⟩<;>with_reducible rfl)
  ·exact(zRR _)
  exact⟨f.alloc f.size _,d.heap.size,rfl,Blk.new _ _ _⟩
 rename Nat=>x7
 try simp only[Act.put,zD,zE,zF]
 refine Gx.wG 9 _ rfl jr jr jr (fun d f hI hD=>?_) (fun x=>?_)
 ·have O:=gZ (nk (kM hD 3 jk) jd) jd;have aH:=gZ (kM hD 7 jk) jd;refine pM _ _ 27 rfl wr.heap.size 3 j0 _ 1 8 underlying27 a7 aF bc aV rfl jd x3 z.en _ rfl O (Bd:=d.heap.size) (some ⟨x7,0,none⟩) 1 1 [.int .i64 (l:Nat)] rfl ⟨rfl,fun _=>⟨x7,0,rfl,aH.lt,fun j u P=>by rw[zi];exact(aH.cell j).trans (by simpa using P)⟩⟩ (fun e=>nomatch e) (fun u hu=>by simp at hu;subst hu;rfl) jx jo f.size (fun v' w' Y H _=>⟨f.grown H f.size (fun j P=>(O.lt j P).1),v',rfl,Y⟩)
 rename Value=>x8
 try simp only[Act.put,zD,zE,zF]
 refine Gx.nR 10 ?_ rfl jr jr (fun d f hD=>?_) ?_;rotate_left
 ·have ai:=R.out d f;go_simp;all_goals with_reducible rfl
 try simp only[Act.put,zD,zE,zF]
 refine Gx.ww (fun w6 f hF hI=>?_);have b0:Hid (zWW wr w6):=zh f;obtain⟨E,G,rfl,bu,bq,bn,_⟩:=Ev.fP hI;have bW:=f.size;have X:=zb L f;have aI:=zb ah f;have aW:=zh (W.out.trans (f.mono jo));have aD:=zh (ad.out.below f (fun b hb'=>by rcases hb' with hb'|hb';(have:=q.out.1 b hb';omega);(have:=q.out.2 b hb';omega)));have ap:=zh hI;have aX:=X.out.cell 11;have aT:=X.out.frozen 11;simp only[rmC,zA,zB,zC]at aX;clear hF f hI bu L ah W ad R
 have bs:Hid (Blk (w6.setCell ⟨w.heap.size,11,none⟩ (.slice E (z.en+1) G)) w.heap.size 29 (rmC m ⟨t,l,s,E,z.en+1,G⟩)):=zh (by
  have:=X.out.set_ 11 (.slice E (z.en+1) G)
  simpa[rmC]using this)
 have aM:=zh (aI.out.far (p:=⟨w.heap.size,11,none⟩) I (.slice E (z.en+1) G));have bv:=zh (aW.out.setCell (p:=⟨w.heap.size,11,none⟩) (zG _) (.slice E (z.en+1) G));have aG:=zh (aq.out w6 (.slice E (z.en+1) G) _ 11 _ aD.out)
 have a6:Hid ((w6.setCell ⟨w.heap.size,11,none⟩ (.slice E (z.en+1) G)).ownsRow wr.heap.size 3 1 (.slice E (z.en+1) G) (z.en+1) (es.map (Value.int .i64) ++ [.int .i64 (l:Nat)])):=zh (gz ap.out (fun b hv=>vN _ _ _ _ (fun e=>by
  have e:b=w.heap.size:=e;have:=(ap.out.lt b hv).1;have:=X.out.lt
  omega)))
 have b5:y.heap.size≤(w6.setCell ⟨w.heap.size,11,none⟩ (.slice E (z.en+1) G)).heap.size:=by simp[World.setCell];omega
 go_upto_region 7 with(fail);generalize w6.setCell ⟨w.heap.size,11,none⟩ (.slice E (z.en+1) G)=w9 at *;clear aX aT X aI aW aD ap;have aZ:=zh (zz _ (w.heap.size+1) _ (rmC m ⟨t,l,s,E,z.en+1,G⟩) _ _ aM.out);go_wp2_with (first|(refine wpList_load_row (o:=⟨some 41,.load 29 _,_,_,_,_⟩) rfl 29 _ rfl (w.heap.size) rfl 29 (rmC m ⟨t,l,s,E,z.en+1,G⟩) (0,0) _ bs.out underlying29 rfl jk ?_)|(refine zx (o:=⟨none,.store 29 _ _,_,_,_,_⟩) rfl 29 _ _ rfl (w.heap.size+1) (rmC m ⟨t,l,s,E,z.en+1,G⟩) rfl rfl 29 zmC aM.out jk rfl (by simp[rmC,zmC,Value.oneCell']) ?_));refine zw (fA rfl rfl (zv _ (w.heap.size+1) 29 29 (rmC m ⟨t,l,s,E,z.en+1,G⟩) (0,0) _ aZ.out underlying29 rfl jk)) rfl ?_;refine⟨⟨t,l,s,E,z.en+1,G⟩,rfl,?_,by rw[ac.out];exact T.out,vI bv.out (zZ _) _⟩;have au:∀b,b≠w.heap.size+1→(w9.setRow (w.heap.size+1) (rmC m ⟨t,l,s,E,z.en+1,G⟩)).heap[b]?=w9.heap[b]?:=fun b hb=>vL w9 _ b _ hb
 have aa:(w9.setRow (w.heap.size+1) (rmC m ⟨t,l,s,E,z.en+1,G⟩)).heap.size=w9.heap.size:=jz
 have bo:=aG.out.same (w':=w9.setRow (w.heap.size+1) (rmC m ⟨t,l,s,E,z.en+1,G⟩)) (S':=fun b=>S b∨Se b) (fun b hv=>au b (fun e=>by
  obtain⟨vs,g1,g2,g3⟩:=aG.out.ex;have:=(g2.lt b hv).1
  omega)) (fun b hb=>⟨hb,au b (fun e=>by rcases hb with hb|hb;(have:=q.out.1 b hb;omega);(have:=q.out.2 b hb;omega))⟩)
 obtain⟨A',c',e',bh,bd,bJ⟩:=bo.read;have aJ:(m.ds++Ev.mkD ((m.ds.length:Nat)+1) evs).length=l:=by rw[zJ,Ev.ol,ac.out,T.out]
 rw[aJ]at e' bh bd;injection e' with ea eb ec;subst ea ec
 have a9:=gz (w':=w9.setRow (w.heap.size+1) (rmC m ⟨t,l,s,E,z.en+1,G⟩)) a6.out (fun b hv=>au b (fun e=>by
  have:=(a6.out.lt b hv).1
  omega))
 have be:=ReadsS.of_own a9
 exact⟨bh.same (fun b hb=>⟨.inr (.inr ⟨jo,hb.2⟩),rfl⟩) (fun b hb=>⟨hb.elim .inl (fun h=>.inr (.inl h)),rfl⟩),bd,bJ,⟨es ++ [(l:Int)],by rw[List.map_append];exact be.mono (fun b hb=>.inr (.inr ⟨jo,hb.2.1⟩))⟩,⟨by show z.en+1≤K+65;omega,bq,bn⟩,bw.out,by show (m.ds++_).length≤K+65;rw[aJ];omega,fun b hb=>by
  rw[aa];rcases hb with hb|hb|hb
  ·have:=q.out.1 b hb;omega
  ·have:=q.out.2 b hb;omega
  rw[aa]at hb;exact hb.2⟩
end
end Md

namespace Md
open Go.RowKit Ut Tk Qy Qp Ev Cu
abbrev stC(r:Rq)(z:Rw)(fl:Bool):Array Value:=#[.int .i64 r.op,.slice z.E z.en z.ec,.bool r.dur,.int .i64 r.now,.string r.q,.int .i64 r.frm,.int .i64 r.til,.int .i64 r.lim,.int .i64 r.width,.int .i64 r.after,.slice z.C z.cn z.cc,.bool fl]
abbrev zrC:Array Value:=#[.int .i64 0,nil,.bool false,.int .i64 0,.string ⟨#[]⟩,.int .i64 0,.int .i64 0,.int .i64 0,.int .i64 0,.int .i64 0,nil]
def ofR(r:Rq)(fl:Bool)(L:List UInt8):Rq:=if fl then { lg r with op:=10,cur:=L }else lg r
def OfP(r:Rq)(z0:Rw)(fl:Bool)(LA:Option Addr)(ln:Nat)(L:List UInt8)(w:World)(e:Ending)(w':World):Prop:=∃z,e=.returned (.agg (rqC (ofR r fl L) z))∧RqAt w' (ofR r fl L) z∧zWW w w'∧EvsS w' (fun b=>w.heap.size≤b∧b<w'.heap.size) z.E z.en z.ec (ofR r fl L).evs ∧
 ∀(wx:World) (B:Nat),Reads wx B 1 z0.C z0.cn (bv r.cur)→Reads wx B 1 LA ln (bv L)→Reads wx B 1 z.C z.cn (bv (ofR r fl L).cur)
theorem uk{w w':World}{S S':Nat→Prop}{A:Option Addr}{n c:Nat}{l:List Evn}(h:EvsS w S A n c l)(hS:∀b,S b→S' b∧w'.heap[b]?=w.heap[b]?):EvsS w' S' A n c l:=h.same hS
theorem wI{w:World}{S:Nat→Prop}{A:Option Addr}{n c:Nat}{l:List Evn}(h:EvsS w S A n c l)(hS:∀b,S b→b<w.heap.size)(hl:n≤4398046511104)(hs:∀e∈l,∀f∈e.2,f.1.size≤140737488351232∧f.2.size≤140737488351232):EvsAt w w.heap.size A n c l:=by
 obtain⟨d,o,j,g⟩:=h.ex
 exact⟨h.ln,hl,h.cap,d,o,j.reads hS,fun i a b=>by
  obtain⟨F,t,q,e,p,k,m,s,r⟩:=(g i a b).ex
  exact⟨F,t,q,e,⟨p.reads hS,k,m,s,hs _ (za a),r⟩⟩⟩
theorem ul{w:World}{B n c:Nat}{A:Option Addr}{l:List Evn}(h:EvsAt w B A n c l):∀e∈l,∀f∈e.2,f.1.size≤140737488351232∧f.2.size≤140737488351232:=fun e d=>by
 obtain⟨i,b,rfl⟩:=zu.1 d;obtain⟨j,m,k,a⟩:=h.ex;obtain⟨F,p,o,_,g⟩:=a i b (by have:=h.ln;omega);exact g.sz
theorem IW{w:World}{T:TypeId}{g n:Nat}{A:Option Addr}{L:List UInt8}{cs:Array Value}(h:Reads w w.heap.size 1 A n (bv L))(hg:Blk w g T cs)(hn:∀(o:Nat) (x:Int),cs[o]?=some (Value.int .u8 x)→False)(cs':Array Value):Reads (w.setRow g cs') (w.setRow g cs').heap.size 1 A n (bv L):=by
 refine⟨h.1,fun f=>?_⟩;obtain⟨b,o,e,i,c⟩:=h.2 f
 have a:b≠g:=by
  have k:0<L.length:=by have:=h.1;rw[ij]at this;omega
  have d:=c 0 (.int .u8 (L[0].toNat:Nat)) (by unfold bv;rw[List.getElem?_map,zU k];rfl);rintro rfl;rw[Nat.add_zero,hg.cell o]at d;exact hn o _ d
 exact⟨b,o,e,zT i jz,fun j u l=>(vP (vL w g b cs' a)).trans (c j u l)⟩
theorem NP:∀(o:Nat) (x:Int),(zrC:Array Value)[o]?=some (Value.int .u8 x)→False:=fun o x h=>by
 rcases zj o 11 with ho|ho
 ·rcases(by omega:o=0∨o=1∨o=2∨o=3∨o=4∨o=5∨o=6∨o=7∨o=8∨o=9∨o=10)with rfl|rfl|rfl|rfl|rfl|rfl|rfl|rfl|rfl|rfl|rfl<;>cases h
 rw[zp (by simpa[zrC]using ho)]at h
 cases h
theorem o7(r:Rq)(z:Rw)(fl:Bool)(LA:Option Addr)(ln lc:Nat)(Lc:List UInt8)(w:World)(hr:RqAt w r z)(hL:Reads w w.heap.size 1 LA ln (bv Lc))(hn:ln≤140737488351232∧ln≤lc∧(LA=none→lc=0)) :
  Calls prog 18 #[.agg (stC r z fl),.slice LA ln lc] w (OfP r z fl LA ln Lc w):=by
 have j:=((zy w.heap.size w).alloc (zG _) (.cells (stC r z fl) 64)).alloc jz (.cells zrC 37);have hx:=(Blk.new w 64 (stC r z fl)).alloc (.cells zrC 37);have hy:=Blk.new (w.alloc (.cells (stC r z fl) 64)) 37 zrC;have z1:(w.alloc (.cells (stC r z fl) 64)).heap.size=w.heap.size+1:=jz;rw[z1]at hy;have m:=zh hx;have HR:=zh hy;have HB:=zh j;have aj:w.heap.size+2≤(World.heap ((w.alloc (.cells (stC r z fl) 64)).alloc (.cells zrC 37))).size:=jz;have CF:=zh (Li r z _ (hr.below j));have HL:=zh hL;have af:=zh hn;clear hr hL j hx hy z1 hn;go_enter func18,ntmps18
 go_upto_region 1 with(fail);generalize ((w.alloc (.cells (stC r z fl) 64)).alloc (.cells zrC 37))=w1 at *;have x0:=m.out.cell 0;have x1:=m.out.cell 1;have x2:=m.out.cell 2;have x3:=m.out.cell 3;have x4:=m.out.cell 4;have x5:=m.out.cell 5;have x6:=m.out.cell 6;have x7:=m.out.cell 7;have x8:=m.out.cell 8;have x9:=m.out.cell 9;have T:=m.out.cell 10;have A:=m.out.cell 11;simp only[stC,zA,zB,zC]at x0 x1 x2 x3 x4 x5 x6 x7 x8 x9 T A;go_wp2_with fail;refine CF.out.mono ?_;rintro e d ⟨c,rfl,ac,N,u,D⟩;have F:=zh D;have ag:=N.size;have x:zWW d (d.alloc (.cells (rqC (lg r) c) 37)):=zRR _;have n:=N.trans (x.mono ag);have U:=zb m n;have v:=zb HR n;have J:=zt HB n;have g:=zh (Blk.new d 37 (rqC (lg r) c));have a:=zh (ac.below x);have L:=zh (u.same (fun b j=>⟨j,x.block b j.2⟩));have ae:=x.size;clear N ac u D x n m HR HB CF x0 x1 x2 x3 x4 x5 x6 x7 x8 x9 T A;obtain⟨f,M⟩:∃f,lg r=f:=⟨_,rfl⟩;have q:Hid (ofR r fl Lc=if fl then { f with op:=10,cur:=Lc }else f):=zh (by unfold ofR;rw[M]);rw[M]at g a L v J U ae F ⊢;clear M
 go_upto_region 2 with(fail);generalize d.alloc (.cells (rqC f c) 37)=s at *;have A:=U.out.cell 11;simp only[stC,zA,zB,zC]at A;have V:w.heap.size+1≠d.heap.size:=jo
 cases fl with
 | false=>
  rw[zH jd]at q;have H:=zh (zz s (w.heap.size+1) zrC (rqC f c) _ _ v.out);go_wp2_with (first|(refine wpList_load_row (o:=⟨some 14,.load 37 _,_,_,_,_⟩) rfl 37 _ rfl (d.heap.size) rfl 37 (rqC f c) (0,0) _ g.out underlying37 rfl jk ?_)|(refine zx (o:=⟨none,.store 37 _ _,_,_,_,_⟩) rfl 37 _ _ rfl (w.heap.size+1) (rqC f c) rfl rfl 37 (zrC) v.out jk rfl (by simp[rqC,zrC,Value.oneCell']) ?_));refine zw (fA rfl rfl (zv _ (w.heap.size+1) 37 37 (rqC f c) (0,0) _ H.out underlying37 rfl jk)) rfl ?_;refine⟨c,by rw[q.out],?_⟩;rw[q.out];have hz:(s.setRow (w.heap.size+1) (rqC f c)).heap.size=s.heap.size:=jz;have Z:=uk (w':=s.setRow (w.heap.size+1) (rqC f c)) (S':=fun b=>w.heap.size≤b∧b<(s.setRow (w.heap.size+1) (rqC f c)).heap.size) L.out (fun b j=>⟨⟨jo,by rw[hz];have:=j.2;omega⟩,vL s _ b _ jo⟩);refine⟨⟨wI Z (fun b j=>j.2) a.out.ev.few (ul a.out.ev),IW a.out.cur v.out NP _,a.out.cn,a.out.ti,a.out.nw,a.out.wd⟩,vI J.out jo _,Z,fun O B h _=>F.out O B h⟩
 | true=>
  rw[zI rfl]at q;have q0:=g.out.cell 0;have P:=g.out.cell 10;simp only[rqC,zA,zB,zC]at q0 P;have ah:=g.out.frozen 0;have R:=g.out.frozen 10
  have ab:Hid (Blk ((s.setCell ⟨d.heap.size,0,none⟩ (.int .i64 10)).setCell ⟨d.heap.size,10,none⟩ (.slice LA ln lc)) d.heap.size 37 (rqC { f with op:=10,cur:=Lc } ⟨c.E,c.en,c.ec,LA,ln,lc⟩)):=zh (by
   have:=(g.out.set_ 0 (.int .i64 10)).set_ 10 (.slice LA ln lc)
   simpa[rqC]using this)
  have Y:=zh ((v.out.far (p:=⟨d.heap.size,0,none⟩) V (.int .i64 10)).far (p:=⟨d.heap.size,10,none⟩) V (.slice LA ln lc));have W:=zh ((J.out.setCell (p:=⟨d.heap.size,0,none⟩) (show w.heap.size≤d.heap.size by omega) (.int .i64 10)).setCell (p:=⟨d.heap.size,10,none⟩) (show w.heap.size≤d.heap.size by omega) (.slice LA ln lc));have aa:((s.setCell ⟨d.heap.size,0,none⟩ (.int .i64 10)).setCell ⟨d.heap.size,10,none⟩ (.slice LA ln lc)).heap.size=s.heap.size:=by simp[World.setCell]
  have ad:=zh (uk (w':=(s.setCell ⟨d.heap.size,0,none⟩ (.int .i64 10)).setCell ⟨d.heap.size,10,none⟩ (.slice LA ln lc)) (S':=fun b=>w1.heap.size≤b∧b<d.heap.size) L.out (fun b j=>⟨j,(vN _ _ _ _ (fun e=>by have e:b=d.heap.size:=e;omega)).trans (vN _ _ _ _ (fun e=>by have e:b=d.heap.size:=e;omega))⟩))
  go_upto_region 5 with(fail);have ai:s.heap.size≤((s.setCell ⟨d.heap.size,0,none⟩ (.int .i64 10)).setCell ⟨d.heap.size,10,none⟩ (.slice LA ln lc)).heap.size:=by rw[aa];exact zG _
  clear aa;generalize ((s.setCell ⟨d.heap.size,0,none⟩ (.int .i64 10)).setCell ⟨d.heap.size,10,none⟩ (.slice LA ln lc))=y at *;clear q0 P ah R;obtain⟨k,I⟩:∃k:Rq,({ f with op:=10,cur:=Lc }:Rq)=k:=⟨_,rfl⟩;obtain⟨i,t⟩:∃i:Rw,(⟨c.E,c.en,c.ec,LA,ln,lc⟩:Rw)=i:=⟨_,rfl⟩;rw[I,t]at ab;have l:=zh I;have G:=zh t;clear I t;have H:=zh (zz y (w.heap.size+1) zrC (rqC k i) _ _ Y.out);go_wp2_with (first|(refine wpList_load_row (o:=⟨some 14,.load 37 _,_,_,_,_⟩) rfl 37 _ rfl (d.heap.size) rfl 37 (rqC k i) (0,0) _ ab.out underlying37 rfl jk ?_)|(refine zx (o:=⟨none,.store 37 _ _,_,_,_,_⟩) rfl 37 _ _ rfl (w.heap.size+1) (rqC k i) rfl rfl 37 (zrC) Y.out jk rfl (by simp[rqC,zrC,Value.oneCell']) ?_));refine zw (fA rfl rfl (zv _ (w.heap.size+1) 37 37 (rqC k i) (0,0) _ H.out underlying37 rfl jk)) rfl ?_;refine⟨i,by rw[q.out,l.out],?_⟩;rw[q.out,l.out];have hz:(y.setRow (w.heap.size+1) (rqC k i)).heap.size=y.heap.size:=jz;have Z:=uk (w':=y.setRow (w.heap.size+1) (rqC k i)) (S':=fun b=>w.heap.size≤b∧b<(y.setRow (w.heap.size+1) (rqC k i)).heap.size) ad.out (fun b j=>⟨⟨jo,by rw[hz];omega⟩,vL y _ b _ jo⟩);have X:Reads (y.setRow (w.heap.size+1) (rqC k i)) w.heap.size 1 LA ln (bv Lc):=HL.out.below ((vI W.out jo (rqC k i)));have hq:RqAt (y.setRow (w.heap.size+1) (rqC k i)) { f with op:=10,cur:=Lc } ⟨c.E,c.en,c.ec,LA,ln,lc⟩:=⟨wI Z (fun b j=>j.2) a.out.ev.few (ul a.out.ev),X.more (by rw[hz];omega),af.out,a.out.ti,a.out.nw,a.out.wd⟩;have u:EvsS (y.setRow (w.heap.size+1) (rqC k i)) (fun b=>w.heap.size≤b∧b<(y.setRow (w.heap.size+1) (rqC k i)).heap.size) (⟨c.E,c.en,c.ec,LA,ln,lc⟩:Rw).E (⟨c.E,c.en,c.ec,LA,ln,lc⟩:Rw).en (⟨c.E,c.en,c.ec,LA,ln,lc⟩:Rw).ec ({ f with op:=10,cur:=Lc }:Rq).evs:=Z;rw[l.out,G.out]at hq u;have S:∀(O:World) (B:Nat),Reads O B 1 z.C z.cn (bv r.cur)→Reads O B 1 LA ln (bv Lc)→Reads O B 1 (⟨c.E,c.en,c.ec,LA,ln,lc⟩:Rw).C (⟨c.E,c.en,c.ec,LA,ln,lc⟩:Rw).cn (bv ({ f with op:=10,cur:=Lc }:Rq).cur):=fun O B _ h=>h
  rw[l.out,G.out]at S;exact⟨hq,vI W.out jo _,u,S⟩
end Md

namespace Mx
open Go.RowKit Go.ChangeShapes Go.WideShapes Go.ChangeAt Go.Deep Go.Joins Ut Tk Qy Ev Qp
section
variable {H:Type} {enc:TypeId × Value→H} {W:World} {base:Nat}
theorem E5:prog.cellsOf 85=2:=by kernel_rfl
theorem E8:prog.bytesOf 85=32:=by kernel_rfl
theorem tH:prog.cellsOf 46=2:=by kernel_rfl
theorem E9:prog.bytesOf 46=32:=by kernel_rfl
theorem xV:prog.cellsOf 9=1:=by kernel_rfl
theorem pq:prog.cellsOf 3=1:=by kernel_rfl
theorem EU:prog.cellsOf 44=1:=by kernel_rfl
theorem EW:prog.cellsOf 35=1:=by kernel_rfl
theorem Cg{α:Type}{l:List α}(h:l.length=2):∃a b,l=[a,b]:=by
 match l,h with
 | [a,b],_=>exact⟨a,b,rfl⟩
theorem KI{t e:TypeId}{fuel:Nat}{P:Program}{A:Option Addr}{len cap:Nat}{x:DataW H × List MemPlace}(ht:P.underlying t=some (.slice e))(h:DataW.trod enc P W 0 (fun _=>true) true fuel t [.slice A len cap]=some x):A=none→cap=0:=by
 rcases open_slice ht h with⟨b,_⟩|⟨a,len,cap,m,n,D,c,b,_⟩
 ·simp only[zQ,and_true,Value.slice.injEq]at b;exact fun _=>b.2.2
 simp only[zQ,and_true,Value.slice.injEq]at b;intro h;rw[h]at b
 cases b.1
theorem IZ{fuel:Nat}{v:Value}{x:DataW H × List MemPlace}(h:DataW.trod enc prog W 0 (fun _=>true) true fuel 44 [v]=some x)(hw:∀n∈x.1.weights prog 44,n≤140737488351232) :
  ∃(F:Option Addr) (n c:Nat) (fs:List (ByteArray × ByteArray)),v=.slice F n c∧FlAt W W.heap.size F n c fs:=by
 obtain⟨A,a,D,g,t,E,rfl,U,hv,k,O,hd,C,q⟩:=qG underlying44 E5 jo h;have r:=KI underlying44 h
 have o:∀i:Nat,∃f:ByteArray × ByteArray,∀(P:i<g.length) (k:i<t.length),g[i]=[.string f.1,.string f.2]∧t[i]=.agg [.lit (.string f.1.data.toList),.lit (.string f.2.data.toList)]:=fun i=>by
  by_cases d:i<g.length∧i<t.length
  ·obtain⟨n,y,w,Z⟩:=q i d.1 d.2;obtain⟨y0,y1,n',rfl,b,G,J⟩:=trod_struct2 underlying85 w;have z:=k _ (za d.1);obtain⟨u0,u1,N⟩:=Cg z;rw[N]at G J;simp only[xV,List.drop_zero,zo,zX,List.take_zero]at G J;obtain⟨V,L,rfl,_⟩:=DataW.trod_string underlying9 G;obtain⟨X,e1,rfl,_⟩:=DataW.trod_string underlying9 J;simp only[zQ,and_true]at L e1;subst L e1;exact⟨(V,X),fun _ _=>⟨N,Z.symm⟩⟩
  exact⟨(ByteArray.empty,ByteArray.empty),fun P k=>absurd ⟨P,k⟩ d⟩
 obtain⟨f,R⟩:=Classical.skolem.1 o;have b:((List.range a).map f).length=a:=jz
 have e:g.flatten=fJ ((List.range a).map f):=by
  apply List.ext_getElem?;intro j;by_cases hj:j<a*2
  ·have d:j/2<g.length:=jo;have I:=uM ((List.range a).map f) (j/2) (by rw[b];omega);have m:=(R (j/2) d jo).1;have u:((List.range a).map f)[j/2]'(by rw[b];omega)=f (j/2):=jz;rw[u]at I;rcases Nat.mod_two_eq_zero_or_one j with L|e1
   ·have l:=iM k (j/2) 0 d jo;have e:j=j/2*2:=jo;rw[m,Nat.add_zero]at l;rw[e,l,I.1];rfl
   have l:=iM k (j/2) 1 d jo;have e:j=j/2*2+1:=jo;rw[m]at l;rw[e,l,I.2];rfl
  rw[List.getElem?_eq_none (by rw[uo k];omega),List.getElem?_eq_none (by rw[qm,b];omega)]
 rw[e]at O
 have p:a≤8796093021952∧∀i,i<a→(f i).1.size≤140737488351232∧(f i).2.size≤140737488351232:=by
  rcases C with C|⟨l,_⟩
  ·rw[C]at hw;have S:=pR underlying44 hw;rw[E8]at S;refine⟨jo,fun i d=>?_⟩;have T:t[i]'jo∈t:=za _;have B:=qW underlying44 hw T;rw[(R i jo jo).2]at B;have M:=lj (j:=0) underlying85 B rfl rfl (f i).1.data.toList.length (by simp[DataW.weights]);have w:=lj (j:=1) underlying85 B rfl rfl (f i).2.data.toList.length (by simp[DataW.weights]);rw[fB]at M w;exact⟨M,w⟩
  exact⟨jo,fun i d=>jo⟩
 exact⟨A,a,D,_,rfl,O,b,p.1,U,fun s Y=>by
  obtain⟨i,d,rfl⟩:=List.mem_map.1 Y
  exact p.2 i (by simpa using d),r⟩
end
end Mx

namespace Md
open Go.RowKit Go.ChangeShapes Go.WideShapes Go.ChangeAt Go.Deep Go.Joins Ut Tk Qy Ev Qp Cu Mx
section
variable {H:Type} {enc:TypeId × Value→H} {W:World} {base:Nat}
theorem Aj:prog.cellsOf 37=11:=by kernel_rfl
theorem yp:prog.cellsOf 64=12:=by kernel_rfl
theorem F7:prog.bytesOf 64=136:=by kernel_rfl
theorem KJ:prog.cellsOf 34=1:=by kernel_rfl
theorem KL:prog.cellsOf 5=1:=by kernel_rfl
theorem KM:prog.bytesOf 5=1:=by kernel_rfl
theorem yt:prog.cellsOf 4=1:=by kernel_rfl
theorem yD:prog.cellsOf 30=1:=by kernel_rfl
theorem wY{m:Int}(hm:(Lit.int .i64 m).wf=true):I64 m:=by
 have h:IntKind.i64.min≤m∧m≤IntKind.i64.max:=by simpa[Lit.wf]using hm
 exact h
theorem Nu{z:Int}(h:(Lit.int .u8 z).wf=true):0≤z∧z≤255:=by
 have:IntKind.u8.min≤z∧z≤IntKind.u8.max:=by simpa[Lit.wf]using h
 exact this
theorem Nv{zs:List Int}(h:∀z∈zs,(Lit.int .u8 z).wf=true):∃L:List UInt8,zs.map (Value.int .u8)=bv L:=by
 refine⟨zs.map (fun z=>UInt8.ofNat z.toNat),?_⟩;unfold bv;rw[List.map_map];refine List.map_congr_left fun z a=>?_
 have:=Nu (h z a);show Value.int .u8 z=Value.int .u8 ((UInt8.ofNat z.toNat).toNat:Int);rw[UInt8.toNat_ofNat'];congr 1;omega
theorem Ba{fuel:Nat}{v:Value}{x:DataW H × List MemPlace}(h:DataW.trod enc prog W 0 (fun _=>true) true fuel 30 [v]=some x)(hw:∀n∈x.1.weights prog 30,n≤140737488351232) :
  ∃(A:Option Addr) (n c:Nat) (L:List UInt8),v=.slice A n c∧Reads W W.heap.size 1 A n (bv L)∧n≤140737488351232∧n≤c∧(A=none→c=0):=by
 rcases open_ints underlying30 underlying5 KL h with⟨d,_⟩|⟨a,b,f,zs,d,_,r,s,g,m,e,j⟩
 ·simp only[zQ,and_true]at d;subst d;exact⟨none,0,0,[],rfl,Reads.none_,jo,zG _,fun _=>rfl⟩
 simp only[zQ,and_true]at d;subst d;have l:zs.length=f:=by simpa using g
 have p:x.1=.slice (lits .u8 (zs.take b)) (lits .u8 (zs.drop b)):=by rw[m]
 rw[p]at hw
 have o:=hw ((zs.take b).length*1+(zs.drop b).length*1) (by
  simp only[DataW.weights,underlying30,lits,List.length_map,KM,←Nat.add_mul]
  exact List.mem_cons_self)
 have k:b≤140737488351232:=by
  rw[zK,Nat.min_eq_left jo]at o;omega
 obtain⟨L,q⟩:=Nv (zs:=zs.take b) (fun z g=>j z (List.mem_of_mem_take g));refine⟨some a,b,f,L,rfl,?_,k,r,fun h=>nomatch h⟩;rw[←q,←D7 zs 0 b jo,List.map_map];by_cases u:0<b
 ·exact Reads.of_in rfl (World.block_lt_of_cell? W _ (by simpa[Addr.add]using e 0 jo)) (fun i t=>e i jo)
 obtain rfl:b=0:=jo;exact Reads.none_
theorem yu{fuel:Nat}{cs:List Value}{x:DataW H × List MemPlace}(h:DataW.trod enc prog W 0 (fun _=>true) true fuel 46 cs=some x)(hw:∀n∈x.1.weights prog 46,n≤140737488351232) :
  ∃e:Evn,EvV W W.heap.size e cs∧I64 e.1:=by
 obtain⟨p,o,m,rfl,a,b,d⟩:=trod_struct2 underlying46 h;rw[tH]at a
 match cs,a with
 | [u0,u1],_=>
  simp only[pq,EU,List.drop_zero,zo,zX,List.take_zero]at b d;obtain⟨k,f,rfl,i⟩:=DataW.trod_int underlying3 b;simp only[zQ,and_true]at f;subst f;obtain⟨F,n,c,l,rfl,g⟩:=IZ d (lj (j:=1) underlying46 hw rfl rfl);exact⟨(k,l),⟨F,n,c,rfl,g⟩,wY i⟩
theorem FA{fuel:Nat}{v:Value}{x:DataW H × List MemPlace}(h:DataW.trod enc prog W 0 (fun _=>true) true fuel 35 [v]=some x)(hw:∀n∈x.1.weights prog 35,n≤140737488351232) :
  ∃(A:Option Addr) (n c:Nat) (l:List Evn),v=.slice A n c∧EvsAt W W.heap.size A n c l∧∀e∈l,I64 e.1:=by
 obtain⟨A,b,o,a,s,r,rfl,B,m,L,C,M,d,j⟩:=qG underlying35 tH jo h
 have g:∀i:Nat,∃e:Evn,∀(G:i<a.length),EvV W W.heap.size e a[i]∧I64 e.1:=fun i=>by
  by_cases k:i<a.length
  ·obtain⟨J,y,u,F⟩:=j i k jo;have z:s[i]'jo∈s:=za _;rcases d with d|⟨w,_⟩
   ·rw[d]at hw;obtain⟨q,I⟩:=yu u (by rw[F];exact qW underlying35 hw z);exact⟨q,fun _=>I⟩
   omega
  exact⟨(0,[]),fun h=>absurd h k⟩
 obtain⟨f,t⟩:=Classical.skolem.1 g
 have p:b≤4398046511104:=by
  rcases d with d|⟨w,_⟩
  ·rw[d]at hw;have:=pR underlying35 hw;rw[E9]at this;omega
  omega
 refine⟨A,b,o,(List.range b).map f,rfl,⟨jz,p,B,a,m,C,fun i G E=>?_⟩,fun e D=>?_⟩
 ·have:=(t i E).1
  simpa using this
 obtain⟨i,k,rfl⟩:=List.mem_map.1 D;exact(t i (by have:=List.mem_range.1 k;omega)).2
theorem EG{P:Program}{t:TypeId}{f0 f1 f2 f3 f4 f5 f6 f7 f8 f9 f10:Field}{fuel:Nat}{cs:List Value}{x:DataW H × List MemPlace}(ht:P.underlying t=some (.struct #[f0,f1,f2,f3,f4,f5,f6,f7,f8,f9,f10]))(h:DataW.trod enc P W 0 (fun _=>true) true fuel t cs=some x) :
  ∃y0 y1 y2 y3 y4 y5 y6 y7 y8 y9 y10 n,x.1=.agg [y0.1,y1.1,y2.1,y3.1,y4.1,y5.1,y6.1,y7.1,y8.1,y9.1,y10.1]∧cs.length=P.cellsOf t∧DataW.trod enc P W 0 (fun _=>true) true n f0.type ((cs.drop f0.offset).take (P.cellsOf f0.type))=some y0∧DataW.trod enc P W 0 (fun _=>true) true n f1.type ((cs.drop f1.offset).take (P.cellsOf f1.type))=some y1∧DataW.trod enc P W 0 (fun _=>true) true n f2.type ((cs.drop f2.offset).take (P.cellsOf f2.type))=some y2∧DataW.trod enc P W 0 (fun _=>true) true n f3.type ((cs.drop f3.offset).take (P.cellsOf f3.type))=some y3∧DataW.trod enc P W 0 (fun _=>true) true n f4.type ((cs.drop f4.offset).take (P.cellsOf f4.type))=some y4∧DataW.trod enc P W 0 (fun _=>true) true n f5.type ((cs.drop f5.offset).take (P.cellsOf f5.type))=some y5∧DataW.trod enc P W 0 (fun _=>true) true n f6.type ((cs.drop f6.offset).take (P.cellsOf f6.type))=some y6∧DataW.trod enc P W 0 (fun _=>true) true n f7.type ((cs.drop f7.offset).take (P.cellsOf f7.type))=some y7∧DataW.trod enc P W 0 (fun _=>true) true n f8.type ((cs.drop f8.offset).take (P.cellsOf f8.type))=some y8∧DataW.trod enc P W 0 (fun _=>true) true n f9.type ((cs.drop f9.offset).take (P.cellsOf f9.type))=some y9∧DataW.trod enc P W 0 (fun _=>true) true n f10.type ((cs.drop f10.offset).take (P.cellsOf f10.type))=some y10:=by
 obtain⟨c,n,_,rfl,d,b,a⟩:=DataW.trod_struct ht h
 match c,b with
 | [y0,y1,y2,y3,y4,y5,y6,y7,y8,y9,y10],_=>exact⟨y0,y1,y2,y3,y4,y5,y6,y7,y8,y9,y10,n,jz,d,by simpa using a 0 f0 rfl,by simpa using a 1 f1 rfl,by simpa using a 2 f2 rfl,by simpa using a 3 f3 rfl,by simpa using a 4 f4 rfl,by simpa using a 5 f5 rfl,by simpa using a 6 f6 rfl,by simpa using a 7 f7 rfl,by simpa using a 8 f8 rfl,by simpa using a 9 f9 rfl,by simpa using a 10 f10 rfl⟩
theorem NV{fuel:Nat}{cs:List Value}{x:DataW H × List MemPlace}(h:DataW.trod enc prog W 0 (fun _=>true) true fuel 37 cs=some x)(hw:∀n∈x.1.weights prog 37,n≤140737488351232) :
  ∃r z,cs=(rqC r z).toList∧RqAt W r z:=by
 obtain⟨y0,y1,y2,y3,y4,y5,y6,y7,y8,y9,P,n,M,b,t,w,k,o,d,g,v,A,p,m,a⟩:=EG underlying37 h;rw[Aj]at b;rw[M]at hw
 match cs,b with
 | [u0,u1,u2,u3,u4,u5,u6,u7,u8,u9,u10],_=>
  simp only[KJ,pq,yt,xV,EW,yD,List.drop_zero,zo,zX,List.take_zero,zB,zC]at t w k o d g v A p m a;obtain⟨R,y,_,w0⟩:=DataW.trod_int underlying34 t;obtain⟨F,f,_⟩:=DataW.trod_bool underlying4 k;obtain⟨N,q,_,T⟩:=DataW.trod_int underlying3 o;obtain⟨I,B,_,_⟩:=DataW.trod_string underlying9 d;obtain⟨G,u,_,w5⟩:=DataW.trod_int underlying3 g;obtain⟨k6,c,_,w6⟩:=DataW.trod_int underlying3 v;obtain⟨k7,s,_,w7⟩:=DataW.trod_int underlying3 A;obtain⟨D,e,_,Y⟩:=DataW.trod_int underlying3 p;obtain⟨V,i,_,w9⟩:=DataW.trod_int underlying3 m;simp only[zQ,and_true]at y f q B u c s e i;subst y f q B u c s e i;obtain⟨E,en,J,l,rfl,Z,b⟩:=FA w (lj (j:=1) underlying37 hw rfl rfl);obtain⟨C,O,S,L,rfl,X,U⟩:=Ba a (lj (j:=10) underlying37 hw rfl rfl);exact⟨⟨R,l,F,N,I,G,k6,k7,D,V,L⟩,⟨E,en,J,C,O,S⟩,rfl,Z,X,U,b,wY T,(wY Y).2⟩
theorem CV{fuel:Nat}{cs:List Value}{x:DataW H × List MemPlace}(h:DataW.trod enc prog W 0 (fun _=>true) true fuel 64 cs=some x)(hw:∀n∈x.1.weights prog 64,n≤140737488351232) :
  ∃r z t,cs=(rqC r z).toList ++ [.bool t]∧RqAt W r z:=by
 obtain⟨l,i,g,rfl,d,b,c⟩:=trod_struct2 underlying64 h;rw[yp]at d
 match cs,d with
 | [u0,u1,u2,u3,u4,u5,u6,u7,u8,u9,u10,u11],_=>
  simp only[Aj,yt,List.drop_zero,zo,zX,List.take_zero]at b c;obtain⟨k,a,_⟩:=DataW.trod_bool underlying4 c;simp only[zQ,and_true]at a;subst a;obtain⟨r,z,e,f⟩:=NV b (lj (j:=0) underlying64 hw rfl rfl);refine⟨r,z,k,?_,f⟩;rw[←e];rfl
theorem Bb{v:Value}{d:DataW H}{p:List MemPlace}(hv:Value.okWide prog W .any base 22 v)(h:DataW.Trod enc prog W 0 (fun _=>true) true 22 v d p)(hw:∀n∈d.weights prog 22,n≤140737488351232) :
  ∃(A:Option Addr) (n c:Nat) (L:List Rq) (T:List Bool),v=.slice A n c∧StepsAt W A n c L∧StepsT W A n T:=by
 obtain⟨U,l,X,rfl⟩:=okWide_slice underlying22 hv;obtain⟨w,M⟩:=h;have M:DataW.trod enc prog W 0 (fun _=>true) true w 22 [.slice U l X]=some (d,p):=by simpa[Value.cells]using M
 obtain⟨A,ab,aa,m,C,a,e,hl,Z,S,V,hd,k,x⟩:=qG underlying22 yp jo M;injection e with ea el ec;subst ea el ec
 have s:∀i:Nat,∃b:Rq × Rw × Bool,∀(h1:i<m.length),m[i]=(rqC b.1 b.2.1).toList ++ [.bool b.2.2]∧RqAt W b.1 b.2.1:=fun i=>by
  by_cases q:i<m.length
  ·obtain⟨n',y,Y,g2⟩:=x i q jo;have hm:C[i]'jo∈C:=za _;rcases k with k|⟨z0,_⟩
   ·have k:d=.slice C a:=k;rw[k]at hw;obtain⟨r,z,t,N⟩:=CV Y (by rw[g2];exact qW underlying22 hw hm);exact⟨(r,z,t),fun _=>N⟩
   omega
  exact⟨(rq0,⟨none,0,0,none,0,0⟩,false),fun h=>absurd h q⟩
 obtain⟨f,B⟩:=Classical.skolem.1 s
 have F:l≤4398046511104:=by
  rcases k with k|⟨z0,_⟩
  ·have k:d=.slice C a:=k;rw[k]at hw;have:=pR underlying22 hw;rw[F7]at this;omega
  omega
 refine⟨U,l,X,(List.range l).map (fun i=>(f i).1),(List.range l).map (fun i=>(f i).2.2),rfl,⟨jz,F,fun i q=>?_⟩,⟨jz,fun i q=>?_⟩⟩
 ·have J:i<l:=by simpa using q
  obtain⟨b,o,D,O,I⟩:=V.2 jo;obtain⟨E,R⟩:=B i jo;refine⟨b,o,(f i).2.1,D,O,fun j u P=>?_,by simpa using R⟩;obtain⟨N,_⟩:=Array.getElem?_eq_some_iff.1 P;have G:j<11:=by simpa using N
  have g:=iM S i j jo jo;rw[Nat.add_assoc];refine I _ _ (g.trans ?_);rw[E,List.getElem?_append_left (by simpa using G)]
  simpa using P
 have J:i<l:=by simpa using q
 obtain⟨b,o,D,O,I⟩:=V.2 jo;obtain⟨E,R⟩:=B i jo;refine⟨b,o,D,O,?_⟩;have g:=iM S i 11 jo jo;rw[Nat.add_assoc];refine I _ _ (g.trans ?_);rw[E];simp
end
end Md
end Go.Proofs.YtmomjpolkkbhnaaGreat
