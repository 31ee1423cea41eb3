/- What follows a cursor rises. (No walk.) -/
import Derived.Test.YtmomjpolkkbhnaaGreatQModelCountsRow36
set_option linter.unusedSimpArgs false
set_option linter.unusedVariables false
set_option maxRecDepth 100000
set_option maxHeartbeats 100000000
open Go.Proofs.Tryz
namespace Go.Proofs.YtmomjpolkkbhnaaGreat
namespace Md
open Go.RowKit Ut Tk Qy Qp Ev Cu
theorem xc:∀(out:List Dc) (a:Int),a≤bK a out∧(∀d∈out,d.seq≤bK a out)∧∀b,a≤b→(∀d∈out,d.seq≤b)→bK a out≤b
 | [],a=>⟨Int.le_refl _,fun d hd=>(nomatch hd),fun b hb _=>hb⟩
 | x::out,a=>by
  obtain⟨h1,h2,h3⟩:=xc out (max a x.seq);have e:bK a (x::out)=bK (max a x.seq) out:=rfl;rw[e];refine⟨jo,fun d hd=>?_,fun b hb hs=>h3 b (by have:=hs x jz;omega) (fun d hd=>hs d (by simp[hd]))⟩;rcases List.mem_cons.1 hd with rfl|hd
  ·omega
  exact h2 d hd
structure FolOk (a k l:Int) (p:List Dc × Int):Prop where
 len:(p.1.length:Int)≤l
 low:∀d∈p.1,a<d.seq∧d.seq≤p.2
 up:p.1.Pairwise (fun x y=>x.seq<y.seq)
 ge:a≤p.2
 le:p.2≤max a k
theorem J3{a k l:Int}{U:List Dc}(hl:1≤l)(hU:U.Pairwise (fun x y=>x.seq<y.seq)):FolOk a k l (bL a k l U):=by
 unfold bL;rw[zH jo]
 have hm:∀d∈cm a k l U,a<d.seq∧d.seq≤k:=fun d hd=>by
  have h1:=(List.mem_filter.1 (List.mem_of_mem_take hd)).2
  simpa using h1
 obtain⟨g1,g2,g3⟩:=xc (cm a k l U) a;refine⟨?_,fun d hd=>⟨(hm d hd).1,?_⟩,?_,?_,?_⟩
 ·show ((cm a k l U).length:Int)≤l;unfold cm;rw[zK];omega
 ·show d.seq≤if((cm a k l U).length:Int)<l then max a k else bK a (cm a k l U)
  split
  ·have:=(hm d hd).2;omega
  exact g2 d hd
 ·exact((hU.filter _).sublist (List.take_sublist _ _))
 ·show a≤if((cm a k l U).length:Int)<l then max a k else bK a (cm a k l U)
  split
  ·omega
  exact g1
 show (if((cm a k l U).length:Int)<l then max a k else bK a (cm a k l U))≤max a k
 split
 ·exact Int.le_refl _
 exact g3 _ jo (fun d hd=>by have:=(hm d hd).2;omega)
theorem KU{m:M}(h:Ok m)(p:Dc→Bool):(upL m p).Pairwise (fun x y=>x.seq<y.seq):=(rD h).filter _
theorem xd{a:Int}{q:ByteArray}(h:IsC a q):aG a q=0:=by unfold aG;rw[zI h]
theorem xI{w:World}{base:Nat}{e:TypeId}{size n c:Nat}{A:Option Addr}{xs:List Value}(h:w.ownsRow base e size (.slice A n c) n xs):n≤c∧(A=none→c=0):=by
 obtain⟨A',c',e,_,h1,h2,_⟩:=Ev.aP h
 cases e;exact⟨h1,h2⟩
structure StepsAt (w:World) (A:Option Addr) (n c:Nat) (L:List Rq):Prop where
 ln:L.length=n
 few:n≤4398046511104
 ex:∀i (h:i<L.length),∃b o z,A=some ⟨b,o,none⟩∧b<w.heap.size∧(∀j u,(rqC L[i] z)[j]?=some u→w.cell? ⟨b,o+i*12+j,none⟩=some u)∧RqAt w L[i] z
structure StepsT (w:World) (A:Option Addr) (n:Nat) (T:List Bool):Prop where
 ln:T.length=n
 ex:∀i (h:i<T.length),∃b o,A=some ⟨b,o,none⟩∧b<w.heap.size∧w.cell? ⟨b,o+i*12+11,none⟩=some (.bool T[i])
theorem StepsAt.below{w w':World}{A:Option Addr}{n c:Nat}{L:List Rq}(h:StepsAt w A n c L)(hb:zWW w w'):StepsAt w' A n c L:=⟨h.ln,h.few,fun i hi=>by
 obtain⟨b,o,z,e,hlt,hc,hr⟩:=h.ex i hi
 exact⟨b,o,z,e,zT hlt hb.size,fun j u hj=>(hb.cell (p:=⟨b,o+i*12+j,none⟩) hlt).trans (hc j u hj),hr.below hb⟩⟩
theorem chg_own{n0 X K base k n:Nat}{v u:Value}{m:M}{w w':World}{T:TypeId}{xs:List Value}(h:Chg (fun b=>b=X∨v.ownBlock=some b) w w')(hA:At w n0 X K v m)(ho:w.ownsRow base T k u n xs)(h1:T≠81)(h2:T≠48):w'.ownsRow base T k u n xs:=
 cT ho (fun b hb=>h.block b (aY ho hb).lt (fun hk=>by
  rcases hk with rfl|hk
  ·exact h1 ((aY ho hb).one ⟨_,_,hA.blk⟩)
  obtain⟨vss,_,g2,_⟩:=hA.own.ex
  exact h2 ((aY ho hb).one (aY g2 hk))))
end Md

namespace Md
open Go.RowKit Ut Tk Qy Qp Ev Cu
open Hi (Bk bkC ofF OwnB)
theorem DW.ofD{w:World}{base:Nat}{v:Value}{ds:List Dc}(h:DOwn w base v ds):DW w v ds:=by
 obtain⟨vss,h1,h2,h3⟩:=h.ex;exact⟨base,vss,h1,h2,fun i a b=>qy (h3 i a b) (fun b hb=>hb.2.lt)⟩
section
variable {w':World} {m m':M} {r:Rq} {base:Nat} {cs:Array Value}
theorem SeR.ansO(h:SeR base w' m r cs)(hk:m.ds.length≤1048576):∃a,SeA m r a∧AnsO w' cs a:=by
 obtain⟨E,o,hp,⟨h1,rfl⟩|⟨h1,h2,rfl⟩|⟨q,D,A,c,h1,h2,h3,h4,h5,rfl⟩⟩:=h
 ·exact⟨_,⟨E,o,hp,.inl ⟨h1,rfl⟩⟩,aT ..⟩
 ·exact⟨_,⟨E,o,hp,.inr (.inl ⟨h1,h2,rfl⟩)⟩,aT ..⟩
 have hl:=h4.perm.length_eq;have hu:=qZ m (inB r.frm r.til q);exact⟨{ an0 0 0 0 with docs:=D.take (min D.length r.lim.toNat) },⟨E,o,hp,.inr (.inr ⟨q,D,h1,h2,h3,h4,rfl⟩)⟩,⟨_,nil,nil,rfl,(DW.ofD h5).pre rfl (Nat.min_le_left _ _),⟨0,vM _ _ _ _⟩,0,vM _ _ _ _⟩,by show (D.take _).length≤1048576;rw[zK];omega,zS _,zS _⟩
theorem HgR.ansO(h:HgR w' m r base cs)(hb:m.c.buckets≤10000):∃a,HgA m r a∧AnsO w' cs a:=by
 obtain⟨E,o,hp,⟨h1,rfl⟩|⟨h1,h2,rfl⟩|⟨q,D,h1,h2,h3,h4,⟨h5,rfl⟩|⟨h5,v,h6,rfl⟩⟩⟩:=h
 ·exact⟨_,⟨E,o,hp,.inl ⟨h1,rfl⟩⟩,aT ..⟩
 ·exact⟨_,⟨E,o,hp,.inr (.inl ⟨h1,h2,rfl⟩)⟩,aT ..⟩
 ·exact⟨_,⟨E,o,hp,.inr (.inr ⟨q,D,h1,h2,h3,h4,.inl ⟨h5,rfl⟩⟩)⟩,aT ..⟩
 exact⟨{ an0 0 0 0 with bk:=ofF r.width (D.map (·.at_)) },⟨E,o,hp,.inr (.inr ⟨q,D,h1,h2,h3,h4,.inr ⟨h5,rfl⟩⟩)⟩,⟨nil,v,nil,rfl,lU _,⟨_,h6⟩,0,vM _ _ _ _⟩,zS _,by show (ofF r.width (D.map (·.at_))).length≤1048576;omega,zS _⟩
theorem OpR.ansO(h:OpR base w' r cs):∃a,OpA r a∧AnsO w' cs a:=by
 obtain⟨E,o,hp,⟨h1,rfl⟩|⟨h1,h2,rfl⟩|⟨v,h1,h2,h3,rfl⟩⟩:=h
 ·exact⟨_,⟨E,o,hp,.inl ⟨h1,rfl⟩⟩,aT ..⟩
 ·exact⟨_,⟨E,o,hp,.inr (.inl ⟨h1,h2,rfl⟩)⟩,aT ..⟩
 have:=mO r.after r.q;exact⟨{ an0 0 0 0 with cur:=bF r.after r.q },⟨E,o,hp,.inr (.inr ⟨h1,h2,rfl⟩)⟩,⟨nil,nil,v,rfl,lU _,⟨0,vM _ _ _ _⟩,_,h3⟩,zS _,zS _,by show (bF r.after r.q).length≤1048576;omega⟩
theorem TlR.ansO(h:TlR w' m r base cs)(hk:m.ds.length≤1048576):∃a,TlA m r a∧AnsO w' cs a:=by
 obtain⟨x,q,E,hp,⟨h1,rfl⟩|⟨h1,h2,rfl⟩|⟨qq,p,h1,h2,h3,h4,⟨h5,rfl⟩|⟨h5,A,c,v,h6,h7,rfl⟩⟩⟩:=h
 ·exact⟨_,⟨x,q,E,hp,.inl ⟨h1,rfl⟩⟩,aT ..⟩
 ·exact⟨_,⟨x,q,E,hp,.inr (.inl ⟨h1,h2,rfl⟩)⟩,aT ..⟩
 ·exact⟨_,⟨x,q,E,hp,.inr (.inr ⟨qq,p,h1,h2,h3,h4,.inl ⟨h5,rfl⟩⟩)⟩,aT ..⟩
 have:=mO p.2 q;have hf:p.1.length≤m.ds.length:=by rw[h4];exact zY (xZ ..) (qZ ..)
 exact⟨{ an0 0 0 0 with docs:=p.1,cur:=bF p.2 q },⟨x,q,E,hp,.inr (.inr ⟨qq,p,h1,h2,h3,h4,.inr ⟨h5,rfl⟩⟩)⟩,⟨_,nil,v,rfl,h6,⟨0,vM _ _ _ _⟩,_,h7⟩,by show p.1.length≤1048576;omega,zS _,by show (bF p.2 q).length≤1048576;omega⟩
theorem GH(m:M)(r:Rq)(w:World):AnsO w (ing m r).2 (fO m r):=by
 unfold ing fO
 split
 ·exact aT ..
 split
 ·exact aT ..
 split
 ·exact aT ..
 exact aT ..
theorem GI(m:M)(w:World):AnsO w (fZ m) (lY m):=by
 unfold fZ lY
 split
 ·exact aT ..
 exact aT ..
theorem DoR.ansO(h:DoR base w' m r m' cs)(hk:m.ds.length≤1048576)(ho:Ok m):m'=aQ m r∧∃a,AnsR m r a∧AnsO w' cs a:=by
 have hb:=ho.c.2.2.2.2.2.2.2;unfold aQ;rcases h with⟨e,rfl,rfl⟩|⟨e,rfl,rfl⟩|⟨e,rfl,rfl⟩|⟨e,rfl,rfl⟩|⟨e,rfl,rfl⟩|⟨e,rfl,h⟩|⟨e,rfl,h⟩|⟨e,rfl,h⟩|⟨e,rfl,h⟩|⟨e,rfl,rfl⟩|⟨e,rfl,rfl⟩
 ·exact⟨by rw[zI e],_,.inl ⟨e,rfl⟩,GH m r w'⟩
 ·exact⟨by rw[zH jo,zI e],_,.inr (.inl ⟨e,rfl⟩),aT ..⟩
 ·exact⟨by rw[zH jo,zH jo,zI e],_,.inr (.inr (.inl ⟨e,rfl⟩)),aT ..⟩
 ·exact⟨by rw[zH jo,zH jo,zH jo,zH jo],_,.inr (.inr (.inr (.inl ⟨e,rfl⟩))),aT ..⟩
 ·exact⟨by rw[zH jo,zH jo,zH jo,zI e],_,.inr (.inr (.inr (.inr (.inl ⟨e,rfl⟩)))),GI m w'⟩
 ·obtain⟨a,h1,h2⟩:=h.ansO hk;exact⟨by rw[zH jo,zH jo,zH jo,zH jo],a,.inr (.inr (.inr (.inr (.inr (.inl ⟨e,h1⟩))))),h2⟩
 ·obtain⟨a,h1,h2⟩:=h.ansO hb;exact⟨by rw[zH jo,zH jo,zH jo,zH jo],a,.inr (.inr (.inr (.inr (.inr (.inr (.inl ⟨e,h1⟩)))))),h2⟩
 ·obtain⟨a,h1,h2⟩:=h.ansO;exact⟨by rw[zH jo,zH jo,zH jo,zH jo],a,.inr (.inr (.inr (.inr (.inr (.inr (.inr (.inl ⟨e,h1⟩))))))),h2⟩
 ·obtain⟨a,h1,h2⟩:=h.ansO hk;exact⟨by rw[zH jo,zH jo,zH jo,zH jo],a,.inr (.inr (.inr (.inr (.inr (.inr (.inr (.inr (.inl ⟨e,h1⟩)))))))),h2⟩
 ·exact⟨by rw[zH jo,zH jo,zH jo,zH jo],_,.inr (.inr (.inr (.inr (.inr (.inr (.inr (.inr (.inr (.inl ⟨e,rfl⟩))))))))),aT ..⟩
 exact⟨by rw[zH jo,zH jo,zH jo,zH jo],_,.inr (.inr (.inr (.inr (.inr (.inr (.inr (.inr (.inr (.inr ⟨e,rfl⟩))))))))),aT ..⟩
end
def Far(S:Nat→Prop)(X:Nat)(v:Value):Prop:=∀b,S b→b≠X∧v.ownBlock≠some b
theorem RAt.chg{w w':World}{S:Nat→Prop}{K X:Nat}{m:M}{y:Rz}{v:Value}(h:RAt w S K m y)(hc:Chg (fun b=>b=X∨v.ownBlock=some b) w w')(hf:Far S X v):RAt w' S K m y:=
 h.same (fun b hb=>⟨hb,hc.block b (h.lt b hb) (fun e=>e.elim (hf b hb).1 (hf b hb).2)⟩) (fun b hb=>zT (h.lt b hb) hc.size)
theorem yR{w:World}{n0 X K:Nat}{v:Value}{m:M}(h:At w n0 X K v m):∀b,v.ownBlock=some b→b<w.heap.size:=fun b hb=>by
 obtain⟨vss,_,g2,_⟩:=h.own.ex;exact(aY g2 hb).lt
theorem Far.step{S:Nat→Prop}{X:Nat}{v v':Value}{w:World}(h:Far S X v)(hS:∀b,S b→b<w.heap.size)(ho:OwnN w v v'):Far S X v':=fun b hb=>⟨(h b hb).1,fun e=>by
 rcases ho with ho|ho
 ·rw[ho]at e;exact(h b hb).2 e
 have:=ho b e;have:=hS b hb;omega⟩
theorem Far.new{S S':Nat→Prop}{X n:Nat}{v:Value}(h:Far S X v)(hX:X<n)(hv:∀b,v.ownBlock=some b→b<n)(hS:∀b,S' b→S b∨n≤b):Far S' X v:=fun b hb=>by
 rcases hS b hb with hb|hb
 ·exact h b hb
 exact⟨jo,fun e=>by have:=hv b e;omega⟩
theorem wT(X:Nat)(v:Value):Far (fun _=>False) X v:=fun b hb=>hb.elim
theorem xe{w:World}{c:Cf}(h:okC c)(hr:c.retain≤9223372036854775807):RAt w (fun _=>False) 0 ⟨c,[],-9223372036854775808,-9223372036854775808,0⟩ ⟨none,0,0,none,0,0⟩:=
 ⟨.nil,zG _,fun _=>rfl,⟨[],.none_⟩,⟨zG _,zG _,fun _=>rfl⟩,⟨h,hr,fun i hi=>absurd hi jz,mZ,mZ,⟨by show (0:Int)≤0;decide,by show (0:Int)≤((0:Nat):Int);decide⟩⟩,zG _,fun b hb=>hb.elim⟩
end Md

namespace Cu
open Go.RowKit Cr Qp Qy Ph
def zs(l:List UInt8):Int:=l.foldl (fun z c=>wrap64 (wrap64 (z*256)+(c.toNat:Int))) 0
theorem xg(l:List UInt8)(c:UInt8):zs (l ++ [c])=wrap64 (wrap64 (zs l*256)+(c.toNat:Int)):=by unfold zs;rw[List.foldl_append];rfl
theorem J4:∀(n:Nat) (l:List UInt8),l.length=n→num l<9223372036854775808→zs l=(num l:Int):=by
 intro n
 induction n with
 | zero=>
  intro l hl _;obtain rfl:=List.eq_nil_of_length_eq_zero hl;rfl
 | succ n ih=>
  intro l hl hn;obtain⟨m,c,rfl⟩:∃m c,l=m ++ [c]:=⟨l.dropLast,l.getLast (by intro h;rw[h]at hl;simp at hl),(List.dropLast_concat_getLast _).symm⟩;rw[wL]at hn ⊢;have hc:=c.toNat_lt;rw[xg,ih m (by simpa using hl) jo,IntWalk.wrap64_in ((num m:Int)*256) jo,IntWalk.wrap64_in _ jo];omega
structure Rdc (w0 w:World) (a:Int):Prop where
 cur:Blk w (w0.heap.size+1) 122 #[.int .i64 a,.string ⟨#[]⟩]
 res:Blk w w0.heap.size 122 #[.int .i64 0,.string ⟨#[]⟩]
 bel:zWW w0 w
theorem Rdc.put{w0 w:World}{a:Int}(h:Rdc w0 w a)(b:Int):Rdc w0 (w.drew.setCell ⟨w0.heap.size+1,0,none⟩ (.int .i64 b)) b:=
 ⟨by have:=h.cur.drew.set_ 0 (.int .i64 b);simpa using this,h.res.drew.far jz _,h.bel.drew.setCell (p:=⟨w0.heap.size+1,0,none⟩) (zZ _) _⟩
structure Rdd (w0 w:World) (a:Int) (q:ByteArray):Prop where
 cur:Blk w (w0.heap.size+1) 122 #[.int .i64 a,.string q]
 res:Blk w w0.heap.size 122 #[.int .i64 0,.string ⟨#[]⟩]
 bel:zWW w0 w
theorem Rdc.query{w0 w:World}{a:Int}(h:Rdc w0 w a)(q:ByteArray):Rdd w0 (w.setCell ⟨w0.heap.size+1,1,none⟩ (.string q)) a q:=
 ⟨by have:=h.cur.set_ 1 (.string q);simpa using this,h.res.far jz _,h.bel.setCell (p:=⟨w0.heap.size+1,1,none⟩) (zZ _) _⟩
theorem Rdd.below{w0 w w':World}{a:Int}{q:ByteArray}(h:Rdd w0 w a q)(hb:zWW w w'):Rdd w0 w' a q:=
 ⟨h.cur.below hb h.cur.lt,h.res.below hb h.res.lt,h.bel.trans (hb.mono h.bel.size)⟩
theorem BM(A:Option Addr)(m c:Nat)(L:List UInt8)(w:World)(hR:Reads w w.heap.size 1 A m (bv L))(hm:m≤140737488351232)(hc:m≤c):Calls prog 87 #[.slice A m c] w (nR w L):=by
 have hln:L.length=m:=by have:=hR.1;rw[dH]at this;omega
 have hBr:=Blk.new w 122 #[.int .i64 0,.string ⟨#[]⟩];have hb1:=(zw w.heap.size w).alloc (zG _) (.cells #[.int .i64 0,.string ⟨#[]⟩] 122);by_cases h17:m<17
 ·have hr0:=hBr.cell 0;have hr1:=hBr.cell 1;have hg0:=hBr.frozen 0;have hg1:=hBr.frozen 1;have h17':(m:Int)<17:=jo;simp at hr0 hr1;have HBr:=zh hBr;have Hb8:=zh hb1
  have Hno:Hid (∀(n:Nat) (q':ByteArray),IsC n q'→L≠enc n q'.data.toList):=zh (fun n q' _ e=>by
   have:=iG n q'.data.toList;rw[←e]at this
   omega)
  clear hBr hb1 hR hln h17;go_enter func87,ntmps87;go_wp2;exact zu (iT rfl rfl rfl HBr.out) rfl ⟨0,⟨#[]⟩,250,.inr ⟨Hno.out,rfl,rfl,rfl⟩,rfl,Hb8.out⟩
 have h17':¬(m:Int)<17:=jo;have hBx:=Blk.new (w.alloc (.cells #[.int .i64 0,.string ⟨#[]⟩] 122)) 122 #[.int .i64 0,.string ⟨#[]⟩];have hz:(w.alloc (.cells #[.int .i64 0,.string ⟨#[]⟩] 122)).heap.size=w.heap.size+1:=jz;rw[hz]at hBx
 have HR0:Hid (Rdc w ((w.alloc (.cells #[.int .i64 0,.string ⟨#[]⟩] 122)).alloc (.cells #[.int .i64 0,.string ⟨#[]⟩] 122)) 0):=zh
  ⟨hBx,hBr.alloc _,hb1.alloc jz _⟩
 obtain⟨b,o,rfl,hbl,hcl⟩:=hR.2 jo;have HR:=zh hR;have HL:=zh hln;have Hcl:=zh hcl;clear hb1 hBr hBx hln hz hR hcl;go_enter func87,ntmps87;go_wp2_with fail;generalize hw2:(w.alloc (.cells #[.int .i64 0,.string ⟨#[]⟩] 122)).alloc (.cells #[.int .i64 0,.string ⟨#[]⟩] 122)=w2 at *;clear hw2;go_loopw [5] (fun i wr=>∃k:Nat,k≤8∧i=.int .i64 ((k:Int)+3)∧Rdc w wr (zs ((L.drop 3).take k))) (fun i _=>(11-intOf i).toNat)
 case atStart=>exact⟨0,jo,rfl,by simpa[zs]using HR0.out⟩
 obtain⟨k,hk,rfl,hE⟩:=hrel;have hd0:=hE.cur.cell 0;have hf0:=hE.cur.frozen 0;simp at hd0;have hlt:=hE.cur.lt;by_cases hk8:k<8
 ·have hk11:(k:Int)+3<11:=jo;have hkm:k+3<L.length:=by have:=HL.out;omega
  have hce:wr.cell? ⟨b,o+(k+3),none⟩=some (.int .u8 ((L[k+3]'hkm).toNat:Int)):=(hE.bel.cell (p:=⟨b,o+(k+3),none⟩) hbl).trans (Hcl.out (k+3) _ (by rw[lQ,zU hkm];rfl))
  have hts:zs ((L.drop 3).take (k+1))=wrap64 (wrap64 (zs ((L.drop 3).take k)*256)+((L[k+3]'hkm).toNat:Int)):=by
   rw[zL (by rw[zP];omega),xg,List.getElem_drop];congr 5;omega
  have Hts:=zh hts;have HE:=zh hE;clear hE hts;generalize zs ((L.drop 3).take k)=z at *;generalize (L[k+3]'hkm)=x at *;have hx:=x.toNat_lt;have hin:0≤(k:Int)+3∧(k:Int)+3<(m:Int):=by have:=HL.out;omega
  have hi1:=hin.1;have hi2:=hin.2;have hkk:((k:Int)+3).toNat=k+3:=jo;clear hin
  go_upto_region 7 with(fail);refine dN 9 (aI []) (fun wx=>wx=wr.drew) (fun _=>True) jk jk (dS jk) rfl trivial ?_;refine aD 1 ?_ rfl jr jr (fun wx hC=>?_) ?_;rotate_left
  ·subst hC;go_simp;all_goals with_reducible rfl
  try simp only[Act.put,zD,zE,zF]
  refine aD 2 ?_ rfl jr jr (fun wx hC=>?_) ?_;rotate_left
  ·subst hC;go_simp;all_goals with_reducible rfl
  try simp only[Act.put,zD,zE,zF]
  refine aD 3 ?_ rfl jr jr (fun wx hC=>?_) ?_;rotate_left
  ·subst hC;go_simp;all_goals with_reducible rfl
  try simp only[Act.put,zD,zE,zF]
  refine aD 4 ?_ rfl jr jr (fun wx hC=>?_) ?_;rotate_left
  ·subst hC;go_simp;all_goals with_reducible rfl
  try simp only[Act.put,zD,zE,zF]
  refine aD 5 ?_ rfl jr jr (fun wx hC=>?_) ?_;rotate_left
  ·subst hC;go_simp;all_goals with_reducible rfl
  try simp only[Act.put,zD,zE,zF]
  refine aD 6 ?_ rfl jr jr (fun wx hC=>?_) ?_;rotate_left
  ·subst hC;go_simp;all_goals with_reducible rfl
  try simp only[Act.put,zD,zE,zF]
  refine aD 7 ?_ rfl jr jr (fun wx hC=>?_) ?_;rotate_left
  ·subst hC;go_simp;all_goals with_reducible rfl
  try simp only[Act.put,zD,zE,zF]
  refine aD 8 ?_ rfl jr jr (fun wx hC=>?_) ?_;rotate_left
  ·subst hC;go_simp;all_goals with_reducible rfl
  try simp only[Act.put,zD,zE,zF]
  refine aD 9 ?_ rfl jr jr (fun wx hC=>?_) ?_;rotate_left
  ·subst hC;go_simp;all_goals with_reducible rfl
  try simp only[Act.put,zD,zE,zF]
  refine dZ (fun w6 hC hI=>?_);subst hC;have Fin:=zh (HE.out.put (wrap64 (wrap64 (z*256)+(x.toNat:Int))));clear hI;go_wp2;go_roundw
  case rel=>exact⟨k+1,jo,by congr 1,by rw[Hts.out];exact Fin.out⟩
  simp[intOf];omega
 obtain rfl:k=8:=jo;have Hz:Hid (aOf L<9223372036854775808→zs ((L.drop 3).take 8)=(aOf L:Int)):=zh (fun h=>J4 _ _ rfl h);generalize zs ((L.drop 3).take 8)=z at *;have hd1:=hE.cur.cell 1;have hf1:=hE.cur.frozen 1;simp at hd1;have HE:=zh hE;have HS:Hid ((⟨(gu L).toArray⟩:ByteArray).data.toList=gu L):=zh jz
 have hcv:(convert 30 9 (.slice (some ⟨b,o+13,none⟩) (m-17) (c-13))).run prog wr=.ok (.string ⟨(gu L).toArray⟩) wr:=by
  refine iE (B:=w.heap.size) (c-13) ⟨by rw[dH];unfold gu;rw[zK,zP];have:=HL.out;omega,fun _=>⟨b,o+13,rfl,hbl,fun j u hu=>?_⟩⟩;refine(HE.out.bel.cell (p:=⟨b,o+13+j,none⟩) hbl).trans ?_;rw[Nat.add_assoc];refine Hcl.out (13+j) u ?_;rw[lQ]at hu ⊢;unfold gu at hu;rw[List.getElem?_take]at hu
  split at hu
  ·rw[List.getElem?_drop]at hu;exact hu
  cases hu
 have h13a:(13:Int)≤(m:Int)-4:=jo;have h13b:(m:Int)-4≤(c:Int):=jo;have h13c:((m:Int)-4).toNat=m-4:=jo;have h13d:m-4-13=m-17:=jo;have h13e:¬c=13:=jo;clear hE hd0 hf0;generalize (⟨(gu L).toArray⟩:ByteArray)=S at *
 go_upto_region 9 with(fail);have HR7:=zh (HE.out.query S);clear HE hd1 hf1 hcv h13a h13b h13c h13d h13e;generalize hw7:wr.setCell ⟨w.heap.size+1,1,none⟩ (.string S)=w7 at *;clear hw7;have hd1:=HR7.out.cur.cell 0;have hd2:=HR7.out.cur.cell 1;simp at hd1 hd2;have hlt7:=HR7.out.cur.lt;have Hdec:=zh (xQ Hz.out (.inr HS.out));by_cases hI:IsC z S
 ·obtain⟨n,rfl⟩:∃n:Nat,z=n:=⟨z.toNat,by have:=hI.1;omega⟩;have ce:=sO n S w7 hI;have HI:=zh hI;clear hI;go_wp2_with fail;refine ce.mono ?_;rintro e w8 ⟨⟨v8,rfl,hown8⟩,hb8⟩;have HR8:=zh (HR7.out.below hb8);have Hb8:Hid (zWW w w8):=zh HR8.out.bel;obtain⟨A8',c8',rfl,hRd8⟩:=aU hown8;have hcv1:=iE c8' hRd8;have hcv2:=iE c (HR.out.below Hb8.out);have hd1:=HR8.out.cur.cell 0;have hd2:=HR8.out.cur.cell 1;simp at hd1 hd2;have hBr:=HR8.out.res;have hr0:=hBr.cell 0;have hr1:=hBr.cell 1;have hg0:=hBr.frozen 0;have hg1:=hBr.frozen 1;simp at hr0 hr1;have HBr:=zh hBr;clear ce hb8 hown8 hRd8 hBr HR7;generalize hen:enc n S.data.toList=M8 at *;have Hen:=zh hen;clear hen;by_cases hE:M8=L
  ·subst hE;generalize (⟨M8.toArray⟩:ByteArray)=X at *;go_wp2;exact zu (iT rfl rfl rfl (iF HBr.out)) rfl ⟨n,S,0,.inl ⟨n,rfl,HI.out,Hen.out.symm,rfl⟩,rfl,(Hb8.out.setCell (p:=⟨w.heap.size,0,none⟩) (zG _) _).setCell (p:=⟨w.heap.size,1,none⟩) (zG _) _⟩
  have hX:((⟨M8.toArray⟩:ByteArray).toList==(⟨L.toArray⟩:ByteArray).toList)=false:=by
   rw[Tk.tl,Tk.tl,zM];intro h;exact hE (by simpa using h)
  have hXn:((⟨M8.toArray⟩:ByteArray).toList != (⟨L.toArray⟩:ByteArray).toList)=true:=by rw[bne,hX];rfl
  have Hno:Hid (∀(n:Nat) (q':ByteArray),IsC n q'→L≠enc n q'.data.toList):=zh (by
   rcases Hdec.out with⟨n',e1,_,h2⟩|h
   ·exact absurd (by rw[←Hen.out,←h2];congr 1;omega) hE
   exact h)
  clear hE Hdec;generalize (⟨M8.toArray⟩:ByteArray)=X at *;generalize (⟨L.toArray⟩:ByteArray)=Y at *;go_wp2;exact zu (iT rfl rfl rfl (iF HBr.out)) rfl ⟨0,⟨#[]⟩,250,.inr ⟨Hno.out,rfl,rfl,rfl⟩,rfl,(Hb8.out.setCell (p:=⟨w.heap.size,0,none⟩) (zG _) _).setCell (p:=⟨w.heap.size,1,none⟩) (zG _) _⟩
 have ce:=tT z S w7 hI
 have Hno:Hid (∀(n:Nat) (q':ByteArray),IsC n q'→L≠enc n q'.data.toList):=zh (by
  rcases Hdec.out with⟨n',e1,h1,h2⟩|h
  ·exact absurd h1 hI
  exact h)
 clear hI Hdec;go_wp2_with fail;refine ce.mono ?_;rintro e w8 ⟨⟨v8,rfl,hown8⟩,hb8⟩;have HR8:=zh (HR7.out.below hb8);have Hb8:Hid (zWW w w8):=zh HR8.out.bel;have hBr:=HR8.out.res;have hr0:=hBr.cell 0;have hr1:=hBr.cell 1;have hg0:=hBr.frozen 0;have hg1:=hBr.frozen 1;simp at hr0 hr1;have HBr:=zh hBr;clear ce hb8 hown8 hBr HR7;go_wp2;exact zu (iT rfl rfl rfl (iF HBr.out)) rfl ⟨0,⟨#[]⟩,250,.inr ⟨Hno.out,rfl,rfl,rfl⟩,rfl,(Hb8.out.setCell (p:=⟨w.heap.size,0,none⟩) (zG _) _).setCell (p:=⟨w.heap.size,1,none⟩) (zG _) _⟩
end Cu

namespace Md
open Go.RowKit Ut Tk Qy Qp Ev Cu
abbrev stC(r:Rq)(z:Rw)(fl:Bool):Array Value:=#[.int .i64 r.op,.slice z.E z.en z.ec,.bool r.dur,.int .i64 r.now,.string r.q,.int .i64 r.frm,.int .i64 r.til,.int .i64 r.lim,.int .i64 r.width,.int .i64 r.after,.slice z.C z.cn z.cc,.bool fl]
abbrev zrC:Array Value:=#[.int .i64 0,nil,.bool false,.int .i64 0,.string ⟨#[]⟩,.int .i64 0,.int .i64 0,.int .i64 0,.int .i64 0,.int .i64 0,nil]
def ofR(r:Rq)(fl:Bool)(L:List UInt8):Rq:=if fl then { fN r with op:=10,cur:=L }else fN r
def OfP(r:Rq)(z0:Rw)(fl:Bool)(LA:Option Addr)(ln:Nat)(L:List UInt8)(w:World)(e:Ending)(w':World):Prop:=∃z,e=.returned (.agg (rqC (ofR r fl L) z))∧RqAt w' (ofR r fl L) z∧zWW w w'∧EvsS w' (fun b=>w.heap.size≤b∧b<w'.heap.size) z.E z.en z.ec (ofR r fl L).evs ∧
 ∀(wx:World) (B:Nat),Reads wx B 1 z0.C z0.cn (bv r.cur)→Reads wx B 1 LA ln (bv L)→Reads wx B 1 z.C z.cn (bv (ofR r fl L).cur)
theorem p8{w w':World}{S S':Nat→Prop}{A:Option Addr}{n c:Nat}{l:List Evn}(h:EvsS w S A n c l)(hS:∀b,S b→S' b∧w'.heap[b]?=w.heap[b]?):EvsS w' S' A n c l:=h.same hS
theorem qf{w:World}{S:Nat→Prop}{A:Option Addr}{n c:Nat}{l:List Evn}(h:EvsS w S A n c l)(hS:∀b,S b→b<w.heap.size)(hl:n≤4398046511104)(hs:∀e∈l,∀f∈e.2,f.1.size≤140737488351232∧f.2.size≤140737488351232):EvsAt w w.heap.size A n c l:=by
 obtain⟨vss,h1,h2,h3⟩:=h.ex
 exact⟨h.ln,hl,h.cap,vss,h1,h2.reads hS,fun i a b=>by
  obtain⟨F,fn,fc,e,g1,g2,g3,g4,g5⟩:=(h3 i a b).ex
  exact⟨F,fn,fc,e,⟨g1.reads hS,g2,g3,g4,hs _ (za a),g5⟩⟩⟩
theorem p9{w:World}{B n c:Nat}{A:Option Addr}{l:List Evn}(h:EvsAt w B A n c l):∀e∈l,∀f∈e.2,f.1.size≤140737488351232∧f.2.size≤140737488351232:=fun e he=>by
 obtain⟨i,hi,rfl⟩:=zp.1 he;obtain⟨vss,h1,h2,h3⟩:=h.ex;obtain⟨F,fn,fc,_,g⟩:=h3 i hi (by have:=h.ln;omega);exact g.sz
theorem ET{w:World}{T:TypeId}{g n:Nat}{A:Option Addr}{L:List UInt8}{cs:Array Value}(h:Reads w w.heap.size 1 A n (bv L))(hg:Blk w g T cs)(hn:∀(o:Nat) (x:Int),cs[o]?=some (Value.int .u8 x)→False)(cs':Array Value):Reads (w.setRow g cs') (w.setRow g cs').heap.size 1 A n (bv L):=by
 refine⟨h.1,fun hp=>?_⟩;obtain⟨b,o,e,hb,hc⟩:=h.2 hp
 have hne:b≠g:=by
  have hl:0<L.length:=by have:=h.1;rw[dH]at this;omega
  have h0:=hc 0 (.int .u8 (L[0].toNat:Nat)) (by unfold bv;rw[List.getElem?_map,zU hl];rfl);rintro rfl;rw[Nat.add_zero,hg.cell o]at h0;exact hn o _ h0
 exact⟨b,o,e,zT hb jz,fun j u hj=>(vN (vJ w g b cs' hne)).trans (hc j u hj)⟩
theorem J6:∀(o:Nat) (x:Int),(zrC:Array Value)[o]?=some (Value.int .u8 x)→False:=fun o x h=>by
 rcases zg o 11 with ho|ho
 ·rcases(by omega:o=0∨o=1∨o=2∨o=3∨o=4∨o=5∨o=6∨o=7∨o=8∨o=9∨o=10)with rfl|rfl|rfl|rfl|rfl|rfl|rfl|rfl|rfl|rfl|rfl<;>cases h
 rw[zn (by simpa[zrC]using ho)]at h
 cases h
theorem ij(r:Rq)(z:Rw)(fl:Bool)(LA:Option Addr)(ln lc:Nat)(Lc:List UInt8)(w:World)(hr:RqAt w r z)(hL:Reads w w.heap.size 1 LA ln (bv Lc))(hn:ln≤140737488351232∧ln≤lc∧(LA=none→lc=0)) :
  Calls prog 18 #[.agg (stC r z fl),.slice LA ln lc] w (OfP r z fl LA ln Lc w):=by
 have hb:=((zw w.heap.size w).alloc (zG _) (.cells (stC r z fl) 64)).alloc jz (.cells zrC 37);have hx:=(Blk.new w 64 (stC r z fl)).alloc (.cells zrC 37);have hy:=Blk.new (w.alloc (.cells (stC r z fl) 64)) 37 zrC;have z1:(w.alloc (.cells (stC r z fl) 64)).heap.size=w.heap.size+1:=jz;rw[z1]at hy;have HX:=zh hx;have HR:=zh hy;have HB:=zh hb;have hsw:w.heap.size+2≤(World.heap ((w.alloc (.cells (stC r z fl) 64)).alloc (.cells zrC 37))).size:=jz;have CF:=zh (xW r z _ (hr.below hb));have HL:=zh hL;have HNN:=zh hn;clear hr hL hb hx hy z1 hn;go_enter func18,ntmps18
 go_upto_region 1 with(fail);generalize ((w.alloc (.cells (stC r z fl) 64)).alloc (.cells zrC 37))=w1 at *;have x0:=HX.out.cell 0;have x1:=HX.out.cell 1;have x2:=HX.out.cell 2;have x3:=HX.out.cell 3;have x4:=HX.out.cell 4;have x5:=HX.out.cell 5;have x6:=HX.out.cell 6;have x7:=HX.out.cell 7;have x8:=HX.out.cell 8;have x9:=HX.out.cell 9;have x10:=HX.out.cell 10;have x11:=HX.out.cell 11;simp only[stC,zA,zB,zC]at x0 x1 x2 x3 x4 x5 x6 x7 x8 x9 x10 x11;go_wp2_with fail;refine CF.out.mono ?_;rintro e w2 ⟨z2,rfl,hr2,hb2,hE2,hcu2⟩;have HCU2:=zh hcu2;have hs2:=hb2.size;have hba:zWW w2 (w2.alloc (.cells (rqC (fN r) z2) 37)):=zRR _;have hb23:=hb2.trans (hba.mono hs2);have HX3:=zb HX hb23;have HR3:=zb HR hb23;have HB3:=zt HB hb23;have HQ3:=zh (Blk.new w2 37 (rqC (fN r) z2));have HRQ3:=zh (hr2.below hba);have HE3:=zh (hE2.same (fun b hb=>⟨hb,hba.block b hb.2⟩));have hs3:=hba.size;clear hb2 hr2 hE2 hcu2 hba hb23 HX HR HB CF x0 x1 x2 x3 x4 x5 x6 x7 x8 x9 x10 x11;obtain⟨q2,hq2⟩:∃q2,fN r=q2:=⟨_,rfl⟩;have HOF:Hid (ofR r fl Lc=if fl then { q2 with op:=10,cur:=Lc }else q2):=zh (by unfold ofR;rw[hq2]);rw[hq2]at HQ3 HRQ3 HE3 HR3 HB3 HX3 hs3 HCU2 ⊢;clear hq2
 go_upto_region 2 with(fail);generalize w2.alloc (.cells (rqC q2 z2) 37)=w3 at *;have x11:=HX3.out.cell 11;simp only[stC,zA,zB,zC]at x11;have hne:w.heap.size+1≠w2.heap.size:=jo
 cases fl with
 | false=>
  rw[zH jd]at HOF;have HX9:=zh (zx w3 (w.heap.size+1) zrC (rqC q2 z2) _ _ HR3.out);go_wp2_with (first|(refine wpList_load_row (o:=⟨some 14,.load 37 _,_,_,_,_⟩) rfl 37 _ rfl (w2.heap.size) rfl 37 (rqC q2 z2) (0,0) _ HQ3.out underlying37 rfl jk ?_)|(refine zv (o:=⟨none,.store 37 _ _,_,_,_,_⟩) rfl 37 _ _ rfl (w.heap.size+1) (rqC q2 z2) rfl rfl 37 (zrC) HR3.out jk rfl (by simp[rqC,zrC,Value.oneCell']) ?_));refine zu (aA rfl rfl (zr _ (w.heap.size+1) 37 37 (rqC q2 z2) (0,0) _ HX9.out underlying37 rfl jk)) rfl ?_;refine⟨z2,by rw[HOF.out],?_⟩;rw[HOF.out];have hz:(w3.setRow (w.heap.size+1) (rqC q2 z2)).heap.size=w3.heap.size:=jz;have hE:=p8 (w':=w3.setRow (w.heap.size+1) (rqC q2 z2)) (S':=fun b=>w.heap.size≤b∧b<(w3.setRow (w.heap.size+1) (rqC q2 z2)).heap.size) HE3.out (fun b hb=>⟨⟨jo,by rw[hz];have:=hb.2;omega⟩,vJ w3 _ b _ jo⟩);refine⟨⟨qf hE (fun b hb=>hb.2) HRQ3.out.ev.few (p9 HRQ3.out.ev),ET HRQ3.out.cur HR3.out J6 _,HRQ3.out.cn,HRQ3.out.ti,HRQ3.out.nw,HRQ3.out.wd⟩,zz HB3.out jo _,hE,fun wx B h _=>HCU2.out wx B h⟩
 | true=>
  rw[zI rfl]at HOF;have q0:=HQ3.out.cell 0;have q10:=HQ3.out.cell 10;simp only[rqC,zA,zB,zC]at q0 q10;have q0f:=HQ3.out.frozen 0;have q10f:=HQ3.out.frozen 10
  have HQ5:Hid (Blk ((w3.setCell ⟨w2.heap.size,0,none⟩ (.int .i64 10)).setCell ⟨w2.heap.size,10,none⟩ (.slice LA ln lc)) w2.heap.size 37 (rqC { q2 with op:=10,cur:=Lc } ⟨z2.E,z2.en,z2.ec,LA,ln,lc⟩)):=zh (by
   have:=(HQ3.out.set_ 0 (.int .i64 10)).set_ 10 (.slice LA ln lc)
   simpa[rqC]using this)
  have HR5:=zh ((HR3.out.far (p:=⟨w2.heap.size,0,none⟩) hne (.int .i64 10)).far (p:=⟨w2.heap.size,10,none⟩) hne (.slice LA ln lc));have HB5:=zh ((HB3.out.setCell (p:=⟨w2.heap.size,0,none⟩) (show w.heap.size≤w2.heap.size by omega) (.int .i64 10)).setCell (p:=⟨w2.heap.size,10,none⟩) (show w.heap.size≤w2.heap.size by omega) (.slice LA ln lc));have hz5:((w3.setCell ⟨w2.heap.size,0,none⟩ (.int .i64 10)).setCell ⟨w2.heap.size,10,none⟩ (.slice LA ln lc)).heap.size=w3.heap.size:=by simp[World.setCell]
  have HE5:=zh (p8 (w':=(w3.setCell ⟨w2.heap.size,0,none⟩ (.int .i64 10)).setCell ⟨w2.heap.size,10,none⟩ (.slice LA ln lc)) (S':=fun b=>w1.heap.size≤b∧b<w2.heap.size) HE3.out (fun b hb=>⟨hb,(vL _ _ _ _ (fun e=>by have e:b=w2.heap.size:=e;omega)).trans (vL _ _ _ _ (fun e=>by have e:b=w2.heap.size:=e;omega))⟩))
  go_upto_region 5 with(fail);have hs5:w3.heap.size≤((w3.setCell ⟨w2.heap.size,0,none⟩ (.int .i64 10)).setCell ⟨w2.heap.size,10,none⟩ (.slice LA ln lc)).heap.size:=by rw[hz5];exact zG _
  clear hz5;generalize ((w3.setCell ⟨w2.heap.size,0,none⟩ (.int .i64 10)).setCell ⟨w2.heap.size,10,none⟩ (.slice LA ln lc))=w5 at *;clear q0 q10 q0f q10f;obtain⟨q5,hq5⟩:∃q5:Rq,({ q2 with op:=10,cur:=Lc }:Rq)=q5:=⟨_,rfl⟩;obtain⟨z5,hz5'⟩:∃z5:Rw,(⟨z2.E,z2.en,z2.ec,LA,ln,lc⟩:Rw)=z5:=⟨_,rfl⟩;rw[hq5,hz5']at HQ5;have HQ5e:=zh hq5;have HZ5e:=zh hz5';clear hq5 hz5';have HX9:=zh (zx w5 (w.heap.size+1) zrC (rqC q5 z5) _ _ HR5.out);go_wp2_with (first|(refine wpList_load_row (o:=⟨some 14,.load 37 _,_,_,_,_⟩) rfl 37 _ rfl (w2.heap.size) rfl 37 (rqC q5 z5) (0,0) _ HQ5.out underlying37 rfl jk ?_)|(refine zv (o:=⟨none,.store 37 _ _,_,_,_,_⟩) rfl 37 _ _ rfl (w.heap.size+1) (rqC q5 z5) rfl rfl 37 (zrC) HR5.out jk rfl (by simp[rqC,zrC,Value.oneCell']) ?_));refine zu (aA rfl rfl (zr _ (w.heap.size+1) 37 37 (rqC q5 z5) (0,0) _ HX9.out underlying37 rfl jk)) rfl ?_;refine⟨z5,by rw[HOF.out,HQ5e.out],?_⟩;rw[HOF.out,HQ5e.out];have hz:(w5.setRow (w.heap.size+1) (rqC q5 z5)).heap.size=w5.heap.size:=jz;have hE:=p8 (w':=w5.setRow (w.heap.size+1) (rqC q5 z5)) (S':=fun b=>w.heap.size≤b∧b<(w5.setRow (w.heap.size+1) (rqC q5 z5)).heap.size) HE5.out (fun b hb=>⟨⟨jo,by rw[hz];omega⟩,vJ w5 _ b _ jo⟩);have hcur:Reads (w5.setRow (w.heap.size+1) (rqC q5 z5)) w.heap.size 1 LA ln (bv Lc):=HL.out.below ((zz HB5.out jo (rqC q5 z5)));have hq:RqAt (w5.setRow (w.heap.size+1) (rqC q5 z5)) { q2 with op:=10,cur:=Lc } ⟨z2.E,z2.en,z2.ec,LA,ln,lc⟩:=⟨qf hE (fun b hb=>hb.2) HRQ3.out.ev.few (p9 HRQ3.out.ev),hcur.more (by rw[hz];omega),HNN.out,HRQ3.out.ti,HRQ3.out.nw,HRQ3.out.wd⟩;have hE2:EvsS (w5.setRow (w.heap.size+1) (rqC q5 z5)) (fun b=>w.heap.size≤b∧b<(w5.setRow (w.heap.size+1) (rqC q5 z5)).heap.size) (⟨z2.E,z2.en,z2.ec,LA,ln,lc⟩:Rw).E (⟨z2.E,z2.en,z2.ec,LA,ln,lc⟩:Rw).en (⟨z2.E,z2.en,z2.ec,LA,ln,lc⟩:Rw).ec ({ q2 with op:=10,cur:=Lc }:Rq).evs:=hE;rw[HQ5e.out,HZ5e.out]at hq hE2;have hcc:∀(wx:World) (B:Nat),Reads wx B 1 z.C z.cn (bv r.cur)→Reads wx B 1 LA ln (bv Lc)→Reads wx B 1 (⟨z2.E,z2.en,z2.ec,LA,ln,lc⟩:Rw).C (⟨z2.E,z2.en,z2.ec,LA,ln,lc⟩:Rw).cn (bv ({ q2 with op:=10,cur:=Lc }:Rq).cur):=fun wx B _ h=>h
  rw[HQ5e.out,HZ5e.out]at hcc;exact⟨hq,zz HB5.out jo _,hE2,hcc⟩
end Md

namespace Md
open Go.RowKit Ut Tk Qy Qp Ev Cu
theorem wW(cs1 cs2:Array Value)(a:Ans)(w:World)(h1:AnsAt w cs1 a)(h2:AnsAt w cs2 a):Calls prog 20 #[.agg cs1,.agg cs2] w fun e w'=>e=.returned (.bool true)∧zWW w w':=by
 obtain⟨A,n,c,B,k,d,C,l,e,rfl,hA,hn,hB,hk,hk2,hC,hl,hl2⟩:=h1;obtain⟨A',n',c',B',k',d',C',l',e',rfl,hA',hn',hB',hk',_,hC',hl',_⟩:=h2;have hnn:n'=n:=by rw[←hA'.ln,hA.ln]
 subst hnn;subst hk;subst hk';subst hl;subst hl';obtain⟨E,seq,fl,ds,bk,cur,ev,nx,nw,ak⟩:=a;simp only at *;have hb:=((zw w.heap.size w).alloc (zG _) (.cells (rsC E seq fl (.slice A n' c) (.slice B bk.length d) (.slice C cur.length e) ev nx nw ak) 42)).alloc jz (.cells (rsC E seq fl (.slice A' n' c') (.slice B' bk.length d') (.slice C' cur.length e') ev nx nw ak) 42);have hx:=(Blk.new w 42 (rsC E seq fl (.slice A n' c) (.slice B bk.length d) (.slice C cur.length e) ev nx nw ak)).alloc (.cells (rsC E seq fl (.slice A' n' c') (.slice B' bk.length d') (.slice C' cur.length e') ev nx nw ak) 42);have hy:=Blk.new (w.alloc (.cells (rsC E seq fl (.slice A n' c) (.slice B bk.length d) (.slice C cur.length e) ev nx nw ak) 42)) 42 (rsC E seq fl (.slice A' n' c') (.slice B' bk.length d') (.slice C' cur.length e') ev nx nw ak);have z1:(w.alloc (.cells (rsC E seq fl (.slice A n' c) (.slice B bk.length d) (.slice C cur.length e) ev nx nw ak) 42)).heap.size=w.heap.size+1:=jz;rw[z1]at hy;have HX:=zh hx;have HY:=zh hy;have HB:=zh hb;have CD:Hid (∀wx,zWW w wx→Calls prog 55 #[.slice A n' c,.slice A' n' c'] wx fun e w'=>e=.returned (.bool true)∧zWW wx w'):=zh (fun wx hb=>BV A A' n' c c' ds wx (hA.grow hb) (hA'.grow hb) jo)
 have CB:Hid (∀wx,zWW w wx→Calls prog 14 #[.slice B bk.length d,.slice B' bk.length d'] wx fun e w'=>e=.returned (.bool true)∧zWW wx w'):=zh (fun wx hb=>by
  have:=Hi.ub B B' d d' wx.heap.size wx.heap.size bk bk wx ((hB.below hb).more hb.size) ((hB'.below hb).more hb.size) jo jo
  simpa using this)
 have HCV:Hid (∀wx,zWW w wx→(convert 30 9 (.slice C cur.length e)).run prog wx=.ok (.string ⟨cur.toArray⟩) wx∧(convert 30 9 (.slice C' cur.length e')).run prog wx=.ok (.string ⟨cur.toArray⟩) wx):=zh (fun wx hb=>⟨iE e (hC.below hb),iE e' (hC'.below hb)⟩);have hE1:(E==E)=true:=jz;have hE2:(seq==seq)=true:=jz;have hE3:(fl==fl)=true:=jz;clear hb hx hy z1 hA hA' hB hB' hC hC';go_enter func20,ntmps20;go_wp2_with fail;generalize ((w.alloc (.cells (rsC E seq fl (.slice A n' c) (.slice B bk.length d) (.slice C cur.length e) ev nx nw ak) 42)).alloc (.cells (rsC E seq fl (.slice A' n' c') (.slice B' bk.length d') (.slice C' cur.length e') ev nx nw ak) 42))=w1 at *;refine(CD.out w1 HB.out).mono ?_;rintro e2 w2 ⟨rfl,hb2⟩;have HB2:=zt HB hb2;have HX2:=zb HX hb2;have HY2:=zb HY hb2;clear hb2 CD HX HY HB;have x4:=HX2.out.cell 4;simp only[rsC,zA,zB,zC]at x4;have y4:=HY2.out.cell 4;simp only[rsC,zA,zB,zC]at y4;go_wp2_with fail;refine(CB.out w2 HB2.out).mono ?_;rintro e2 w3 ⟨rfl,hb3⟩;have HB3:=zt HB2 hb3;have HX3:=zb HX2 hb3;have HY3:=zb HY2 hb3;clear hb3 CB HX2 HY2 HB2 x4 y4;obtain⟨hcv1,hcv2⟩:=HCV.out w3 HB3.out;have x5:=HX3.out.cell 5;have x6:=HX3.out.cell 6;have x7:=HX3.out.cell 7;have x8:=HX3.out.cell 8;have x9:=HX3.out.cell 9;simp only[rsC,zA,zB,zC]at x5 x6 x7 x8 x9;have y5:=HY3.out.cell 5;have y6:=HY3.out.cell 6;have y7:=HY3.out.cell 7;have y8:=HY3.out.cell 8;have y9:=HY3.out.cell 9;simp only[rsC,zA,zB,zC]at y5 y6 y7 y8 y9;go_wp2;go_ret;exact⟨rfl,HB3.out⟩
end Md
end Go.Proofs.YtmomjpolkkbhnaaGreat
