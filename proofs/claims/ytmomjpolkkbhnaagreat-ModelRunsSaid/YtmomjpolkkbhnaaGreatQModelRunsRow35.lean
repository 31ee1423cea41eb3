/- Answers, each row of them somebody's own. (No walk.) -/
import Derived.Test.YtmomjpolkkbhnaaGreatQModelRunsRow34
import Derived.Test.YtmomjpolkkbhnaaGreatQModelRunsRow36
set_option linter.unusedSimpArgs false
set_option linter.unusedVariables false
set_option maxRecDepth 20000
set_option maxHeartbeats 100000000
open Go.Proofs.Tryz
namespace Go.Proofs.YtmomjpolkkbhnaaGreat
namespace Md
open Go.RowKit Ut Tk Qy Qp Ev Cu
open Hi (Bk bkC ofF OwnB)
theorem CX{w:World}{base k n j c:Nat}{T:TypeId}{A:Option Addr}{xs:List Value}(h:w.ownsRow base T k (.slice A n c) n xs)(hj:j≤n):w.ownsRow base T k (.slice A j c) j (xs.take (j*k)):=by
 have p:=h.1;have b:j*k≤n*k:=Nat.mul_le_mul_right k hj;refine⟨by rw[zK,p];exact Nat.min_eq_left b,?_⟩;rcases h.2 with⟨e,s⟩|⟨g,l,d,e,m,i,r,f,q,o⟩
 ·injection e with e1 e2 e3;subst e1 e3;obtain rfl:j=0:=jo;exact .inl ⟨rfl,rfl⟩
 injection e with e1 e2 e3;subst e1 e3;exact .inr ⟨g,c,d,rfl,m,i,jo,f,q,by rw[←o,List.take_take,Nat.min_eq_left b]⟩
theorem DW.ofS{w:World}{base:Nat}{S:Nat→Prop}{v:Value}{ds:List Dc}(h:DOwnS w base S v ds)(hS:∀b,S b→b<w.heap.size):DW w v ds:=by
 obtain⟨c,e,f,d⟩:=h.ex;exact⟨base,c,e,f,fun i a b=>wS (d i a b) hS⟩
theorem DW.pre{w:World}{A:Option Addr}{n j c:Nat}{ds:List Dc}(h:DW w (.slice A n c) ds)(hn:ds.length=n)(hj:j≤n):DW w (.slice A j c) (ds.take j):=by
 obtain⟨e,d,p,k,g⟩:=h.ex
 have l:∀v∈d,v.length=3:=fun v o=>by
  obtain⟨i,m,rfl⟩:=zu.1 o;exact(g i jo m).len
 have f:(ds.take j).length=j:=jw;refine⟨e,d.take j,by rw[zK,f];omega,?_,fun i a b=>?_⟩
 ·rw[f,oU l];rw[hn]at k;exact CX k hj
 rw[List.getElem_take,List.getElem_take];exact g i (by rw[f]at a;omega) (by rw[zK]at b;omega)
theorem NH(m:M)(y:Rz):NoS (rmC m y):=fun o s t b c=>by
 rcases zj o 12 with ho|ho
 ·rcases(by omega:o=0∨o=1∨o=2∨o=3∨o=4∨o=5∨o=6∨o=7∨o=8∨o=9∨o=10∨o=11)with rfl|rfl|rfl|rfl|rfl|rfl|rfl|rfl|rfl|rfl|rfl|rfl<;>cases b
 rw[zp (by simpa[rmC]using ho)]at b
 cases b
structure AnsO (w:World) (cs:Array Value) (a:Ans):Prop where
 ex:∃v1 v2 v3,cs=rsC a.E a.seq a.fl v1 v2 v3 a.ev a.nx a.nw a.ak∧DW w v1 a.docs∧(∃base,w.ownsRow base 91 2 v2 a.bk.length (bkC a.bk))∧∃base,w.ownsRow base 5 1 v3 a.cur.length (bv a.cur)
 few:a.docs.length≤1048576∧a.bk.length≤1048576∧a.cur.length≤1048576
theorem wU(w:World):DW w nil []:=⟨0,[],rfl,vO _ _ _ _,fun i h=>absurd h (by simp)⟩
section
variable {w w':World} {cs:Array Value} {a:Ans}
theorem iq(w:World)(e s f v n u k:Int):AnsO w (rsC e s f nil nil nil v n u k) ⟨e,s,f,[],[],[],v,n,u,k⟩:=
 ⟨⟨nil,nil,nil,rfl,wU w,⟨0,vO _ _ _ _⟩,0,vO _ _ _ _⟩,zS _,zS _,zS _⟩
theorem AnsO.below(h:AnsO w cs a)(hb:zWW w w'):AnsO w' cs a:=by
 obtain⟨⟨k,b,c,e,i,⟨d,g⟩,l,f⟩,j⟩:=h;exact⟨⟨k,b,c,e,i.below hb,⟨d,g.kept (fH hb none) (by cases hv:b.ownBlock<;>simp)⟩,l,f.kept (fH hb none) (by cases hv:c.ownBlock<;>simp)⟩,j⟩
theorem AnsO.at_(h:AnsO w cs a):AnsAt w cs a:=by
 obtain⟨⟨q,o,p,e,j,⟨n,i⟩,r,g⟩,b⟩:=h;obtain⟨A,c,rfl,l⟩:=j.at_;obtain⟨B,d,rfl,k,_⟩:=Ev.fP i;obtain⟨C,f,rfl,m,_⟩:=Ev.fP g;exact⟨A,_,c,B,_,d,C,_,f,e,l,b.1,k,rfl,b.2.1,m,rfl,b.2.2⟩
theorem AnsO.row{g:Nat}{T:TypeId}{old:Array Value}(h:AnsO w cs a)(hg:Blk w g T old)(hT:48≠T∧91≠T∧5≠T)(hn:NoS old)(cs':Array Value):AnsO (w.setRow g cs') cs a:=by
 obtain⟨⟨n,j,k,e,l,⟨i,f⟩,o,d⟩,m⟩:=h
 exact⟨⟨n,j,k,e,l.keep hg hT.1 hn jz (fun b c=>vL w g b cs' c),⟨i,gz f (fun b c=>vL w g b cs' (fun e=>by subst e;exact hT.2.1 ((fO f c).one ⟨_,_,hg⟩)))⟩,
  o,gz d (fun b c=>vL w g b cs' (fun e=>by subst e;exact hT.2.2 ((fO d c).one ⟨_,_,hg⟩)))⟩,m⟩
theorem AnsO.ten(h:AnsO w cs a):Ten cs:=by
 obtain⟨⟨n,j,k,rfl,g,⟨i,e⟩,o,b⟩,m⟩:=h;obtain⟨A,c,rfl,p⟩:=g.at_;obtain⟨B,d,rfl,l,_⟩:=Ev.fP e;obtain⟨C,f,rfl,q,_⟩:=Ev.fP b;exact Md.ten ..
end
end Md

namespace Md
open Go.RowKit Ut Tk Qy Qp Ev Cu
theorem Ca:∀(out:List Dc) (a:Int),a≤gU a out∧(∀d∈out,d.seq≤gU a out)∧∀b,a≤b→(∀d∈out,d.seq≤b)→gU a out≤b
 | [],a=>⟨Int.le_refl _,fun d hd=>(nomatch hd),fun b c _=>c⟩
 | x::out,a=>by
  obtain⟨i,h,g⟩:=Ca out (max a x.seq);have e:gU a (x::out)=gU (max a x.seq) out:=rfl;rw[e];refine⟨jo,fun d hd=>?_,fun b c f=>g b (by have:=f x jz;omega) (fun d hd=>f d (by simp[hd]))⟩;rcases List.mem_cons.1 hd with rfl|hd
  ·omega
  exact h d hd
structure FolOk (a k l:Int) (p:List Dc × Int):Prop where
 len:(p.1.length:Int)≤l
 low:∀d∈p.1,a<d.seq∧d.seq≤p.2
 up:p.1.Pairwise (fun x y=>x.seq<y.seq)
 ge:a≤p.2
 le:p.2≤max a k
theorem NL{a k l:Int}{U:List Dc}(hl:1≤l)(hU:U.Pairwise (fun x y=>x.seq<y.seq)):FolOk a k l (gV a k l U):=by
 unfold gV;rw[zH jo]
 have c:∀d∈iY a k l U,a<d.seq∧d.seq≤k:=fun d b=>by
  have g:=(List.mem_filter.1 (List.mem_of_mem_take b)).2
  simpa using g
 obtain⟨h,e,f⟩:=Ca (iY a k l U) a;refine⟨?_,fun d b=>⟨(c d b).1,?_⟩,?_,?_,?_⟩
 ·show ((iY a k l U).length:Int)≤l;unfold iY;rw[zK];omega
 ·show d.seq≤if((iY a k l U).length:Int)<l then max a k else gU a (iY a k l U)
  split
  ·have:=(c d b).2;omega
  exact e d b
 ·exact((hU.filter _).sublist (List.take_sublist _ _))
 ·show a≤if((iY a k l U).length:Int)<l then max a k else gU a (iY a k l U)
  split
  ·omega
  exact h
 show (if((iY a k l U).length:Int)<l then max a k else gU a (iY a k l U))≤max a k
 split
 ·exact Int.le_refl _
 exact f _ jo (fun d b=>by have:=(c d b).2;omega)
theorem Nt{m:M}(h:Ok m)(p:Dc→Bool):(upL m p).Pairwise (fun x y=>x.seq<y.seq):=(wm h).filter _
theorem Cb{a:Int}{q:ByteArray}(h:IsC a q):fE a q=0:=by unfold fE;rw[zI h]
theorem Bs{w:World}{base:Nat}{e:TypeId}{size n c:Nat}{A:Option Addr}{xs:List Value}(h:w.ownsRow base e size (.slice A n c) n xs):n≤c∧(A=none→c=0):=by
 obtain⟨d,f,e,_,a,b,_⟩:=Ev.fP h
 cases e;exact⟨a,b⟩
structure StepsAt (w:World) (A:Option Addr) (n c:Nat) (L:List Rq):Prop where
 ln:L.length=n
 few:n≤4398046511104
 ex:∀i (h:i<L.length),∃b o z,A=some ⟨b,o,none⟩∧b<w.heap.size∧(∀j u,(rqC L[i] z)[j]?=some u→w.cell? ⟨b,o+i*12+j,none⟩=some u)∧RqAt w L[i] z
structure StepsT (w:World) (A:Option Addr) (n:Nat) (T:List Bool):Prop where
 ln:T.length=n
 ex:∀i (h:i<T.length),∃b o,A=some ⟨b,o,none⟩∧b<w.heap.size∧w.cell? ⟨b,o+i*12+11,none⟩=some (.bool T[i])
theorem StepsAt.below{w w':World}{A:Option Addr}{n c:Nat}{L:List Rq}(h:StepsAt w A n c L)(hb:zWW w w'):StepsAt w' A n c L:=⟨h.ln,h.few,fun i f=>by
 obtain⟨b,o,z,e,a,d,k⟩:=h.ex i f
 exact⟨b,o,z,e,zT a hb.size,fun j u g=>(hb.cell (p:=⟨b,o+i*12+j,none⟩) a).trans (d j u g),k.below hb⟩⟩
theorem chg_own{n0 X K base k n:Nat}{v u:Value}{m:M}{w w':World}{T:TypeId}{xs:List Value}(h:Chg (fun b=>b=X∨v.ownBlock=some b) w w')(hA:At w n0 X K v m)(ho:w.ownsRow base T k u n xs)(h1:T≠81)(h2:T≠48):w'.ownsRow base T k u n xs:=
 gz ho (fun b a=>h.block b (fO ho a).lt (fun hk=>by
  rcases hk with rfl|hk
  ·exact h1 ((fO ho a).one ⟨_,_,hA.blk⟩)
  obtain⟨c,_,d,_⟩:=hA.own.ex
  exact h2 ((fO ho a).one (fO d hk))))
end Md

namespace Md
open Go.RowKit Ut Tk Qy Qp Ev Cu
open Hi (Bk bkC ofF OwnB)
theorem DW.ofD{w:World}{base:Nat}{v:Value}{ds:List Dc}(h:DOwn w base v ds):DW w v ds:=by
 obtain⟨c,f,e,d⟩:=h.ex;exact⟨base,c,f,e,fun i a b=>wS (d i a b) (fun b g=>g.2.lt)⟩
section
variable {w':World} {m m':M} {r:Rq} {base:Nat} {cs:Array Value}
end
def Far(S:Nat→Prop)(X:Nat)(v:Value):Prop:=∀b,S b→b≠X∧v.ownBlock≠some b
theorem RAt.chg{w w':World}{S:Nat→Prop}{K X:Nat}{m:M}{y:Rz}{v:Value}(h:RAt w S K m y)(hc:Chg (fun b=>b=X∨v.ownBlock=some b) w w')(hf:Far S X v):RAt w' S K m y:=
 h.same (fun b a=>⟨a,hc.block b (h.lt b a) (fun e=>e.elim (hf b a).1 (hf b a).2)⟩) (fun b a=>zT (h.lt b a) hc.size)
theorem DV{w:World}{n0 X K:Nat}{v:Value}{m:M}(h:At w n0 X K v m):∀b,v.ownBlock=some b→b<w.heap.size:=fun b a=>by
 obtain⟨c,_,d,_⟩:=h.own.ex;exact(fO d a).lt
theorem Far.step{S:Nat→Prop}{X:Nat}{v v':Value}{w:World}(h:Far S X v)(hS:∀b,S b→b<w.heap.size)(ho:OwnN w v v'):Far S X v':=fun b a=>⟨(h b a).1,fun e=>by
 rcases ho with ho|ho
 ·rw[ho]at e;exact(h b a).2 e
 have:=ho b e;have:=hS b a;omega⟩
theorem Far.new{S S':Nat→Prop}{X n:Nat}{v:Value}(h:Far S X v)(hX:X<n)(hv:∀b,v.ownBlock=some b→b<n)(hS:∀b,S' b→S b∨n≤b):Far S' X v:=fun b hb=>by
 rcases hS b hb with hb|hb
 ·exact h b hb
 exact⟨jo,fun e=>by have:=hv b e;omega⟩
theorem L9{w:World}{c:Cf}(h:okC c)(hr:c.retain≤9223372036854775807):RAt w (fun _=>False) 0 ⟨c,[],-9223372036854775808,-9223372036854775808,0⟩ ⟨none,0,0,none,0,0⟩:=
 ⟨.nil,zG _,fun _=>rfl,⟨[],.none_⟩,⟨zG _,zG _,fun _=>rfl⟩,⟨h,hr,fun i a=>absurd a jz,rN,rN,⟨by show (0:Int)≤0;decide,by show (0:Int)≤((0:Nat):Int);decide⟩⟩,zG _,fun b d=>d.elim⟩
end Md

namespace Md
open Go.RowKit Ut Tk Qy Ev Qp
theorem KF(t:Int)(F1 F2:Option Addr)(n c1 c2:Nat)(fs:List (ByteArray × ByteArray))(w:World)(h1:Reads w w.heap.size 2 F1 n (fJ fs))(h2:Reads w w.heap.size 2 F2 n (fJ fs))(hl:fs.length=n)(hn:n≤8796093021952) :
  Calls prog 56 #[.agg #[.int .i64 t,.slice F1 n c1],.agg #[.int .i64 t,.slice F2 n c2]] w fun e w'=>e=.returned (.bool true)∧zWW w w':=by
 have c:zWW w (w.alloc (.cells #[.int .i64 t,.slice F1 n c1] 46)):=zRR _;have a:zWW w ((w.alloc (.cells #[.int .i64 t,.slice F1 n c1] 46)).alloc (.cells #[.int .i64 t,.slice F2 n c2] 46)):=c.alloc c.size _;have h:=(Blk.new w 46 #[.int .i64 t,.slice F1 n c1]).alloc (.cells #[.int .i64 t,.slice F2 n c2] 46);have g:=Blk.new (w.alloc (.cells #[.int .i64 t,.slice F1 n c1] 46)) 46 #[.int .i64 t,.slice F2 n c2];have u:(w.alloc (.cells #[.int .i64 t,.slice F1 n c1] 46)).heap.size=w.heap.size+1:=jz;rw[u]at g;have N:w.heap.size+1<(World.heap ((w.alloc (.cells #[.int .i64 t,.slice F1 n c1] 46)).alloc (.cells #[.int .i64 t,.slice F2 n c2] 46))).size:=jz;have A:=zh (fS a h1);have D:=zh (fS a h2);have m:=zh h;have q:=zh g;have l:=zh a;have j:=zh hl;have C:(t==t)=true:=jz;have F:(t != t)=false:=jz;clear h1 h2 hl c a h g u;go_enter func56,ntmps56;go_wp2_with fail;generalize r:((w.alloc (.cells #[.int .i64 t,.slice F1 n c1] 46)).alloc (.cells #[.int .i64 t,.slice F2 n c2] 46))=G at *;clear r;go_loopw [5] (fun i wr=>∃k:Nat,k≤n∧i=.int .i64 k∧zWW G wr) (fun i _=>n-(intOf i).toNat)
 case atStart=>exact⟨0,zS _,rfl,zy _ _⟩
 obtain⟨k,M,rfl,b⟩:=hrel;have p:=(m.out.below b jo).cell 1;have o:=(q.out.below b jo).cell 1;simp at p o;by_cases d:k<n
 ·obtain⟨S,R,rfl,B,H,O⟩:=lq (fS b A.out) (k:=k) (by rw[j.out];exact d);obtain⟨J,P,rfl,z,L,I⟩:=lq (fS b D.out) (k:=k) (by rw[j.out];exact d);have v:(0:Int)≤(k:Int):=jo;have E:(k:Int)<(n:Int):=jo;have s:=zh b;generalize (fs[k]'(by rw[j.out];exact d))=f at *;obtain⟨x,y⟩:=f;clear b;go_wp2_with fail;go_quiet (fail);go_wp2;go_roundw
  case rel=>exact⟨k+1,jo,ju,lV s.out nq⟩
  simp[intOf];omega
 obtain rfl:k=n:=jo;have s:=zt l b;clear b;go_wp2;go_ret;exact⟨rfl,s.out⟩
theorem IY(A1 A2:Option Addr)(n c1 c2:Nat)(ds:List Dc)(w:World)(h1:DocsAt w w.heap.size A1 n ds)(h2:DocsAt w w.heap.size A2 n ds)(hn:n≤8796093021952) :
    Calls prog 21 #[.slice A1 n c1,.slice A2 n c2] w fun e w'=>e=.returned (.bool true)∧zWW w w':=by
  have Y:=zh h1;have H2:=zh h2;have r:=zh h1.ln;clear h1 h2;go_enter func21,ntmps21;go_wp2;go_loopw [5] (fun i wr=>∃k:Nat,k≤n∧i=.int .i64 k∧zWW w wr) (fun i _=>n-(intOf i).toNat)
  case atStart=>exact⟨0,zS _,rfl,zy _ _⟩
  obtain⟨k,hk,rfl,z⟩:=hrel;by_cases j:k<n
  · obtain⟨y,v,I,D,G,rfl,q,N,M,S,C,m,L,_,_⟩:=(Y.out.grow z).at_ (i:=k) (by rw[r.out];exact j);obtain⟨t,u,E,n2,H,rfl,o,P,O,U,A,l,_,_,_⟩:=(H2.out.grow z).at_ (i:=k) (by rw[r.out];exact j);rw[m]at l;subst l;have V:(0:Int)≤(k:Int):=jo;have aa:(k:Int)<(n:Int):=jo;have Z:Hid (∀b,zWW wr b→Calls prog 56 #[.agg #[.int .i64 (ds[k]'(by rw[r.out];exact j)).at_,.slice I D G],.agg #[.int .i64 (ds[k]'(by rw[r.out];exact j)).at_,.slice E D H]] b fun e w'=>e=.returned (.bool true)∧zWW b w'):=zh (fun b d=>KF _ I E D G H _ b (fS d C) (fS d A) m L);have J:=zh z;clear C A m z;generalize (ds[k]'(by rw[r.out];exact j)).seq=s at *;generalize (ds[k]'(by rw[r.out];exact j)).at_=a at *;have W:(s != s)=false:=jz
    have g:∀b,zWW wr b→b.cell? ⟨y,v+k*3,none⟩=some (.int .i64 s)∧b.cell? ⟨y,v+k*3+1,none⟩=some (.int .i64 a)∧b.cell? ⟨y,v+k*3+2,none⟩=some (.slice I D G) ∧
        b.cell? ⟨t,u+k*3,none⟩=some (.int .i64 s)∧b.cell? ⟨t,u+k*3+1,none⟩=some (.int .i64 a)∧b.cell? ⟨t,u+k*3+2,none⟩=some (.slice E D H):=fun b d=>
      ⟨(d.cell (p:=⟨y,v+k*3,none⟩) q).trans N,(d.cell (p:=⟨y,v+k*3+1,none⟩) q).trans M,(d.cell (p:=⟨y,v+k*3+2,none⟩) q).trans S,
       (d.cell (p:=⟨t,u+k*3,none⟩) o).trans P,(d.cell (p:=⟨t,u+k*3+1,none⟩) o).trans O,(d.cell (p:=⟨t,u+k*3+2,none⟩) o).trans U⟩
    have c:=zh g;clear g N M S P O U;go_wp2_with fail;refine iF (fF [(22,⟨Unit,fun _=>(.bool true),fun _ _=>True⟩)]) (fun b=>Below (World.heap wr).size wr b) (fun w1 T=>zWW w1 T) jk jk (fN (fun _ _ _ _ h=>h) (fQ)) (zy _ _).drew ?_
    iterate 22
      refine fG _ ?_ rfl jr jr (fun b d R=>?_) ?_;rotate_left
      · have B:=c.out b d;go_simp;all_goals with_reducible rfl
      try simp only[Act.put,zD,zE,zF]
    refine fo 23 _ rfl jr jr (fun b d R=>?_) (fun x=>?_)
    · refine fZ (f:=?_) (args:=?_) ?_ ?_;rotate_left 2
      · have B:=c.out b d;go_simp;all_goals first|with_reducible rfl|(refine⟨?_,?_⟩<;>with_reducible rfl)
      exact ia d (Z.out b d)
    obtain⟨⟩:=x;try simp only[Act.put,zD,zE,zF]
    iterate 2
      refine fG _ ?_ rfl jr jr (fun b d R=>?_) ?_;rotate_left
      · have B:=c.out b d;go_simp;all_goals with_reducible rfl
      try simp only[Act.put,zD,zE,zF]
    refine fW (fun T d X=>?_);have F:=zt J d;clear X d;go_wp2;go_roundw
    case rel=>exact⟨k+1,jo,ju,F.out⟩
    simp[intOf];omega
  obtain rfl:k=n:=jo;have J:=zh z;clear z;go_wp2;go_ret;exact⟨rfl,J.out⟩
end Md
end Go.Proofs.YtmomjpolkkbhnaaGreat
