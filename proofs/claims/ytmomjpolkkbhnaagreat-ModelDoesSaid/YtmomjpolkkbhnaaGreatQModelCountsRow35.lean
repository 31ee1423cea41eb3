/- Answers, plain; the document's model, as it lies in memory. (No walk.) -/
import Derived.Test.YtmomjpolkkbhnaaGreatQModelCountsRow33
set_option linter.unusedSimpArgs false
set_option linter.unusedVariables false
set_option maxRecDepth 20000
set_option maxHeartbeats 100000000
open Go.Proofs.Tryz
namespace Go.Proofs.YtmomjpolkkbhnaaGreat
namespace Md
open Go.RowKit Ut Tk Qy Qp Ev Cu
open Hi (Bk bkC ofF OwnB)
structure Ans where
 E:Int
 seq:Int
 fl:Int
 docs:List Dc
 bk:List Bk
 cur:List UInt8
 ev:Int
 nx:Int
 nw:Int
 ak:Int
abbrev an0(e s f:Int):Ans:=⟨e,s,f,[],[],[],0,0,0,0⟩
def AnsAt(w:World)(cs:Array Value)(a:Ans):Prop:=∃A n c B k d C l e,cs=rsC a.E a.seq a.fl (.slice A n c) (.slice B k d) (.slice C l e) a.ev a.nx a.nw a.ak∧DocsAt w w.heap.size A n a.docs∧n≤1048576 ∧
 Reads w w.heap.size 2 B k (bkC a.bk)∧a.bk.length=k∧k≤1048576∧Reads w w.heap.size 1 C l (bv a.cur)∧a.cur.length=l∧l≤1048576
theorem Kg(w:World)(e s f v n u k:Int):AnsAt w (rsC e s f nil nil nil v n u k) ⟨e,s,f,[],[],[],v,n,u,k⟩:=
 ⟨none,0,0,none,0,0,none,0,0,rfl,DocsAt.nil,jd,Reads.none_,rfl,jd,Reads.none_,rfl,jd⟩
theorem AnsAt.below{w w':World}{cs:Array Value}{a:Ans}(h:AnsAt w cs a)(hb:zWW w w'):AnsAt w' cs a:=by
 obtain⟨A,n,c,B,k,d,C,l,e,h1,h2,h3,h4,h5,h6,h7,h8⟩:=h;exact⟨A,n,c,B,k,d,C,l,e,h1,h2.grow hb,h3,(h4.below hb).more hb.size,h5,h6,(h7.below hb).more hb.size,h8⟩
theorem EK{w:World}{B k n j:Nat}{A:Option Addr}{xs:List Value}(h:Reads w B k A n xs)(hj:j≤n):Reads w B k A j (xs.take (j*k)):=by
 have hl:=h.1;refine⟨by rw[zK,hl];exact Nat.min_eq_left (Nat.mul_le_mul_right k hj),fun hp=>?_⟩;obtain⟨b,o,e,hb,hc⟩:=h.2 jo;refine⟨b,o,e,hb,fun i u hi=>hc i u ?_⟩;rw[List.getElem?_take]at hi
 split at hi
 ·exact hi
 cases hi
theorem l7{k:Nat}:∀ {vss:List (List Value)} (_:∀v∈vss,v.length=k) (j:Nat),(vss.take j).flatten=vss.flatten.take (j*k)
 | [],_,j=>by simp
 | v::vss,h,0=>by simp
 | v::vss,h,j+1=>by
  have hv:=h v jz;rw[zX,List.flatten_cons,l7 (fun x hx=>h x (by simp[hx])) j,List.flatten_cons,show (j+1)*k=k+j*k by rw[Nat.add_mul,Nat.one_mul,Nat.add_comm],List.take_append,hv];rw[zR (by omega:v.length≤k+j*k),Nat.add_sub_cancel_left]
theorem xY{w:World}{base:Nat}{A:Option Addr}{n c:Nat}{ds:List Dc}(h:DOwn w base (.slice A n c) ds)(hn:ds.length=n):DocsAt w w.heap.size A n ds:=by
 obtain⟨vss,h1,h2,h3⟩:=h.ex;obtain⟨A',c',e,hR,_⟩:=Ev.aP h2;injection e with e1 e2 e3;subst e1 e3;subst e2
 exact⟨rfl,vss,h1,hR,fun i a b=>by
  obtain⟨F,fn,fc,e,g1,g2⟩:=(h3 i a b).ex
  exact⟨F,fn,fc,e,g1.reads (fun b hb=>hb.2.lt),g2⟩⟩
def SeA(m:M)(r:Rq)(a:Ans):Prop:=∃E o,PrsR r.q.data.toList E o∧((E≠0∧a=an0 E 0 0)∨(E=0∧bz r.lim=false∧a=an0 1 0 0) ∨
 (∃q D,E=0∧o=some q∧bz r.lim=true∧ByT (upL m (inB r.frm r.til q)) D∧a={ an0 0 0 0 with docs:=D.take (min D.length r.lim.toNat) }))
def HgA(m:M)(r:Rq)(a:Ans):Prop:=∃E o,PrsR r.q.data.toList E o∧((E≠0∧a=an0 E 0 0)∨(E=0∧r.width<1∧a=an0 1 0 0) ∨
 (∃q D,E=0∧o=some q∧1≤r.width∧ByT (upL m (inB r.frm r.til q)) D∧((m.c.buckets<((ofF r.width (D.map (·.at_))).length:Nat)∧a=an0 241 0 0) ∨
  (((ofF r.width (D.map (·.at_))).length:Nat)≤m.c.buckets∧a={ an0 0 0 0 with bk:=ofF r.width (D.map (·.at_)) }))))
def OpA(r:Rq)(a:Ans):Prop:=∃E o,PrsR r.q.data.toList E o∧((E≠0∧a=an0 E 0 0)∨(E=0∧aG r.after r.q≠0∧a=an0 (aG r.after r.q) 0 0)∨(E=0∧aG r.after r.q=0∧a={ an0 0 0 0 with cur:=bF r.after r.q }))
def TlA(m:M)(r:Rq)(a:Ans):Prop:=∃x q E,DecR r.cur x q E∧((E≠0∧a=an0 E 0 0)∨(E=0∧bz r.lim=false∧a=an0 1 0 0) ∨
 (∃qq p,E=0∧bz r.lim=true∧PrsR q.data.toList 0 (some qq)∧p=bL x m.acked r.lim (upL m (fun d=>aC d.fs qq))∧((aG p.2 q≠0∧a=an0 (aG p.2 q) 0 0)∨(aG p.2 q=0∧a={ an0 0 0 0 with docs:=p.1,cur:=bF p.2 q }))))
def fO(m:M)(r:Rq):Ans:=
 if r.evs.length=0 then an0 1 0 0 else if m.c.batch<(r.evs.length:Nat)then an0 3 0 0 else if bI ((m.ds.length:Nat)+1) r.evs≠0 then an0 (bI ((m.ds.length:Nat)+1) r.evs) 0 0 else an0 0 ((m.ds.length:Nat)+1) 0
def lY(m:M):Ans:=if m.now=-9223372036854775808 then an0 271 0 0 else an0 0 0 (fG m)
def kP(m:M):Ans:=⟨0,0,m.floor,[],[],[],(upL m (fun _=>true)).length,(m.ds.length:Nat)+1,m.now,m.acked⟩
def AnsR(m:M)(r:Rq)(a:Ans):Prop:=
 (r.op=1∧a=fO m r)∨(r.op=2∧a=an0 0 0 0)∨(r.op=3∧a=an0 (gB m r.now) 0 0)∨((r.op=4∨r.op=5)∧a=an0 0 0 0)∨(r.op=6∧a=lY m)∨(r.op=7∧SeA m r a)∨(r.op=8∧HgA m r a)∨(r.op=9∧OpA r a)∨(r.op=10∧TlA m r a)∨(r.op=11∧a=kP m) ∨
 (¬(1≤r.op∧r.op≤11)∧a=an0 272 0 0)
def aQ(m:M)(r:Rq):M:=if r.op=1 then(ing m r).1 else if r.op=2 then { m with acked:=(m.ds.length:Nat) }else if r.op=3 then gm m r.now else if r.op=6 then gq m else m
theorem Jv{x y:Dc}(h1:ltD x y)(h2:ltD y x):x=y:=by
 unfold ltD at *;omega
theorem ByT.det{L D D':List Dc}(h:ByT L D)(h':ByT L D'):D=D':=
 (h.perm.trans h'.perm.symm).eq_of_pairwise (le:=ltD) (fun _ _ _ _=>Jv) h.up h'.up
theorem SeA.det{m:M}{r:Rq}{a a':Ans}(h:SeA m r a)(h':SeA m r a'):a=a':=by
 obtain⟨E,o,hp,h⟩:=h;obtain⟨E',o',hp',h'⟩:=h';obtain⟨rfl,rfl⟩:=hp.det hp';rcases h with⟨h1,h2⟩|⟨h1,h2,h3⟩|⟨q,D,h1,h2,h3,h4,h5⟩<;>rcases h' with⟨g1,g2⟩|⟨g1,g2,g3⟩|⟨q',D',g1,g2,g3,g4,g5⟩
 ·rw[h2,g2]
 ·exact absurd g1 h1
 ·exact absurd g1 h1
 ·exact absurd h1 g1
 ·rw[h3,g3]
 ·rw[h2]at g3;cases g3
 ·exact absurd h1 g1
 ·rw[g2]at h3;cases h3
 rw[h2]at g2
 cases g2;rw[h4.det g4]at h5;rw[h5,g5]
theorem HgA.det{m:M}{r:Rq}{a a':Ans}(h:HgA m r a)(h':HgA m r a'):a=a':=by
 obtain⟨E,o,hp,h⟩:=h;obtain⟨E',o',hp',h'⟩:=h';obtain⟨rfl,rfl⟩:=hp.det hp';rcases h with⟨h1,h2⟩|⟨h1,h2,h3⟩|⟨q,D,h1,h2,h3,h4,h5⟩<;>rcases h' with⟨g1,g2⟩|⟨g1,g2,g3⟩|⟨q',D',g1,g2,g3,g4,g5⟩
 ·rw[h2,g2]
 ·exact absurd g1 h1
 ·exact absurd g1 h1
 ·exact absurd h1 g1
 ·rw[h3,g3]
 ·omega
 ·exact absurd h1 g1
 ·omega
 rw[h2]at g2
 cases g2;rw[h4.det g4]at h5;rcases h5 with⟨h5,h6⟩|⟨h5,h6⟩<;>rcases g5 with⟨g5,g6⟩|⟨g5,g6⟩
 ·rw[h6,g6]
 ·omega
 ·omega
 rw[h6,g6]
theorem OpA.det{r:Rq}{a a':Ans}(h:OpA r a)(h':OpA r a'):a=a':=by
 obtain⟨E,o,hp,h⟩:=h;obtain⟨E',o',hp',h'⟩:=h';obtain⟨rfl,rfl⟩:=hp.det hp';rcases h with⟨h1,h2⟩|⟨h1,h2,h3⟩|⟨h1,h2,h3⟩<;>rcases h' with⟨g1,g2⟩|⟨g1,g2,g3⟩|⟨g1,g2,g3⟩<;>first|exact h2.trans g2.symm|exact h3.trans g3.symm|exact absurd g1 h1|exact absurd h1 g1|exact absurd g2 h2|exact absurd h2 g2
theorem TlA.det{m:M}{r:Rq}{a a':Ans}(h:TlA m r a)(h':TlA m r a'):a=a':=by
 obtain⟨x,q,E,hp,h⟩:=h;obtain⟨x',q',E',hp',h'⟩:=h';obtain⟨rfl,rfl,rfl⟩:=hp.det hp';rcases h with⟨h1,h2⟩|⟨h1,h2,h3⟩|⟨qq,p,h1,h2,h3,h4,h5⟩<;>rcases h' with⟨g1,g2⟩|⟨g1,g2,g3⟩|⟨qq',p',g1,g2,g3,g4,g5⟩
 ·rw[h2,g2]
 ·exact absurd g1 h1
 ·exact absurd g1 h1
 ·exact absurd h1 g1
 ·rw[h3,g3]
 ·rw[h2]at g2;cases g2
 ·exact absurd h1 g1
 ·rw[h2]at g2;cases g2
 obtain⟨_,e⟩:=h3.det g3
 cases e;subst h4 g4;rcases h5 with⟨h5,h6⟩|⟨h5,h6⟩<;>rcases g5 with⟨g5,g6⟩|⟨g5,g6⟩
 ·rw[h6,g6]
 ·exact absurd g5 h5
 ·exact absurd h5 g5
 rw[h6,g6]
theorem AnsR.det{m:M}{r:Rq}{a a':Ans}(h:AnsR m r a)(h':AnsR m r a'):a=a':=by
 rcases h with⟨e,h⟩|⟨e,h⟩|⟨e,h⟩|⟨e,h⟩|⟨e,h⟩|⟨e,h⟩|⟨e,h⟩|⟨e,h⟩|⟨e,h⟩|⟨e,h⟩|⟨e,h⟩ <;>
 rcases h' with⟨g,h'⟩|⟨g,h'⟩|⟨g,h'⟩|⟨g,h'⟩|⟨g,h'⟩|⟨g,h'⟩|⟨g,h'⟩|⟨g,h'⟩|⟨g,h'⟩|⟨g,h'⟩|⟨g,h'⟩ <;>
 first|(exfalso;omega)|exact h.trans h'.symm|exact h.det h'
theorem qZ(m:M)(p:Dc→Bool):(upL m p).length≤m.ds.length:=List.length_filter_le ..
theorem xZ(a k l:Int)(ds:List Dc):(bL a k l ds).1.length≤ds.length:=by
 unfold bL cm sel
 split
 ·exact zS _
 show (List.take _ _).length≤_;rw[zK];have:=List.length_filter_le (fun d:Dc=>decide (a<d.seq)&&decide (d.seq≤k)) ds;omega
theorem mO(a:Int)(q:ByteArray):(bF a q).length≤2000:=by
 by_cases h:IsC a q
 ·have e:bF a q=Cu.enc a.toNat q.data.toList:=by unfold bF;rw[zI h]
  rw[e,Cu.iG,aB];have:=h.short;omega
 unfold bF;rw[zH h];exact zS _
section
variable {w':World} {m m':M} {r:Rq} {base:Nat} {cs:Array Value}
end
structure Rz where
 A:Option Addr
 n:Nat
 c:Nat
 EA:Option Addr
 en:Nat
 ec:Nat
abbrev rmC(m:M)(z:Rz):Array Value:=#[.int .i64 m.c.size,.int .i64 m.c.age,.int .i64 m.c.retain,.int .i64 m.c.batch,.int .i64 m.c.buckets,.bool m.c.bt,.bool m.c.bb,.slice z.A z.n z.c,.int .i64 m.floor,.int .i64 m.now,.int .i64 m.acked,.slice z.EA z.en z.ec]
structure RAt (w:World) (S:Nat→Prop) (K:Nat) (m:M) (z:Rz):Prop where
 ds:DocsS w S S z.A z.n m.ds
 cap:z.n≤z.c
 nl:z.A=none→z.c=0
 en:∃es:List Int,ReadsS w S 1 z.EA z.en (es.map (Value.int .i64))
 ek:z.en≤K∧z.en≤z.ec∧(z.EA=none→z.ec=0)
 ok:Ok m
 few:m.ds.length≤K
 lt:∀b,S b→b<w.heap.size
section
variable {w w':World} {S S':Nat→Prop} {K K':Nat} {m:M} {z:Rz}
theorem RAt.same(h:RAt w S K m z)(hS:∀b,S b→S' b∧w'.heap[b]?=w.heap[b]?)(hl:∀b,S' b→b<w'.heap.size):RAt w' S' K m z:=by
 obtain⟨es,he⟩:=h.en;exact⟨h.ds.same hS hS,h.cap,h.nl,⟨es,he.same hS⟩,h.ek,h.ok,h.few,hl⟩
theorem RAt.below(h:RAt w S K m z)(hb:zWW w w'):RAt w' S K m z:=h.same (fun b hs=>⟨hs,hb.block b (h.lt b hs)⟩) (fun b hs=>zT (h.lt b hs) hb.size)
theorem RAt.mono(h:RAt w S K m z)(hS:∀b,S b→S' b)(hl:∀b,S' b→b<w.heap.size):RAt w S' K m z:=h.same (fun b hs=>⟨hS b hs,rfl⟩) hl
theorem RAt.more(h:RAt w S K m z)(hK:K≤K'):RAt w S K' m z:=⟨h.ds,h.cap,h.nl,h.en,⟨zY h.ek.1 hK,h.ek.2⟩,h.ok,zY h.few hK,h.lt⟩
theorem RAt.set{m':M}(h:RAt w S K m z)(hd:m'.ds=m.ds)(ok:Ok m'):RAt w S K m' z:=⟨by rw[hd];exact h.ds,h.cap,h.nl,h.en,h.ek,ok,by rw[hd];exact h.few,h.lt⟩
theorem RAt.docs(h:RAt w S K m z):DocsAt w w.heap.size z.A z.n m.ds:=by
 obtain⟨vss,h1,h2,h3⟩:=h.ds.ex
 exact⟨h.ds.ln,vss,h1,h2.reads h.lt,fun i a b=>by
  obtain⟨F,fn,fc,e,g1,g2⟩:=(h3 i a b).ex
  exact⟨F,fn,fc,e,g1.reads h.lt,g2⟩⟩
end
def up(S:Nat→Prop)(n:Nat)(w':World):Nat→Prop:=fun b=>S b∨(n≤b∧b<w'.heap.size)
theorem KT{S:Nat→Prop}{n:Nat}{w w':World}(h:∀b,S b→b<w.heap.size)(hs:w.heap.size≤w'.heap.size):∀b,up S n w' b→b<w'.heap.size:=fun b hb=>hb.elim (fun hb=>zT (h b hb) hs) (·.2)
theorem RAt.up{w w':World}{S:Nat→Prop}{K:Nat}{m:M}{z:Rz}(h:RAt w S K m z)(hb:zWW w w'):RAt w' (up S w.heap.size w') K m z:=(h.below hb).mono (fun b hs=>.inl hs) (KT h.lt hb.size)
end Md

namespace Md
open Go.RowKit Qy Ev Cu
theorem Jw{x y z:Dc}(h1:ltD x y)(h2:ltD y z):ltD x z:=by
 unfold ltD at *;omega
theorem Jy{x y:Dc}(h:¬ltD x y)(hs:x.seq≠y.seq):ltD y x:=by
 unfold ltD at *;omega
theorem Iq{L out:List Dc}{d:Dc}{k:Nat}(h:ByT L out)(hk:k≤out.length)(hlt:∀x∈out.drop k,ltD d x)(hge:∀x,out[k-1]?=some x→0<k→¬ltD d x)(hs:∀x∈L,x.seq<d.seq):ByT (L ++ [d]) (out.take k ++ [d]++out.drop k):=by
 have hm:∀x∈out,x.seq<d.seq:=fun x hx=>hs x (h.perm.mem_iff.1 hx)
 have hup:=h.up;have hto:=List.take_append_drop k out;rw[←hto]at hup;obtain⟨u1,u2,u3⟩:=List.pairwise_append.1 hup
 have hlow:∀x∈out.take k,ltD x d:=fun x hx=>by
  by_cases h0:k=0
  ·subst h0;simp at hx
  have hlt:k-1<out.length:=jo;have hl:=Jy (hge _ (zU hlt) jo) (by have:=hm _ (za hlt);omega);obtain⟨i,hi,rfl⟩:=zp.1 hx;rw[zK]at hi;rw[List.getElem_take];by_cases he:i=k-1
  ·subst he;exact hl
  exact Jw (List.pairwise_iff_getElem.1 h.up i (k-1) jo hlt jo) hl
 refine⟨?_,?_⟩
 ·have p1:(out.take k ++ [d]++out.drop k).Perm (out.take k++out.drop k ++ [d]):=by
   rw[List.append_assoc,List.append_assoc];exact(List.perm_append_comm (l₁:=[d])).append_left _
  rw[hto]at p1;exact p1.trans (h.perm.append_right _)
 rw[List.append_assoc,List.pairwise_append];refine⟨u1,List.pairwise_cons.2 ⟨hlt,u2⟩,fun a ha b hb=>?_⟩;rcases List.mem_cons.1 hb with rfl|hb
 ·exact hlow a ha
 exact u3 a ha b hb
theorem Ir:ByT [] []:=⟨.refl _,.nil⟩
def fg(m:M)(p:Dc→Bool)(a k:Int):List Dc:=m.ds.filter (fun d=>decide (m.floor≤d.at_)&&(decide (a<d.seq)&&(decide (d.seq≤k)&&p d)))
theorem Iu(m:M)(p:Dc→Bool)(a k:Int):sel a k (fg m p a k)=sel a k (upL m p):=by
 unfold sel fg upL;rw[List.filter_filter,List.filter_filter];refine List.filter_congr (fun d _=>?_)
 cases decide (a<d.seq)<;>cases decide (d.seq≤k)<;>cases decide (m.floor≤d.at_)<;>cases p d<;>rfl
theorem Iw(m:M)(p:Dc→Bool)(a k l:Int):bL a k l (fg m p a k)=bL a k l (upL m p):=by
 unfold bL cm;rw[Iu]
theorem Iy(m:M)(p:Dc→Bool)(a k:Int):(fg m p a k).length≤m.ds.length:=List.length_filter_le ..
end Md

namespace Md
open Go.RowKit Ut Tk Qy Qp Ev Cu
section
variable {P:Program} {o:Oper} {a:Act} {w:World} {R:Value→World→Prop}
theorem wR{w w':World}(h:w.grownBy w' none):zWW w w':=⟨h.os,h.tape,h.output,h.size,fun k hk=>h.block k hk (fun e=>nomatch e)⟩
theorem GF(w:World)(b o:Nat):w.setCells b o []=w:=by simp[World.setCells]
theorem rM(s x:Operand)(t:TypeId)(ho:o.op=.call { callee:=.builtin .append,args:=#[s,x],argTypes:=#[t,t] })
  (base:Nat) (e:TypeId) (i:TypeInfo) (z:Value) (size bytes:Nat) (ht:P.underlying t=some (.slice e)) (hi:P.info? e=some i) (hz:i.zero=some z)
  (hsize:i.size=size) (hby:i.bytes=bytes) (hzs:z.cells.size=size) (hsz:0<size)
  (g:Nat) (hs:a.eval s=.slice (some ⟨g,0,none⟩) 0 0) (hown:w.ownsRow base e size (.slice (some ⟨g,0,none⟩) 0 0) 0 [])
  {Bd:Nat} (A:Option Addr) (m c:Nat) (news:List Value) (hx:a.eval x=.slice A m c) (hR:Reads w Bd size A m news) (hnil:A=none→c=0) (h1:∀u∈news,u.oneCell'=true)
  (h63:m≤maxLen) (hbytes:m*bytes≤140737488355328) (hbase:base≤w.heap.size)
  (h:∀v' w',w'.ownsRow base e size v' m news→zWW w w'→R v' w'):bM P (fun w1 w2=>zWW w1 w2) w R ((execOp a.eval o).run P w):=by
 have hnl:m=0→news=[]:=fun h0=>List.eq_nil_of_length_eq_zero (by have:=hR.1;rw[h0]at this;omega)
 cases A with
 | none=>
  have hm:m=0:=by
   rcases Nat.eq_zero_or_pos m with h|h
   ·exact h
   obtain⟨b,o,e,_⟩:=hR.2 h
   cases e
  subst hm;obtain rfl:=hnil rfl;obtain rfl:=hnl rfl;have hr:=run_append_owned_none (P:=P) (w:=w) base t o.type e i size ht hi _ 0 [] hown;unfold execOp;simp only[ho,resolve,invoke,builtin,Sem.run_bind,Sem.run_pure,Result.andThen_ok,List.map_toArray,List.map_cons,List.map_nil,hs,hx,hr];exact⟨zw _ _,h _ w hown (zw _ _)⟩
 | some ad=>
  have hc:∀j u,news[j]?=some u→w.cell? (ad.add j)=some u:=fun j u hu=>by
   have hp:0<m:=by
    have:=(List.getElem?_eq_some_iff.1 hu).1;have:=hR.1;rcases Nat.eq_zero_or_pos m with h|h
    ·subst h;omega
    exact h
   obtain⟨b,o',e',_,hc⟩:=hR.2 hp;injection e' with e';subst e';rw[Addr.add_lit];exact hc j u hu
  rcases Nat.eq_zero_or_pos m with h0|hp
  ·subst h0;obtain rfl:=hnl rfl;subst hsize;have hr:=run_append_room_cells (P:=P) w t o.type e i ht hi g 0 0 0 ad 0 c [] jz hc h1 (zG 0) (fun j hj=>absurd hj jz) (fun j hj=>absurd hj jz);rw[GF]at hr;unfold execOp;simp only[ho,resolve,invoke,builtin,Sem.run_bind,Sem.run_pure,Result.andThen_ok,List.map_toArray,List.map_cons,List.map_nil,hs,hx,hr];exact⟨zw _ _,h _ w hown (zw _ _)⟩
  obtain⟨v',w',hr,h2,h3⟩:=run_append_arg_grows (P:=P) w t o.type e i z size bytes ht hi hz hsize hby hzs hsz ⟨g,0,none⟩ 0 0 [] jz (fun j u hu=>by simp at hu) ad m c news hR.1 hc jo (by rw[zf];exact h63) (by rw[zf];exact hbytes);unfold execOp;simp only[ho,resolve,invoke,builtin,Sem.run_bind,Sem.run_pure,Result.andThen_ok,List.map_toArray,List.map_cons,List.map_nil,hs,hx,hr];exact⟨wR h3,h v' w' (iD (by simpa using h2) hbase) (wR h3)⟩
end
theorem AA{P:Program}{ops:Array Oper}{rest:List Oper}{o:Oper}{a:Act}{w:World}{Q:Exit→Act→World→Prop}(hg:o.guard=none)
  (s x:Operand) (t:TypeId) (ho:o.op=.call { callee:=.builtin .append,args:=#[s,x],argTypes:=#[t,t] })
  (base:Nat) (e:TypeId) (i:TypeInfo) (z:Value) (size bytes:Nat) (ht:P.underlying t=some (.slice e)) (hi:P.info? e=some i) (hz:i.zero=some z)
  (hsize:i.size=size) (hby:i.bytes=bytes) (hzs:z.cells.size=size) (hsz:0<size)
  (v:Value) (n:Nat) (xs:List Value) (hs:a.eval s=v) (hown:w.ownsRow base e size v n xs)
  {Bd:Nat} (A:Option Addr) (m c:Nat) (news:List Value) (hx:a.eval x=.slice A m c) (hR:Reads w Bd size A m news) (hnil:A=none→c=0) (h1:∀u∈news,u.oneCell'=true)
  (h63:n+m≤maxLen) (hbytes:(n+m)*bytes≤140737488355328) (hbase:base≤w.heap.size)
  (h:∀v' w',w'.ownsRow base e size v' (n+m) (xs++news)→w.grownBy w' v.ownBlock→wpList P ops Q rest (a.put o.dst v') w'):wpList P ops Q (o::rest) a w:=by
 refine wpList_plain hg fun K hK'=>?_
 cases A with
 | none=>
  have hm:m=0:=by
   rcases Nat.eq_zero_or_pos m with h|h
   ·exact h
   obtain⟨b,o,e,_⟩:=hR.2 h
   cases e
  subst hm;obtain rfl:=hnil rfl;obtain rfl:news=[]:=List.eq_nil_of_length_eq_zero (by have:=hR.1;omega);have hr:=run_append_owned_none (P:=P) (w:=w) base t o.type e i size ht hi v n xs hown;unfold Oper.wp;simp[execOp,ho,resolve,invoke,builtin,hs,hx,hr,Result.andThen];exact hK' _ _ (h v w (by simpa using hown) (World.grownBy.refl w _))
 | some ad=>
  obtain⟨v',w',hr,h2,h3,_,_⟩:=run_append_own_at (P:=P) w base t o.type e i z size bytes ht hi hz hsize hby hzs hsz v n xs hown ad m c news hR.1 (fun j u hu=>by
   have hp:0<m:=by
    have:=(List.getElem?_eq_some_iff.1 hu).1;have:=hR.1;rcases Nat.eq_zero_or_pos m with h|h
    ·subst h;omega
    exact h
   obtain⟨b,o',e',_,hc⟩:=hR.2 hp;injection e' with e';subst e';rw[Addr.add_lit]
   exact hc j u hu) h1 h63 hbytes hbase
  unfold Oper.wp;simp[execOp,ho,resolve,invoke,builtin,hs,hx,hr,Result.andThen];exact hK' _ _ (h v' w' h2 h3)
theorem Jz{w:World}{B k n c p:Nat}{A:Option Addr}{xs:List Value}(h:Reads w B k A n xs)(hp:p≤n)(hc:n≤c):Reads w B k (if c=p then A else A.map (·.add (p*k))) (n-p) (xs.drop (p*k)):=by
 have hl:=h.1;refine⟨by rw[zP,hl,Nat.sub_mul],fun h0=>?_⟩;rw[zH jo];obtain⟨b,o,rfl,hb,hcl⟩:=h.2 jo;refine⟨b,o+p*k,?_,hb,fun j u hj=>?_⟩
 ·show some ((⟨b,o,none⟩:Addr).add (p*k))=_;rw[Addr.add_lit]
 rw[List.getElem?_drop]at hj;have:=hcl _ _ hj
 rwa[←Nat.add_assoc]at this
theorem EM{k:Nat}{vss:List (List Value)}(h:∀v∈vss,v.length=k)(j:Nat):(vss.drop j).flatten=vss.flatten.drop (j*k):=by
 have e1:=l7 h j;have e2:(vss.take j).flatten++(vss.drop j).flatten=vss.flatten:=by rw[←List.flatten_append,List.take_append_drop]
 by_cases hj:j≤vss.length
 ·have hl:∀(l:List (List Value)),(∀v∈l,v.length=k)→l.flatten.length=l.length*k:=by
   intro l
   induction l with
   | nil=>intro _;simp
   | cons v l ih=>
    intro hv;rw[List.flatten_cons,zJ,ih (fun x hx=>hv x (by simp[hx])),hv v jz,zV,Nat.add_mul,Nat.one_mul,Nat.add_comm]
  have h3:=hl (vss.take j) (fun v hv=>h v (List.mem_of_mem_take hv));rw[zK,Nat.min_eq_left hj]at h3;rw[←e2,←h3,List.drop_left]
 have h4:vss.drop j=[]:=List.drop_eq_nil_of_le jo;rw[h4,List.flatten_nil];have h5:vss.take j=vss:=zR jo;rw[h5]at e1;have h6:=zK (i:=j*k) (l:=vss.flatten);rw[←e1]at h6;exact(List.drop_eq_nil_of_le jo).symm
structure DOwnS (w:World) (base:Nat) (S:Nat→Prop) (v:Value) (ds:List Dc):Prop where
 ex:∃vss:List (List Value),vss.length=ds.length∧w.ownsRow base 48 3 v ds.length vss.flatten∧∀i (h:i<ds.length) (h':i<vss.length),DcS w S ds[i] vss[i]
section
variable {w w':World} {base:Nat} {S S':Nat→Prop} {v v':Value} {ds:List Dc}
theorem DOwnS.start(w:World)(base:Nat)(S:Nat→Prop):DOwnS w base S (.slice none 0 0) []:=⟨[],rfl,vM _ _ _ _,fun i h=>absurd h (by simp)⟩
theorem DOwnS.same(h:DOwnS w base S v ds)(hk:∀b,v.ownBlock=some b→w'.heap[b]?=w.heap[b]?)(hS:∀b,S b→S' b∧w'.heap[b]?=w.heap[b]?):DOwnS w' base S' v ds:=by
 obtain⟨vss,h1,h2,h3⟩:=h.ex;exact⟨vss,h1,cT h2 hk,fun i a b=>(h3 i a b).same hS⟩
theorem DOwnS.below(h:DOwnS w base S v ds)(hb:zWW w w')(hS:∀b,S b→b<w.heap.size):DOwnS w' base S v ds:=by
 obtain⟨vss,h1,h2,h3⟩:=h.ex;exact h.same (fun b hv=>hb.block b (aY h2 hv).lt) (fun b hb'=>⟨hb',hb.block b (hS b hb')⟩)
theorem DOwnS.mono{base':Nat}(h:DOwnS w base S v ds)(hb:base'≤base):DOwnS w base' S v ds:=by
 obtain⟨vss,h1,h2,h3⟩:=h.ex;exact⟨vss,h1,iD h2 hb,h3⟩
theorem DOwnS.read(h:DOwnS w base S v ds):∃A c,v=.slice A ds.length c∧DocsS w (fun b=>base≤b∧b<w.heap.size) S A ds.length ds∧ds.length≤c∧(A=none→c=0):=by
 obtain⟨vss,h1,h2,h3⟩:=h.ex;obtain⟨A,c,rfl,_,hc,hn,_⟩:=Ev.aP h2;exact⟨A,c,rfl,⟨rfl,vss,h1,(ReadsS.of_own h2).mono (fun b hb=>⟨hb.1,hb.2.1⟩),h3⟩,hc,hn⟩
theorem DOwnS.row{g:Nat}{cs:Array Value}(h:DOwnS w base S v ds)(hg:Blk w g 42 cs)(hS:∀b,S b→b≠g)(cs':Array Value):DOwnS (w.setRow g cs') base S v ds:=by
 obtain⟨vss,h1,h2,h3⟩:=h.ex;exact h.same (fun b hv=>vJ w g b cs' (fun e=>by subst e;exact absurd ((aY h2 hv).one ⟨_,_,hg⟩) jd)) (fun b hb=>⟨hb,vJ w g b cs' (hS b hb)⟩)
theorem wS{R:Nat→Prop}{A:Option Addr}{n:Nat}(h:DocsS w R S A n ds)(hR:∀b,R b→b<w.heap.size)(hS:∀b,S b→b<w.heap.size):DocsAt w w.heap.size A n ds:=by
 obtain⟨vss,h1,h2,h3⟩:=h.ex
 exact⟨h.ln,vss,h1,h2.reads hR,fun i a b=>by
  obtain⟨F,fn,fc,e,g1,g2⟩:=(h3 i a b).ex
  exact⟨F,fn,fc,e,g1.reads hS,g2⟩⟩
theorem uh{vss:List (List Value)}{d:Dc}{u:List Value}{k:Nat}(h1:vss.length=ds.length)(h3:∀i (h:i<ds.length) (h':i<vss.length),DcS w S ds[i] vss[i])(hd:DcS w S d u)(hk:k≤ds.length)
  (hp:w'.ownsRow base 48 3 v' (ds.length+1) ((vss.take k).flatten++u++(vss.drop k).flatten)) (hS:∀b,S b→w'.heap[b]?=w.heap[b]?):DOwnS w' base S v' (ds.take k ++ [d]++ds.drop k):=by
 have hl:(ds.take k ++ [d]++ds.drop k).length=ds.length+1:=jm;refine⟨vss.take k ++ [u]++vss.drop k,jm,?_,fun i a b=>?_⟩
 ·rw[hl];simpa using hp
 refine DcS.same ?_ (fun b hb=>⟨hb,hS b hb⟩);by_cases hi:i<k
 ·have e1:(ds.take k ++ [d]++ds.drop k)[i]=ds[i]'jo:=by
   rw[zi jm,zi jm,List.getElem_take]
  have e2:(vss.take k ++ [u]++vss.drop k)[i]=vss[i]'jo:=by
   rw[zi jm,zi jm,List.getElem_take]
  rw[e1,e2];exact h3 i jo jo
 by_cases hi2:i=k
 ·subst hi2
  have e1:(ds.take i ++ [d]++ds.drop i)[i]=d:=by
   rw[zi jm,zl jm];simp[zK,Nat.min_eq_left hk]
  have e2:(vss.take i ++ [u]++vss.drop i)[i]=u:=by
   rw[zi jm,zl jm];simp[zK,h1,Nat.min_eq_left hk]
  rw[e1,e2];exact hd
 have e1:(ds.take k ++ [d]++ds.drop k)[i]=ds[i-1]'jo:=by
  rw[zl jm,List.getElem_drop];congr 1;simp;omega
 have e2:(vss.take k ++ [u]++vss.drop k)[i]=vss[i-1]'jo:=by
  rw[zl jm,List.getElem_drop];congr 1;simp;omega
 rw[e1,e2];exact h3 (i-1) jo jo
end
end Md

namespace Md
open Go.RowKit Ut Tk Qy Qp Ev Cu
theorem fS(e:Int)(w:World):Calls prog 48 #[.int .i64 e] w fun r w'=>r=.returned (bad e)∧zWW w w':=by
 have hb:zWW w (w.alloc (.cells (rsC e 0 0 nil nil nil 0 0 0 0) 42)):=zRR _;have H:=zh (And.intro (Blk.new w 42 (rsC e 0 0 nil nil nil 0 0 0 0)) hb);clear hb;go_enter func48,ntmps48;go_wp2_with fail;refine zu (aA rfl rfl (zr _ w.heap.size 42 42 (rsC e 0 0 nil nil nil 0 0 0 0) (0,0) _ H.out.1 underlying42 rfl jk)) rfl ⟨rfl,H.out.2⟩
theorem tZ(n:Int)(w:World):Calls prog 84 #[.int .i64 n] w fun r w'=>r=.returned (.bool (bz n))∧w=w':=by
 have e:bz n=(decide (1≤n)&&decide (n≤10000)):=rfl;rw[e];clear e;by_cases h1:1≤n
 ·by_cases h2:n≤10000
  ·rw[zO h1,zO h2];go_enter func84,ntmps84;go_wp2;go_ret;exact⟨rfl,rfl⟩
  rw[zO h1,zN h2];go_enter func84,ntmps84;go_wp2;go_ret;exact⟨rfl,rfl⟩
 rw[zN h1];go_enter func84,ntmps84;go_wp2;go_ret;exact⟨rfl,rfl⟩
theorem I6(c:Cf)(w:World):Calls prog 45 #[c.v] w fun e w'=>e=.returned (.bool (decide (okC c)))∧zWW w w':=by
 have HX:=zh (Blk.new w 25 #[.int .i64 c.size,.int .i64 c.age,.int .i64 c.retain,.int .i64 c.batch,.int .i64 c.buckets,.bool c.bt,.bool c.bb]);have HB:=zh ((zw w.heap.size w).alloc (zG _) (.cells #[.int .i64 c.size,.int .i64 c.age,.int .i64 c.retain,.int .i64 c.batch,.int .i64 c.buckets,.bool c.bt,.bool c.bb] 25));show Calls prog 45 #[.agg #[.int .i64 c.size,.int .i64 c.age,.int .i64 c.retain,.int .i64 c.batch,.int .i64 c.buckets,.bool c.bt,.bool c.bb]] w _
 have hd:∀b:Bool,(b=true↔okC c)→b=decide (okC c):=fun b h=>by
  by_cases hk:okC c
  ·rw[zO hk,h.2 hk]
  rw[zN hk];exact Bool.eq_false_iff.2 (fun e=>hk (h.1 e))
 go_enter func45,ntmps45
 go_upto_region 1 with(fail);generalize w.alloc (.cells #[.int .i64 c.size,.int .i64 c.age,.int .i64 c.retain,.int .i64 c.batch,.int .i64 c.buckets,.bool c.bt,.bool c.bb] 25)=w1 at *;have k0:=HX.out.cell 0;have k1:=HX.out.cell 1;have k2:=HX.out.cell 2;have k3:=HX.out.cell 3;have k4:=HX.out.cell 4;simp only[zA,zB,zC]at k0 k1 k2 k3 k4;obtain⟨sz,ag,rt,bt,bu,b1,b2⟩:=c;simp only at *;go_wp2;all_goals go_ret
 all_goals(refine⟨?_,HB.out⟩;refine congrArg (fun b:Bool=>Ending.returned (.bool b)) (hd _ ?_);unfold okC;simp only[Bool.false_eq_true,false_iff,true_iff,zd];try omega)
abbrev zmC:Array Value:=#[.int .i64 0,.int .i64 0,.int .i64 0,.int .i64 0,.int .i64 0,.bool false,.bool false,nil,.int .i64 0,.int .i64 0,.int .i64 0,nil]
theorem CZ(c:Cf)(w:World):Calls prog 46 #[c.v] w fun e w'=>e=.returned (.agg (rmC (⟨c,[],-9223372036854775808,-9223372036854775808,0⟩:M) (⟨none,0,0,none,0,0⟩:Rz)))∧zWW w w':=by
 have hx:=(Blk.new w 25 #[.int .i64 c.size,.int .i64 c.age,.int .i64 c.retain,.int .i64 c.batch,.int .i64 c.buckets,.bool c.bt,.bool c.bb]).alloc (.cells (rmC (⟨c,[],-9223372036854775808,-9223372036854775808,0⟩:M) (⟨none,0,0,none,0,0⟩:Rz)) 29);have hm:=Blk.new (w.alloc (.cells #[.int .i64 c.size,.int .i64 c.age,.int .i64 c.retain,.int .i64 c.batch,.int .i64 c.buckets,.bool c.bt,.bool c.bb] 25)) 29 (rmC (⟨c,[],-9223372036854775808,-9223372036854775808,0⟩:M) (⟨none,0,0,none,0,0⟩:Rz));have z1:(w.alloc (.cells #[.int .i64 c.size,.int .i64 c.age,.int .i64 c.retain,.int .i64 c.batch,.int .i64 c.buckets,.bool c.bt,.bool c.bb] 25)).heap.size=w.heap.size+1:=jz;rw[z1]at hm;have HX:=zh (Blk.new w 25 #[.int .i64 c.size,.int .i64 c.age,.int .i64 c.retain,.int .i64 c.batch,.int .i64 c.buckets,.bool c.bt,.bool c.bb]);have HM:=zh hm;have HB:=zh (((zw w.heap.size w).alloc (zG _) (.cells #[.int .i64 c.size,.int .i64 c.age,.int .i64 c.retain,.int .i64 c.batch,.int .i64 c.buckets,.bool c.bt,.bool c.bb] 25)).alloc jz (.cells (rmC (⟨c,[],-9223372036854775808,-9223372036854775808,0⟩:M) (⟨none,0,0,none,0,0⟩:Rz)) 29));show Calls prog 46 #[.agg #[.int .i64 c.size,.int .i64 c.age,.int .i64 c.retain,.int .i64 c.batch,.int .i64 c.buckets,.bool c.bt,.bool c.bb]] w _;clear hx hm z1;go_enter func46,ntmps46;go_wp2_with fail;refine zu (aA rfl rfl (zr _ (w.heap.size+1) 29 29 _ (0,0) _ HM.out underlying29 rfl jk)) rfl ⟨rfl,HB.out⟩
end Md

namespace Md
open Go.RowKit Ut Tk Qy Qp Ev Cu
theorem tj{fn:Func}{p u:Tmp}{ty:TypeId}(h:fn.results=#[.cell p ty,.tmp u]){tmps:Array Value}{P:Program}{w:World}{a:Addr}{v:Value}(ha:tmps.getD p undef=.pointer (some a))(hl:(loadVar ty a).run P w=.ok v w) :
  (results fn tmps).run P w=.ok (.tuple #[v,tmps.getD u undef]) w:=by
 rw[results_cell_tmp h,ha];have:(asAddr (.pointer (some a))).run P w=.ok a w:=rfl;rw[this];simp only[Result.andThen_ok];rw[hl];rfl
def nT(c:Cf)(w:World)(e:Ending)(w':World):Prop:=zWW w w'∧((okC c∧e=.returned (.tuple #[.agg (rmC (⟨c,[],-9223372036854775808,-9223372036854775808,0⟩:M) (⟨none,0,0,none,0,0⟩:Rz)),.int .i64 0]))∨(¬okC c∧e=.returned (.tuple #[.agg zmC,.int .i64 270])))
theorem tv(c:Cf)(w:World):Calls prog 17 #[c.v] w (nT c w):=by
 have hx:=(Blk.new w 25 #[.int .i64 c.size,.int .i64 c.age,.int .i64 c.retain,.int .i64 c.batch,.int .i64 c.buckets,.bool c.bt,.bool c.bb]).alloc (.cells zmC 29);have hm:=Blk.new (w.alloc (.cells #[.int .i64 c.size,.int .i64 c.age,.int .i64 c.retain,.int .i64 c.batch,.int .i64 c.buckets,.bool c.bt,.bool c.bb] 25)) 29 zmC;have z1:(w.alloc (.cells #[.int .i64 c.size,.int .i64 c.age,.int .i64 c.retain,.int .i64 c.batch,.int .i64 c.buckets,.bool c.bt,.bool c.bb] 25)).heap.size=w.heap.size+1:=jz;rw[z1]at hm;have HX:=zh hx;have HM:=zh hm;have HB:=zh (((zw w.heap.size w).alloc (zG _) (.cells #[.int .i64 c.size,.int .i64 c.age,.int .i64 c.retain,.int .i64 c.batch,.int .i64 c.buckets,.bool c.bt,.bool c.bb] 25)).alloc jz (.cells zmC 29));have CI:Hid (∀wx,Calls prog 45 #[.agg #[.int .i64 c.size,.int .i64 c.age,.int .i64 c.retain,.int .i64 c.batch,.int .i64 c.buckets,.bool c.bt,.bool c.bb]] wx fun e w'=>e=.returned (.bool (decide (okC c)))∧zWW wx w'):=zh (fun wx=>I6 c wx);have CN:Hid (∀wx,Calls prog 46 #[.agg #[.int .i64 c.size,.int .i64 c.age,.int .i64 c.retain,.int .i64 c.batch,.int .i64 c.buckets,.bool c.bt,.bool c.bb]] wx fun e w'=>e=.returned (.agg (rmC (⟨c,[],-9223372036854775808,-9223372036854775808,0⟩:M) (⟨none,0,0,none,0,0⟩:Rz)))∧zWW wx w'):=zh (fun wx=>CZ c wx);have HN:Hid (∀(e:Ending) (w':World),zWW w w'∧((okC c∧e=.returned (.tuple #[.agg (rmC (⟨c,[],-9223372036854775808,-9223372036854775808,0⟩:M) (⟨none,0,0,none,0,0⟩:Rz)),.int .i64 0]))∨(¬okC c∧e=.returned (.tuple #[.agg zmC,.int .i64 270])))→nT c w e w'):=zh (fun e w' h=>h);show Calls prog 17 #[.agg #[.int .i64 c.size,.int .i64 c.age,.int .i64 c.retain,.int .i64 c.batch,.int .i64 c.buckets,.bool c.bt,.bool c.bb]] w (nT c w);clear hx hm z1;go_enter func17,ntmps17
 go_upto_region 1 with(fail);generalize ((w.alloc (.cells #[.int .i64 c.size,.int .i64 c.age,.int .i64 c.retain,.int .i64 c.batch,.int .i64 c.buckets,.bool c.bt,.bool c.bb] 25)).alloc (.cells zmC 29))=w1 at *;have k0:=HX.out.cell 0;have k1:=HX.out.cell 1;have k2:=HX.out.cell 2;have k3:=HX.out.cell 3;have k4:=HX.out.cell 4;have k5:=HX.out.cell 5;have k6:=HX.out.cell 6;simp only[zA,zB,zC]at k0 k1 k2 k3 k4 k5 k6;go_wp2_with fail;refine(CI.out w1).mono ?_;rintro e w2 ⟨rfl,hb2⟩;have HB2:=zt HB hb2;have HX2:=zb HX hb2;have HM2:=zb HM hb2;clear hb2 HX HM HB CI k0 k1 k2 k3 k4 k5 k6;have k0:=HX2.out.cell 0;have k1:=HX2.out.cell 1;have k2:=HX2.out.cell 2;have k3:=HX2.out.cell 3;have k4:=HX2.out.cell 4;have k5:=HX2.out.cell 5;have k6:=HX2.out.cell 6;simp only[zA,zB,zC]at k0 k1 k2 k3 k4 k5 k6;by_cases hk:okC c
 ·have HK:=zh hk;rw[zO hk];clear hk;go_wp2_with fail;refine(CN.out w2).mono ?_;rintro e w3 ⟨rfl,hb3⟩;have HB3:=zt HB2 hb3;have HM3:=zb HM2 hb3;have HX4:=zh (zx _ (w.heap.size+1) _ (rmC (⟨c,[],-9223372036854775808,-9223372036854775808,0⟩:M) (⟨none,0,0,none,0,0⟩:Rz)) _ _ HM3.out);clear hb3 HX2 HM2 HB2 CN k0 k1 k2 k3 k4 k5 k6;go_wp2_with (refine zv (o:=⟨none,.store 29 _ _,_,_,_,_⟩) rfl 29 _ _ rfl (w.heap.size+1) (rmC (⟨c,[],-9223372036854775808,-9223372036854775808,0⟩:M) (⟨none,0,0,none,0,0⟩:Rz)) rfl rfl 29 zmC HM3.out jk rfl (by simp[rmC,zmC,Value.oneCell']) ?_);refine zu (tj rfl rfl (zr _ (w.heap.size+1) 29 29 (rmC (⟨c,[],-9223372036854775808,-9223372036854775808,0⟩:M) (⟨none,0,0,none,0,0⟩:Rz)) (0,0) _ HX4.out underlying29 rfl jk)) rfl ?_;exact HN.out _ _ ⟨zz HB3.out (zZ _) _,.inl ⟨HK.out,rfl⟩⟩
 have HK:=zh hk;rw[zN hk];have HX4:=zh (zx _ (w.heap.size+1) _ zmC _ _ HM2.out);clear hk HX2 CN k0 k1 k2 k3 k4 k5 k6;go_wp2_with (refine zv (o:=⟨none,.store 29 _ _,_,_,_,_⟩) rfl 29 _ _ rfl (w.heap.size+1) (zmC) rfl rfl 29 zmC HM2.out jk rfl (by simp[rmC,zmC,Value.oneCell']) ?_);refine zu (tj rfl rfl (zr _ (w.heap.size+1) 29 29 (zmC) (0,0) _ HX4.out underlying29 rfl jk)) rfl ?_;exact HN.out _ _ ⟨zz HB2.out (zZ _) _,.inr ⟨HK.out,rfl⟩⟩
def gz(m:M)(evs:List Evn):Int:=if evs.length=0 then 1 else if m.c.batch<(evs.length:Nat)then 3 else bI ((m.ds.length:Nat)+1) evs
section
variable {w:World} {S:Nat→Prop} {K:Nat} {m:M} {z:Rz}
theorem BI(h:RAt w S K m z)(hK:K≤60000)(A:Option Addr)(n c:Nat)(evs:List Evn)(hE:EvsAt w w.heap.size A n c evs) :
  Calls prog 82 #[.agg (rmC m z),.slice A n c] w fun e w'=>e=.returned (.int .i64 (gz m evs))∧zWW w w':=by
 have hb:zWW w (w.alloc (.cells (rmC m z) 29)):=zRR _;have HM:=zh (Blk.new w 29 (rmC m z));have HEV:=zh (hE.grow hb);have hen:=hE.ln;have HEL:=zh hen;have hzn:=h.ds.ln.symm;have hzn2:m.ds.length≤z.n:=jo;have hzn3:z.n≤m.ds.length:=jo;have hef:=hE.few;have hfew:=h.few;have hbt:=h.ok.c;unfold okC at hbt
 have HR:Hid (∀(e:Ending) (w':World),(e=.returned (.int .i64 (if n=0 then 1 else if m.c.batch<(n:Nat)then 3 else bI ((z.n:Nat)+1) evs))∧zWW w w')→(e=.returned (.int .i64 (gz m evs))∧zWW w w')):=zh (fun e w' h=>by
  unfold gz;rw[hen,←hzn]
  exact h)
 have HB:=zh hb;have hwr:IntKind.i64.wrap ((z.n:Int)+1)=(z.n:Int)+1:=by rw[IntKind.wrap_i64];omega
 clear h hE hb;refine Calls.mono ?_ HR.out;clear HR hzn;obtain⟨E,hE⟩:∃E,(if n=0 then(1:Int)else if m.c.batch<(n:Nat)then 3 else bI ((z.n:Nat)+1) evs)=E:=⟨_,rfl⟩;rw[hE];have HE:=zh hE;clear hE;go_enter func82,ntmps82
 go_upto_region 1 with(fail);generalize w.alloc (.cells (rmC m z) 29)=w1 at *;have k3:=HM.out.cell 3;have k7:=HM.out.cell 7;simp only[rmC,zA,zB,zC]at k3 k7;by_cases h0:n=0
 ·subst h0;obtain rfl:E=1:=by rw[←HE.out,zI rfl]
  go_wp2;go_ret;exact⟨rfl,HB.out⟩
 have hnb:((n:Int)==0)=false:=by rw[zM];omega
 by_cases h1:m.c.batch<(n:Int)
 ·obtain rfl:E=3:=by rw[←HE.out,zH h0,zI h1]
  go_wp2;go_ret;exact⟨rfl,HB.out⟩
 have hE2:bI ((z.n:Int)+1) evs=E:=by rw[←HE.out,zH h0,zH h1]
 have CC:=zh (z8 ((z.n:Int)+1) A n c evs w1 HEV.out);rw[hE2]at CC;clear hE2;go_wp2_with fail;refine CC.out.mono ?_;rintro e w2 ⟨rfl,hb2⟩;have HB2:=zt HB hb2;clear hb2 CC;go_wp2;go_ret;exact⟨rfl,HB2.out⟩
theorem Ca(h:RAt w S K m z):Calls prog 49 #[.agg (rmC m z)] w fun e w'=>e=.returned (.int .i64 (fG m))∧zWW w w':=by
 have hb:zWW w (w.alloc (.cells (rmC m z) 29)):=zRR _;have HM:=zh (Blk.new w 29 (rmC m z));have hbt:=h.ok.c;unfold okC at hbt;have hr:=h.ok.ret;have hn:=h.ok.nw;have hf:=h.ok.fl;unfold I64 at hn hf;have HB:=zh hb;clear h hb;have hw1:IntKind.i64.wrap (-9223372036854775808+m.c.retain)=-9223372036854775808+m.c.retain:=by rw[IntKind.wrap_i64];omega
 obtain⟨E,hE⟩:∃E,fG m=E:=⟨_,rfl⟩;rw[hE];unfold fG at hE;have HE:=zh hE;clear hE;go_enter func49,ntmps49
 go_upto_region 1 with(fail);generalize w.alloc (.cells (rmC m z) 29)=w1 at *;have k2:=HM.out.cell 2;have k8:=HM.out.cell 8;have k9:=HM.out.cell 9;simp only[rmC,zA,zB,zC]at k2 k8 k9;by_cases h1 : -9223372036854775808+m.c.retain≤m.now
 ·obtain rfl:E=max m.floor (m.now-m.c.retain):=by rw[←HE.out,zI h1]
  clear HE;have hw2:IntKind.i64.wrap (m.now-m.c.retain)=m.now-m.c.retain:=by rw[IntKind.wrap_i64];omega
  have hnl:¬(m.now < -9223372036854775808+m.c.retain):=jo;go_wp2;go_ret;exact⟨rfl,HB.out⟩
 obtain rfl:E=m.floor:=by rw[←HE.out,zH h1]
 clear HE;have hnl:m.now < -9223372036854775808+m.c.retain:=jo;go_wp2;go_ret;exact⟨rfl,HB.out⟩
end
abbrev dcC(d:Dc)(F:Option Addr)(n c:Nat):Array Value:=#[.int .i64 d.seq,.int .i64 d.at_,.slice F n c]
theorem EN(x y:Dc)(F G:Option Addr)(n1 c1 n2 c2:Nat)(w:World):Calls prog 119 #[.agg (dcC x F n1 c1),.agg (dcC y G n2 c2)] w fun e w'=>e=.returned (.bool (decide (ltD x y)))∧zWW w w':=by
 have hx:=(Blk.new w 48 (dcC x F n1 c1)).alloc (.cells (dcC y G n2 c2) 48);have hm:=Blk.new (w.alloc (.cells (dcC x F n1 c1) 48)) 48 (dcC y G n2 c2);have z1:(w.alloc (.cells (dcC x F n1 c1) 48)).heap.size=w.heap.size+1:=jz;rw[z1]at hm;obtain⟨b,hbd⟩:∃b,decide (ltD x y)=b:=⟨_,rfl⟩;rw[hbd];have HBD:=zh hbd;clear hbd;have HX:=zh hx;have HM:=zh hm;have HB:=zh (((zw w.heap.size w).alloc (zG _) (.cells (dcC x F n1 c1) 48)).alloc jz (.cells (dcC y G n2 c2) 48));clear hx hm z1;go_enter func119,ntmps119
 go_upto_region 1 with(fail);generalize ((w.alloc (.cells (dcC x F n1 c1) 48)).alloc (.cells (dcC y G n2 c2) 48))=w1 at *;have k0:=HX.out.cell 0;have k1:=HX.out.cell 1;simp only[dcC,zA,zB,zC]at k0 k1;have j0:=HM.out.cell 0;have j1:=HM.out.cell 1;simp only[dcC,zA,zB,zC]at j0 j1;unfold ltD at HBD;obtain⟨xs,xa,xf⟩:=x;obtain⟨ys,ya,yf⟩:=y;simp only at *;by_cases h1:xa<ya
 ·obtain rfl:b=true:=by rw[←HBD.out];simp[h1]
  go_wp2;go_ret;exact⟨rfl,HB.out⟩
 by_cases h2:xa=ya
 ·subst h2;have e2:(xa==xa)=true:=jz;by_cases h3:xs<ys
  ·obtain rfl:b=true:=by rw[←HBD.out];simp[h3]
   go_wp2;go_ret;exact⟨rfl,HB.out⟩
  obtain rfl:b=false:=by rw[←HBD.out];simp[h1,h3]
  go_wp2;go_ret;exact⟨rfl,HB.out⟩
 have e2:(xa==ya)=false:=by simpa using h2
 obtain rfl:b=false:=by rw[←HBD.out];simp[h1,h2]
 go_wp2;go_ret;exact⟨rfl,HB.out⟩
end Md
end Go.Proofs.YtmomjpolkkbhnaaGreat
