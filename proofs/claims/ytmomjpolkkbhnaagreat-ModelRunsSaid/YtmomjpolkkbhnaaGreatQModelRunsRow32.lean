/- Docs appended to docs; docs without fields. -/
import Derived.Test.YtmomjpolkkbhnaaGreatQModelRunsRow27
import Derived.Test.YtmomjpolkkbhnaaGreatQModelRunsRow15
set_option linter.unusedSimpArgs false
set_option linter.unusedVariables false
set_option maxRecDepth 20000
set_option maxHeartbeats 100000000
open Go.Proofs.Tryz
namespace Go.Proofs.YtmomjpolkkbhnaaGreat
namespace Cu
open Go.RowKit Qy Ph
section
variable {w wr w2:World} {v v':Value} {ds es:List Dc}
end
section
variable {P:Program} {o:Oper} {a:Act} {w:World} {R:Value→World→Prop}
end
structure Onc (w wr:World) (c:Int) (q:ByteArray) (v:Value) (told:List Dc):Prop where
 box:Blk wr w.heap.size 122 #[.int .i64 c,.string q]
 own:DocsOwn w wr v told
section
variable {w wr w2:World} {c b:Int} {q:ByteArray} {v v':Value} {told:List Dc}
theorem Onc.below(h:Onc w wr c q v told)(hb:zWW wr w2):Onc w w2 c q v told:=⟨h.box.below hb h.box.lt,h.own.below hb⟩
theorem Onc.drew(h:Onc w wr c q v told):Onc w wr.drew c q v told:=h.below (zy _ _).drew
theorem Onc.next(h:Onc w wr c q v told)(b:Int)(q':ByteArray):Onc w ((wr.setCell ⟨w.heap.size,0,none⟩ (.int .i64 b)).setCell ⟨w.heap.size,1,none⟩ (.string q')) b q' v told:=by
 have d:=h.box.set_ 0 (.int .i64 b);have e:=d.set_ 1 (.string q');exact⟨by simpa using e,qD (qD h.own h.box (zG _) 0 _) d (zG _) 1 _⟩
end
theorem yh{w:World}{B n:Nat}{A:Option Addr}{ds:List Dc}(h:DocsAt w B A n ds):∃vss:List (List Value),vss.length=ds.length∧Reads w B 3 A n vss.flatten∧(∀i (h:i<ds.length) (h':i<vss.length),DcV w B ds[i] vss[i])∧∀u∈vss.flatten,u.oneCell'=true:=by
 obtain⟨vss,j,g,f⟩:=h.ex;refine⟨vss,by rw[j,h.ln],g,f,fun u d=>?_⟩;obtain⟨l,m,d⟩:=List.mem_flatten.1 d;obtain⟨i,k,rfl⟩:=zu.1 m;obtain⟨F,r,p,e,_⟩:=f i (by rw[h.ln];omega) k;rw[e]at d;simp at d;rcases d with rfl|rfl|rfl<;>rfl
def stC(l:List (UInt8 × UInt8)):List Value:=l.flatMap fun s=>[.int .u8 (s.1.toNat:Int),.int .u8 (s.2.toNat:Int)]
theorem CQ:∀(l:List (UInt8 × UInt8)) (k:Nat) (h:k<l.length),(stC l)[k*2]?=some (.int .u8 (l[k].1.toNat:Int))∧(stC l)[k*2+1]?=some (.int .u8 (l[k].2.toNat:Int))
 | s::t,0,_=>⟨rfl,rfl⟩
 | s::t,k+1,h=>by
  have ih:=CQ t k (by simpa using h);have e:stC (s::t)=[.int .u8 (s.1.toNat:Int),.int .u8 (s.2.toNat:Int)]++stC t:=rfl;rw[e,List.getElem_cons_succ];constructor
  ·rw[show (k+1)*2=k*2+2 by omega,List.getElem?_append_right jz];exact ih.1
  rw[show (k+1)*2+1=k*2+1+2 by omega,List.getElem?_append_right jz];exact ih.2
theorem La(l:List (UInt8 × UInt8)):(stC l).length=l.length*2:=by
 induction l with
 | nil=>rfl
 | cons s t ih=>
  have e:stC (s::t)=[.int .u8 (s.1.toNat:Int),.int .u8 (s.2.toNat:Int)]++stC t:=rfl;rw[e,zJ,ih,zV];simp;omega
theorem CV{w:World}{B n:Nat}{A:Option Addr}{l:List (UInt8 × UInt8)}(h:Reads w B 2 A n (stC l)){k:Nat}(hk:k<l.length) :
  ∃b o,A=some ⟨b,o,none⟩∧b<B∧w.cell? ⟨b,o+k*2,none⟩=some (.int .u8 (l[k].1.toNat:Int))∧w.cell? ⟨b,o+k*2+1,none⟩=some (.int .u8 (l[k].2.toNat:Int)):=by
 have j:=h.1;rw[La]at j;obtain⟨b,o,e,i,d⟩:=h.2 jo;obtain⟨g,f⟩:=CQ l k hk;exact⟨b,o,e,i,d _ _ g,by rw[Nat.add_assoc];exact d _ _ f⟩
end Cu

namespace Md
open Go.RowKit Ut Tk Qy Qp Ev Ph
def ing(m:M)(r:Rq):M × Array Value:=
 if r.evs.length=0 then(m,rsC 1 0 0 nil nil nil 0 0 0 0)else if m.c.batch<(r.evs.length:Nat)then(m,rsC 3 0 0 nil nil nil 0 0 0 0)else if gQ ((m.ds.length:Nat)+1) r.evs≠0 then(m,rsC (gQ ((m.ds.length:Nat)+1) r.evs) 0 0 nil nil nil 0 0 0 0)else
  ({ m with ds:=m.ds++Ev.mkD ((m.ds.length:Nat)+1) r.evs,acked:=if r.dur then((m.ds.length+r.evs.length:Nat):Int)else m.acked },rsC 0 ((m.ds.length:Nat)+1) 0 nil nil nil 0 0 0 0)
theorem Lb{w w5:World}{base b2:Nat}{v v':Value}{ds D:List Dc}{vss vs2:List (List Value)}(g1:vss.length=ds.length)(g2:w.ownsRow base 48 3 v ds.length vss.flatten)(g3:∀i (h:i<ds.length) (h':i<vss.length),DcS w (Go.Proofs.YtmomjpolkkbhnaaGreat.Ev.Fd w base) ds[i] vss[i])
  (e1:vs2.length=D.length) (e3:∀i (h:i<D.length) (h':i<vs2.length),DcS w (Go.Proofs.YtmomjpolkkbhnaaGreat.Ev.Fd w b2) D[i] vs2[i]) (hb:base≤b2)
  (hp:w5.ownsRow base 48 3 v' (ds.length+D.length) (vss.flatten++vs2.flatten)) (hg:w.grownBy w5 v.ownBlock):DOwn w5 base v' (ds++D):=by
 have c:∀(B:Nat),base≤B→∀b,Go.Proofs.YtmomjpolkkbhnaaGreat.Ev.Fd w B b→Go.Proofs.YtmomjpolkkbhnaaGreat.Ev.Fd w5 base b∧w5.heap[b]?=w.heap[b]?:=fun B g b d=>by
  have e:w5.heap[b]?=w.heap[b]?:=hg.block b d.2.lt (fun e=>absurd ((fO g2 e.symm).one d.2) jd);exact⟨⟨zY g d.1,d.2.same e⟩,e⟩
 refine⟨vss++vs2,by simp[g1,e1],by rw[List.flatten_append,zJ];exact hp,fun i a b=>?_⟩;by_cases f:i<ds.length
 ·rw[zl f,zl jo];exact(g3 i f jo).same (c base (zG _))
 rw[zn jo,zn jo];have j:i-ds.length<D.length:=by simp at a;omega
 have:=(e3 (i-ds.length) j jo).same (c b2 hb)
 simpa[g1]using this
theorem ui{w:World}{S:Nat→Prop}{D:List Dc}{vs2:List (List Value)}(e1:vs2.length=D.length)(e3:∀i (h:i<D.length) (h':i<vs2.length),DcS w S D[i] vs2[i]):∀u∈vs2.flatten,u.oneCell'=true:=fun u d=>by
 obtain⟨l,f,b⟩:=List.mem_flatten.1 d;obtain⟨i,c,rfl⟩:=zu.1 f;obtain⟨F,j,g,e,_⟩:=(e3 i jo c).ex;rw[e]at b;simp only[List.mem_cons,List.mem_nil_iff,or_false]at b;rcases b with rfl|rfl|rfl<;>rfl
def OwnN(w:World)(v v':Value):Prop:=v'.ownBlock=v.ownBlock∨∀b,v'.ownBlock=some b→w.heap.size≤b
theorem OwnN.of{w0 w:World}{v v':Value}(h:OwnN w v v')(hs:w0.heap.size≤w.heap.size):OwnN w0 v v':=h.elim .inl (fun h=>.inr (fun b c=>zY hs (h b c)))
section
variable {P:Program} {o:Oper} {a:Act} {w:World} {R:Value→World→Prop}
theorem pM(s x:Operand)(t:TypeId)(ho:o.op=.call { callee:=.builtin .append,args:=#[s,x],argTypes:=#[t,t] })
  (base:Nat) (e:TypeId) (i:TypeInfo) (z:Value) (size bytes:Nat) (ht:P.underlying t=some (.slice e)) (hi:P.info? e=some i) (hz:i.zero=some z)
  (hsize:i.size=size) (hby:i.bytes=bytes) (hzs:z.cells.size=size) (hsz:0<size)
  (v:Value) (n:Nat) (xs:List Value) (hs:a.eval s=v) (hown:w.ownsRow base e size v n xs)
  {Bd:Nat} (A:Option Addr) (m c:Nat) (news:List Value) (hx:a.eval x=.slice A m c) (hR:Reads w Bd size A m news) (hnil:A=none→c=0) (h1:∀u∈news,u.oneCell'=true)
  (h63:n+m≤maxLen) (hbytes:(n+m)*bytes≤140737488355328) (hbase:base≤w.heap.size)
  (h:∀v' w',w'.ownsRow base e size v' (n+m) (xs++news)→w.grownBy w' v.ownBlock→OwnN w v v'→R v' w'):gT P Tr w R ((execOp a.eval o).run P w):=by
 cases A with
 | none=>
  have y:m=0:=by
   rcases Nat.eq_zero_or_pos m with h|h
   ·exact h
   obtain⟨b,o,e,_⟩:=hR.2 h
   cases e
  subst y;obtain rfl:=hnil rfl;obtain rfl:news=[]:=List.eq_nil_of_length_eq_zero (by have:=hR.1;omega);have k:=run_append_owned_none (P:=P) (w:=w) base t o.type e i size ht hi v n xs hown;unfold execOp;simp only[ho,resolve,invoke,builtin,Sem.run_bind,Sem.run_pure,Result.andThen_ok,List.map_toArray,List.map_cons,List.map_nil,hs,hx,k];exact⟨trivial,h v w (by simpa using hown) (World.grownBy.refl w _) (.inl rfl)⟩
 | some ad=>
  obtain⟨v',w',k,q,p,_,f⟩:=run_append_own_at (P:=P) w base t o.type e i z size bytes ht hi hz hsize hby hzs hsz v n xs hown ad m c news hR.1 (fun j u l=>by
   have r:0<m:=by
    have:=(List.getElem?_eq_some_iff.1 l).1;have:=hR.1;rcases Nat.eq_zero_or_pos m with h|h
    ·subst h;omega
    exact h
   obtain⟨b,C,g,_,B⟩:=hR.2 r;injection g with g;subst g;rw[Addr.add_lit]
   exact B j u l) h1 h63 hbytes hbase
  unfold execOp;simp only[ho,resolve,invoke,builtin,Sem.run_bind,Sem.run_pure,Result.andThen_ok,List.map_toArray,List.map_cons,List.map_nil,hs,hx,k];exact⟨trivial,h v' w' q p (f.elim .inl (fun f=>.inr (fun b d=>by rw[f]at d;injection d with d;omega)))⟩
end
def Dt(n0 X K:Nat)(v:Value)(m:M)(r:Rq)(w:World)(e:Ending)(w':World):Prop:=∃v',e=.returned (.agg (ing m r).2)∧At w' n0 X (K+64) v' (ing m r).1∧Chg (fun b=>b=X∨v.ownBlock=some b) w w'∧OwnN w v v'
theorem ru{m:M}(h:Ok m)(evs:List Evn)(hc:gQ ((m.ds.length:Nat)+1) evs=0)(ht:∀e∈evs,I64 e.1)(ak:Int)(hak:0≤ak∧ak≤((m.ds.length+evs.length:Nat):Int)):Ok { m with ds:=m.ds++Ev.mkD ((m.ds.length:Nat)+1) evs,acked:=ak }:=by
 refine⟨h.c,h.ret,fun i f=>?_,h.fl,h.nw,by simpa[ol]using hak⟩;by_cases d:i<m.ds.length
 ·simp only[zl d];exact h.doc i d
 have g:i<m.ds.length+evs.length:=by simpa[ol]using f
 have b:i-m.ds.length<evs.length:=jo;simp only[zn (by omega:m.ds.length≤i),Ev.mkD,List.getElem_mapIdx];refine⟨(rF hc).2.2.1 _ (za b),jo,ht _ (za b)⟩
section
variable {w:World} {n0 X K:Nat} {v:Value} {m:M}
theorem Fw(h:At w n0 X K v m)(hK:K≤60000)(r:Rq)(z:Rw)(hE:EvsAt w w.heap.size z.E z.en z.ec r.evs)(ht:∀e∈r.evs,I64 e.1)(hn0X:n0≤X) :
  Calls prog 28 #[.pointer (some ⟨X,0,none⟩),.agg (rqC r z)] w (Dt n0 X K v m r w):=by
 obtain⟨i0,bf,bh,bk,a7⟩:=info_parts Ev.lU;obtain⟨U,W,hv,_,_,_⟩:=h.docs;subst hv;have hb:zWW w ((w.alloc (.cells (rqC r z) 37)).alloc (.cells rs0 42)):=(zRR _).alloc jz _;have hq:=(Blk.new w 37 (rqC r z)).alloc (.cells rs0 42);have hr:=Blk.new (w.alloc (.cells (rqC r z) 37)) 42 rs0;have z1:(w.alloc (.cells (rqC r z) 37)).heap.size=w.heap.size+1:=jz;rw[z1]at hr;have H1:=zh (h.below hb);have HQ:=zh hq;have HR:=zh hr;have HB:=zh hb;have br:w.heap.size+2≤(World.heap ((w.alloc (.cells (rqC r z) 37)).alloc (.cells rs0 42))).size:=jz;have bu:=h.blk.lt;have a1:Hid (∀d,zWW w d→EvsAt d d.heap.size z.E z.en z.ec r.evs):=zh (fun d hb=>hE.grow hb);have bl:=hE.ln;have t:=zh bl;have bA:=hE.few;have bo:=h.few;have bq:=h.n0;have aP:=zh h.ok;have HT:=zh ht;have bd:=h.ok.c;unfold okC at bd;have bc:IntKind.i64.wrap (((m.ds.length:Nat):Int)+1)=((m.ds.length:Nat):Int)+1:=by rw[IntKind.wrap_i64];omega
 clear h hb hq hr z1 hE ht;go_enter func28,ntmps28
 go_upto_region 1 with(fail);generalize ((w.alloc (.cells (rqC r z) 37)).alloc (.cells rs0 42))=w1 at *
 have ax:Hid (∀d,zWW w1 d→d.cell? ⟨X,7,none⟩=some (.slice U m.ds.length W)∧d.cell? ⟨w.heap.size,1,none⟩=some (.slice z.E z.en z.ec)):=zh (fun d hb=>by
  have r0:=(H1.out.below hb).blk.cell 7;have r1:=(HQ.out.below hb HQ.out.lt).cell 1;simp only[mdC,rqC,zA,zB,zC]at r0 r1
  exact⟨r0,r1⟩)
 refine kJ 10 (fF [(9,⟨Nat,fun x=>.pointer (some ⟨x,0,none⟩),fun g d=>Blk d g 111 #[.int .i64 0,.slice none 0 0]∧w1.heap.size≤g⟩)]) (fun d=>zWW w1 d) (fun w1 w2=>zWW w1 w2) jk jk (fN (fun x wa wb hg h=>⟨h.1.below hg h.1.lt,h.2⟩) (fQ)) ((zy _ _).drew) ?_;simp only[zX,List.take_zero,zo,List.drop_zero]
 iterate 9
  refine fG _ ?_ rfl jr jr (fun d j hD=>?_) ?_;rotate_left
  ·have bm:=ax.out d j;go_simp;all_goals with_reducible rfl
  try simp only[Act.put,zD,zE,zF]
 refine fo 10 _ rfl jr jr (fun d j hD=>?_) (fun x=>?_)
 ·refine kr (u:=?_) (w':=?_) ?_ ?_ ?_;rotate_left 2
  ·have bm:=ax.out d j;go_simp;all_goals first|with_reducible rfl|(refine⟨?_,?_⟩<;>with_reducible rfl)
  ·exact(zRR _)
  exact⟨j.alloc j.size _,d.heap.size,rfl,Blk.new _ _ _,j.size⟩
 rename Nat=>x9
 try simp only[Act.put,zD,zE,zF]
 refine fW (fun w2 j hF=>?_);have F:=(gZ (hF 9) jd).1;have bt:w1.heap.size≤x9:=(gZ (hF 9) jd).2;have aT:=zt HB j;have H2:=zh (H1.out.below j);have aS:=zb HR j;have aQ:=zb HQ j;clear hF j ax H1 HR HQ;have y0:=F.cell 0;have y1:=F.cell 1;have ba:=F.frozen 0;have a5:=F.frozen 1;simp only[zA,zB,zC]at y0 y1;obtain⟨A,aC⟩:∃A,((m.ds.length:Nat):Int)+1=A:=⟨_,rfl⟩;have ai:=zh aC;have bv:w.heap.size+1<x9:=jo;have ao:w.heap.size+1≠x9:=jo;have an:w.heap.size≠x9:=jo;have aK:X≠x9:=jo;have ap:w.heap.size≤x9:=jo;rw[aC]at bc ⊢
 have S:Hid (Blk ((w2.setCell ⟨x9,0,none⟩ (.int .i64 A)).setCell ⟨x9,1,none⟩ (.slice z.E z.en z.ec)) x9 111 #[.int .i64 A,.slice z.E z.en z.ec]):=zh (by
  have:=(F.set_ 0 (.int .i64 A)).set_ 1 (.slice z.E z.en z.ec)
  simpa using this)
 have ah:=zh ((aS.out.far (p:=⟨x9,0,none⟩) ao (.int .i64 A)).far (p:=⟨x9,1,none⟩) ao (.slice z.E z.en z.ec));have av:=zh ((aQ.out.far (p:=⟨x9,0,none⟩) an (.int .i64 A)).far (p:=⟨x9,1,none⟩) an (.slice z.E z.en z.ec));have ag:=zh ((aT.out.setCell (p:=⟨x9,0,none⟩) ap (.int .i64 A)).setCell (p:=⟨x9,1,none⟩) ap (.slice z.E z.en z.ec))
 have H3:Hid (At ((w2.setCell ⟨x9,0,none⟩ (.int .i64 A)).setCell ⟨x9,1,none⟩ (.slice z.E z.en z.ec)) n0 X K (.slice U m.ds.length W) m):=zh (H2.out.kp (by simp[World.setCell]) (fun b hb=>by
  have aO:b≠x9:=fun e=>by
   subst e;rcases hb with hb|hb|hb
   ·exact absurd (hb.one ⟨_,_,F⟩) jd
   ·exact absurd (hb.one ⟨_,_,F⟩) jd
   exact absurd (hb.one ⟨_,_,F⟩) jd
  exact(vN _ _ _ _ aO).trans (vN _ _ _ _ aO)))
 clear aC H2 aS aQ aT F
 go_upto_region 2 with(fail);generalize (w2.setCell ⟨x9,0,none⟩ (.int .i64 A)).setCell ⟨x9,1,none⟩ (.slice z.E z.en z.ec)=w3 at *;clear y0 y1 ba a5;have B:Hid (∀(e:Ending) (w':World),(∃v',e=.returned (.agg (ing m r).2)∧At w' n0 X (K+64) v' (ing m r).1∧Chg (fun b=>b=X∨(Value.slice U m.ds.length W).ownBlock=some b) w w'∧OwnN w (.slice U m.ds.length W) v')→Dt n0 X K (.slice U m.ds.length W) m r w e w'):=zh (fun e w' h=>h);have q1:=av.out.cell 1;have k3:=H3.out.blk.cell 3;have z0:=S.out.cell 0;have z1:=S.out.cell 1;simp only[mdC,rqC,zA,zB,zC]at q1 k3 z0 z1;by_cases I:z.en=0
 ·have a3:((z.en:Int)==0)=true:=by rw[beq_iff_eq];omega
  have n:ing m r=(m,rsC 1 0 0 nil nil nil 0 0 0 0):=zI (by rw[t.out];exact I);rw[n]at B;clear I n z0 z1;go_wp2_with fail;refine(iy 1 _).mono ?_;rintro e w9 ⟨rfl,l⟩;have ac:=zt ag l;have q:=zb ah l;have G:=l;clear l;have ad:=zh (zz _ (w.heap.size+1) _ (rsC 1 0 0 nil nil nil 0 0 0 0) _ _ q.out);go_wp2_with (refine zx (o:=⟨none,.store 42 _ _,_,_,_,_⟩) rfl 42 _ _ rfl (w.heap.size+1) (rsC 1 0 0 nil nil nil 0 0 0 0) rfl rfl 42 rs0 q.out jk rfl (by simp[rsC,Value.oneCell']) ?_);refine zw (fA rfl rfl (zv _ (w.heap.size+1) 42 42 _ (0,0) _ ad.out underlying42 rfl jk)) rfl ?_;exact B.out _ _ ⟨_,rfl,(((H3.out.below G).row q.out _).more (Nat.le_add_right _ _)),iA (iG ac.out) (zZ _) _,.inl rfl⟩
 have a3:((z.en:Int)==0)=false:=by rw[zM];omega
 by_cases aY:m.c.batch<(z.en:Int)
 ·have n:ing m r=(m,rsC 3 0 0 nil nil nil 0 0 0 0):=by
   unfold ing;rw[zH (by rw[t.out];exact I),zI (by rw[t.out];exact aY)]
  rw[n]at B;clear I n z0 z1;go_wp2_with fail;refine(iy 3 _).mono ?_;rintro e w9 ⟨rfl,l⟩;have ac:=zt ag l;have q:=zb ah l;have G:=l;clear l;have ad:=zh (zz _ (w.heap.size+1) _ (rsC 3 0 0 nil nil nil 0 0 0 0) _ _ q.out);go_wp2_with (refine zx (o:=⟨none,.store 42 _ _,_,_,_,_⟩) rfl 42 _ _ rfl (w.heap.size+1) (rsC 3 0 0 nil nil nil 0 0 0 0) rfl rfl 42 rs0 q.out jk rfl (by simp[rsC,Value.oneCell']) ?_);refine zw (fA rfl rfl (zv _ (w.heap.size+1) 42 42 _ (0,0) _ ad.out underlying42 rfl jk)) rfl ?_;exact B.out _ _ ⟨_,rfl,(((H3.out.below G).row q.out _).more (Nat.le_add_right _ _)),iA (iG ac.out) (zZ _) _,.inl rfl⟩
 have CC:=zh (xN A z.E z.en z.ec r.evs w3 (a1.out w3 ag.out));obtain⟨cc,aD⟩:∃cc,gQ A r.evs=cc:=⟨_,rfl⟩;rw[aD]at CC;have V:=zh aD;clear aD;go_wp2_with fail;refine CC.out.mono ?_;rintro e T ⟨rfl,Y⟩;have Z:=zt ag Y;have H4:=zh (H3.out.below Y);have aB:=zb ah Y;have aN:=zb av Y;have ar:=zb S Y;clear Y CC q1 k3 z0 z1 H3 ah av S ag;by_cases am:cc=0
 ·subst am;obtain⟨D,hD⟩:∃D,Ev.mkD A r.evs=D:=⟨_,rfl⟩;have CD:Hid (∀d,zWW T d→Calls prog 64 #[.agg #[.int .i64 A,.slice z.E z.en z.ec]] d (pz d D)):=zh (fun d hb=>by rw[←hD];exact Ev.qy A z.E z.en z.ec r.evs d (a1.out d (Z.out.trans (hb.mono Z.out.size))) V.out);have aH:D.length=z.en:=by rw[←hD,ol];exact t.out
  have bz:z.en≤64:=by rw[←t.out];exact(rF V.out).2.1
  have n:ing m r=({ m with ds:=m.ds++D,acked:=if r.dur then((m.ds.length+D.length:Nat):Int)else m.acked },rsC 0 A 0 nil nil nil 0 0 0 0):=by
   unfold ing;rw[zH (by rw[t.out];exact I),zH (by rw[t.out];omega),ai.out,V.out,zH jd,hD,aH,t.out]
  rw[n]at B;have a6:=zh aH
  have af:Hid (∀ak:Int,0≤ak∧ak≤((m.ds.length+D.length:Nat):Int)→Ok { m with ds:=m.ds++D,acked:=ak }):=zh (fun ak aj=>by
   have:=ru aP.out r.evs (by rw[ai.out];exact V.out) HT.out ak (by rw[t.out,←a6.out];exact aj);rw[ai.out,hD]at this
   exact this)
  obtain⟨aG,g1,g2,g3⟩:=H4.out.own.ex;have G2:=zh g2;have G3:=zh g3;have G1:=zh g1;have bw:=Z.out.size;have bn:D.length≤64:=jo;have C0:Hid (Blk T X 81 (mdC m (.slice U m.ds.length W))∧Blk T x9 111 #[.int .i64 A,.slice z.E z.en z.ec]∧Blk T (w.heap.size+1) 42 rs0∧Blk T w.heap.size 37 (rqC r z)):=zh ⟨H4.out.blk,ar.out,aB.out,aN.out⟩;clear hD n aH g1 g2 g3 I aY V
  go_upto_region 10 with(fail)
  refine kK 10 (fF [(6,⟨Option Addr × Nat,fun x=>.slice x.1 D.length x.2,fun x d=>zWW T d∧DOwn d T.heap.size (.slice x.1 D.length x.2) D⟩),(7,⟨Value,fun v'=>v',fun v' d=>DOwn d n0 v' (m.ds++D)∧Chg (fun b=>(Value.slice U m.ds.length W).ownBlock=some b) T d∧OwnN T (.slice U m.ds.length W) v'⟩)])
   (fun d=>Blk d X 81 (mdC m (.slice U m.ds.length W))∧Blk d x9 111 #[.int .i64 A,.slice z.E z.en z.ec]∧Blk d (w.heap.size+1) 42 rs0∧Blk d w.heap.size 37 (rqC r z)) (fun d=>d=T.drew) jk jk (kN jk) C0.out rfl ?_
  iterate 6
   refine ik _ ?_ rfl jr jr (fun d j=>?_) ?_;rotate_left
   ·have f0:=j.1.cell 7;have f1:=j.2.1.cell 0;have f2:=j.2.1.cell 1;simp only[mdC,zA,zB,zC]at f0 f1 f2;go_simp;all_goals with_reducible rfl
   try simp only[Act.put,zD,zE,zF]
  refine kw 7 _ rfl jr jr (fun d j hI=>?_) (fun x=>?_)
  ·subst hI;refine fZ (f:=?_) (args:=?_) ?_ ?_;rotate_left 2
   ·go_simp;all_goals first|with_reducible rfl|(refine⟨?_,?_⟩<;>with_reducible rfl)
   refine(CD.out _ (zy _ _).drew).mono ?_;rintro e w9 ⟨v9,rfl,aZ,l⟩;obtain⟨A9,c9,rfl,_⟩:=aZ.read;have a8:zWW T w9:=((zy _ _).drew:zWW T T.drew).trans l;exact⟨_,rfl,trivial,⟨j.1.below l j.1.lt,j.2.1.below l j.2.1.lt,j.2.2.1.below l j.2.2.1.lt,j.2.2.2.below l j.2.2.2.lt⟩,(A9,c9),rfl,a8,aZ⟩
  obtain⟨A6,c6⟩:=x;try simp only[Act.put,zD,zE,zF]
  refine kw 8 _ rfl jr jr (fun d j hI=>?_) (fun x=>?_)
  ·obtain⟨hb,hD⟩:=hI;obtain⟨bi,e1,e2,e3⟩:=hD.ex;obtain⟨A',c',e4,hR,bs,be,_⟩:=Ev.fP e2;injection e4 with e5 _ e6;subst e5 e6;have C:=G2.out.kept (fH hb none) (by cases hv:(Value.slice U m.ds.length W).ownBlock<;>simp);have a4:∀i (h:i<m.ds.length) (h':i<aG.length),DcS d (Go.Proofs.YtmomjpolkkbhnaaGreat.Ev.Fd d n0) m.ds[i] aG[i]:=fun i a b=>(G3.out i a b).same (fun b hS=>⟨⟨hS.1,hS.2.new hb⟩,hb.block b hS.2.lt⟩)
   have bj:=hb.size;refine pM _ _ 26 rfl n0 48 i0 _ 3 40 underlying26 bf bh bk a7 rfl jd (.slice U m.ds.length W) m.ds.length aG.flatten rfl C A6 D.length c6 bi.flatten rfl hR be (ui e1 e3) jx jo jo ?_;intro v' w' ho hg a9;exact⟨⟨j.1.grown hg (fun e=>absurd ((fO C e.symm).one ⟨_,_,j.1⟩) jd),j.2.1.grown hg (fun e=>absurd ((fO C e.symm).one ⟨_,_,j.2.1⟩) jd),j.2.2.1.grown hg (fun e=>absurd ((fO C e.symm).one ⟨_,_,j.2.2.1⟩) jd),j.2.2.2.grown hg (fun e=>absurd ((fO C e.symm).one ⟨_,_,j.2.2.2⟩) jd)⟩,v',rfl,Lb G1.out C a4 e1 e3 jo ho hg,(Chg.of_new hb).trans (Chg.of_grown hg (fun k hk=>hk)) (fun x hx=>.inl hx),a9.of bj⟩
  rename Value=>x6
  try simp only[Act.put,zD,zE,zF]
  iterate 2
   refine ik _ ?_ rfl jr jr (fun d j=>?_) ?_;rotate_left
   ·have f0:=j.1.cell 7;have f1:=j.2.1.cell 0;have f2:=j.2.1.cell 1;simp only[mdC,zA,zB,zC]at f0 f1 f2;go_simp;all_goals with_reducible rfl
   try simp only[Act.put,zD,zE,zF]
  refine kT (fun w7 j hI=>?_);obtain⟨aw,az,aJ⟩:=hI;obtain⟨L,J,rfl,_⟩:=aw.read;have s:=zh j;have aR:=zh aw;have aI:=zh (aJ.of Z.out.size);have a0:=zh ((iG (O:=fun b=>(Value.slice U m.ds.length W).ownBlock=some b) Z.out).trans az (fun x hx=>.inl hx));have bp:=az.size;have g0:=j.1.cell 7;have a2:=j.1.frozen 7;simp only[mdC,zA,zB,zC]at g0;clear j aw az aJ CD C0 H4 aB aN ar G1 G2 G3;generalize aU:(m.ds++D).length=y at *;have ab:=zh aU;clear aU;have au:w.heap.size+1≠X:=jo;have aM:w.heap.size≠X:=jo
  have H:Hid (Blk (w7.setCell ⟨X,7,none⟩ (.slice L y J)) X 81 (mdC { m with ds:=m.ds++D } (.slice L y J))):=zh (by
   have:=s.out.1.set_ 7 (.slice L y J)
   simpa[mdC]using this)
  have N:=zh (s.out.2.1.far (p:=⟨X,7,none⟩) aK.symm (.slice L y J));have ae:=zh (s.out.2.2.1.far (p:=⟨X,7,none⟩) au (.slice L y J));have aE:=zh (s.out.2.2.2.far (p:=⟨X,7,none⟩) aM (.slice L y J))
  have al:Hid (DOwn (w7.setCell ⟨X,7,none⟩ (.slice L y J)) n0 (.slice L y J) (m.ds++D)):=zh (l8 aR.out (fun b hb=>vN _ _ _ _ (fun e=>by
   have e:b=X:=e;subst e;rcases hb with hb|hb
   ·exact absurd (hb.one ⟨_,_,s.out.1⟩) jd
   exact absurd (hb.one ⟨_,_,s.out.1⟩) jd)))
  have ay:Hid (Chg (fun b=>b=X∨(Value.slice U m.ds.length W).ownBlock=some b) w (w7.setCell ⟨X,7,none⟩ (.slice L y J))):=zh ((a0.out.mono (fun x _ hx=>.inr hx)).trans (qH w7 X 7 (.slice L y J)) (fun x hx=>.inl (.inl hx)));have aq:n0≤(w7.setCell ⟨X,7,none⟩ (.slice L y J)).heap.size:=by simp[World.setCell];omega
  go_upto_region 11 with(fail);generalize w7.setCell ⟨X,7,none⟩ (.slice L y J)=w8 at *;clear g0 a2 s aR a0;have q2:=aE.out.cell 2;have b0:=N.out.cell 0;have k7:=H.out.cell 7;have aW:=H.out.cell 10;have aX:=H.out.frozen 10;simp only[mdC,rqC,zA,zB,zC]at q2 b0 k7 aW;have aa:y=m.ds.length+D.length:=by rw[←ab.out,zJ]
  have aj:=aP.out.ak;obtain⟨du,aV⟩:∃du,r.dur=du:=⟨_,rfl⟩;rw[aV]at q2 B;clear aV
  cases du with
  | true=>
   have aA:Hid (At (w8.setCell ⟨X,10,none⟩ (.int .i64 (y:Nat))) n0 X (K+64) (.slice L y J) { m with ds:=m.ds++D,acked:=((m.ds.length+D.length:Nat):Int) }):=zh (by
    have bb:At w8 n0 X (K+64) (.slice L y J) { m with ds:=m.ds++D }:=⟨H.out,al.out,aq,af.out m.acked jo,by show (m.ds++D).length≤_;rw[zJ];omega⟩
    exact bb.set (by have:=H.out.set_ 10 (.int .i64 (y:Nat));rw[aa]at this ⊢;simpa[mdC]using this) rfl (af.out _ jo))
   have q:=zh (ae.out.far (p:=⟨X,10,none⟩) au (.int .i64 (y:Nat)));have aL:=zh (N.out.far (p:=⟨X,10,none⟩) aK.symm (.int .i64 (y:Nat)));have bg:=zh (ay.out.trans (qH w8 X 10 (.int .i64 (y:Nat))) (fun x hx=>.inl (.inl hx)));clear aa aj ab H al N ae aE ay
   go_upto_region 13 with(fail);generalize w8.setCell ⟨X,10,none⟩ (.int .i64 (y:Nat))=w9 at *;clear q2 b0 k7 aW aX;have b0:=aL.out.cell 0;simp only[zA,zB,zC]at b0;have aF:=zh (zz _ (w.heap.size+1) _ (rsC 0 A 0 nil nil nil 0 0 0 0) _ _ q.out);go_wp2_with (refine zx (o:=⟨none,.store 42 _ _,_,_,_,_⟩) rfl 42 _ _ rfl (w.heap.size+1) (rsC 0 A 0 nil nil nil 0 0 0 0) rfl rfl 42 rs0 q.out jk rfl (by simp[rsC,Value.oneCell']) ?_);refine zw (fA rfl rfl (zv _ (w.heap.size+1) 42 42 _ (0,0) _ aF.out underlying42 rfl jk)) rfl ?_;exact B.out _ _ ⟨_,rfl,aA.out.row q.out _,iA bg.out (zZ _) _,aI.out⟩
  | false=>
   have aA:Hid (At w8 n0 X (K+64) (.slice L y J) { m with ds:=m.ds++D,acked:=m.acked }):=zh ⟨H.out,al.out,aq,af.out m.acked jo,by show (m.ds++D).length≤_;rw[zJ];omega⟩;clear aa aj ab H al N aE;have aF:=zh (zz _ (w.heap.size+1) _ (rsC 0 A 0 nil nil nil 0 0 0 0) _ _ ae.out);go_wp2_with (refine zx (o:=⟨none,.store 42 _ _,_,_,_,_⟩) rfl 42 _ _ rfl (w.heap.size+1) (rsC 0 A 0 nil nil nil 0 0 0 0) rfl rfl 42 rs0 ae.out jk rfl (by simp[rsC,Value.oneCell']) ?_);refine zw (fA rfl rfl (zv _ (w.heap.size+1) 42 42 _ (0,0) _ aF.out underlying42 rfl jk)) rfl ?_;exact B.out _ _ ⟨_,rfl,aA.out.row ae.out _,iA ay.out (zZ _) _,aI.out⟩
 have bx:(cc != 0)=true:=by simpa using am
 have n:ing m r=(m,rsC cc 0 0 nil nil nil 0 0 0 0):=by
  unfold ing;rw[zH (by rw[t.out];exact I),zH (by rw[t.out];omega),ai.out,V.out,zI am]
 rw[n]at B;clear I n am;go_wp2_with fail;refine(iy cc _).mono ?_;rintro e w9 ⟨rfl,l⟩;have ac:=zt Z l;have q:=zb aB l;have G:=l;clear l;have ad:=zh (zz _ (w.heap.size+1) _ (rsC cc 0 0 nil nil nil 0 0 0 0) _ _ q.out);go_wp2_with (refine zx (o:=⟨none,.store 42 _ _,_,_,_,_⟩) rfl 42 _ _ rfl (w.heap.size+1) (rsC cc 0 0 nil nil nil 0 0 0 0) rfl rfl 42 rs0 q.out jk rfl (by simp[rsC,Value.oneCell']) ?_);refine zw (fA rfl rfl (zv _ (w.heap.size+1) 42 42 _ (0,0) _ ad.out underlying42 rfl jk)) rfl ?_;exact B.out _ _ ⟨_,rfl,(((H4.out.below G).row q.out _).more (Nat.le_add_right _ _)),iA (iG ac.out) (zZ _) _,.inl rfl⟩
end
end Md

namespace Gx
open Go Go.RowKit
open Ph (Tr Waits nL qE)
section
variable {P:Program} {ops:Array Oper} {md:Region.Mode} {C:World→Prop} {G:World→World→Prop} {Q:Act→World→Prop} {S:Nat→Option RSpec} {ch:Nat→Bool} {n g:Nat} {K:Array Bool→Act→(Nat→World→Prop)→(World→Prop)→Prop}
inductive Up where
 | no
 | fr (p:World→Prop)
 | wr (p:World→Prop)
def upF(F:Nat→World→Prop)(i:Nat):Up→Nat→World→Prop
 | .no=>F
 | .fr p=>upd F i p
 | .wr _=>fun _ _=>True
def upI(I:World→Prop):Up→World→Prop
 | .wr p=>p
 | _=>I
def DN(P:Program)(C:World→Prop)(md:Region.Mode)(F:Nat→World→Prop)(I:World→Prop)(o:Oper)(a:Act)(s:RSpec):Prop:=
 ∀w,C w→I w→iD md o F w→gT P Tr w (fun v w'=>C w'∧∃x,v=s.f x∧s.Φ x w') ((execOp a.eval o).run P w)
def xH(G:World→World→Prop)(S:Nat→Option RSpec)(i:Nat)(s:RSpec):Prop:=S i=some s∨∀x w w',G w w'→s.Φ x w→s.Φ x w'
def jA(P:Program)(ops:Array Oper)(C:World→Prop)(G:World→World→Prop)(md:Region.Mode)(S:Nat→Option RSpec)(ch:Nat→Bool)(i:Nat)(o:Oper)(K:Act→(Nat→World→Prop)→(World→Prop)→Prop)(a:Act)(F:Nat→World→Prop)(I:World→Prop):Prop:=
 if Region.wanted o (yielded ops a.tmps)=true then
  match S i with
  | none=>∃c,oG P C md F o a c∧K (a.put o.dst c) F I
  | some s=>if ch i=true then ∃s':RSpec,xH G S i s'∧DN P C md F I o a s'∧∀x,K (a.put o.dst (s'.f x)) (fun _ _=>True) (s'.Φ x)else oH P C G md F o a s∧∀x,K (a.put o.dst (s.f x)) (upd F i (s.Φ x)) I
 else K (a.put o.dst undef) F I
def mI(C:World→Prop)(F:Nat→World→Prop)(I:World→Prop):Prop:=∃w,C w∧(∀j,F j w)∧I w
def Dv(C:World→Prop)(Q:Act→World→Prop)(a:Act)(F:Nat→World→Prop)(I:World→Prop):Prop:=∀w,C w→(∀j,F j w)→I w→Q a w
def pI(P:Program)(md:Region.Mode)(ops:Array Oper)(C:World→Prop)(G:World→World→Prop)(S:Nat→Option RSpec)(ch:Nat→Bool)(n:Nat)(K:Array Bool→Act→(Nat→World→Prop)→(World→Prop)→Prop):Nat→Array Bool→Act→(Nat→World→Prop)→(World→Prop)→Prop
 | 0,listed,a,F,I=>mI C F I→K listed a F I
 | fuel+1,listed,a,F,I=>mI C F I→(Region.ready md ops listed≠[] ∧
  ∀i∈Region.ready md ops listed,i<n∧∀o,ops[i]?=some o→jA P ops C G md S ch i o (pI P md ops C G S ch n K fuel (listed.setIfInBounds i true)) a F I)
def wpX(P:Program)(ops:Array Oper)(C:World→Prop)(G:World→World→Prop)(md:Region.Mode)(S:Nat→Option RSpec)(ch:Nat→Bool)(Q:Act→World→Prop):List Oper→Nat→Act→(Nat→World→Prop)→(World→Prop)→Prop
 | [],_,a,F,I=>Dv C Q a F I
 | o::rest,k,a,F,I=>jA P ops C G md S ch k o (wpX P ops C G md S ch Q rest (k+1)) a F I
def pJ(G:World→World→Prop)(F:Nat→World→Prop)(I:World→Prop):Prop:=Lasts G F∧∀w w',G w w'→I w→I w'
theorem oP(hS:∀i s,S i=some s→∀x w w',G w w'→s.Φ x w→s.Φ x w'){Q':Exit→Act→World→Prop}(hK:∀listed a F I w,K listed a F I→C w→(∀j,F j w)→I w→wpAny P md ops Q' g listed a w) :
  ∀(fuel:Nat) (listed:Array Bool) (a:Act) (F:Nat→World→Prop) (I:World→Prop) (w:World),C w→(∀j,F j w)→I w→pJ G F I→pI P md ops C G S ch n K fuel listed a F I→wpAny P md ops Q' (fuel+g) listed a w
 | 0,_,a,F,I,w,hC,hF,hI,_,h=>by rw[Nat.zero_add];exact hK _ _ _ _ _ (h ⟨w,hC,hF,hI⟩) hC hF hI
 | fuel+1,listed,a,F,I,w,hC,hF,hI,hL,h=>by
  rw[show fuel+1+g=(fuel+g)+1 by omega];have h:=h ⟨w,hC,hF,hI⟩;refine⟨fun A=>absurd A h.1,fun i y=>?_⟩;unfold wpOp;obtain⟨_,o,u,_⟩:=mem_ready.1 y;simp only[u];have b:=(h.2 i y).2 o u;unfold jA at b
  split
  ·rename_i hw;rw[if_pos hw]at b;left
   split at b
   ·rename_i hSi;obtain⟨c,q,l⟩:=b;rcases q w hC (fun e _ _=>hF e.on)with t|⟨t,rfl⟩
    ·unfold Oper.wp;rw[t];exact oP hS hK fuel _ _ F I w hC hF hI hL l
    unfold Oper.wp;rw[t];exact oP hS hK fuel _ _ F I w hC hF hI hL l
   rename_i s hSi
   split at b
   ·obtain⟨z,B,q,l⟩:=b;refine pO ?_ (q w hC hI (fun e _ _=>hF e.on));rintro v w' _ ⟨d,x,rfl,m⟩;exact oP hS hK fuel _ _ _ _ w' d (fun _=>trivial) m ⟨fun _ _ _ _ _=>trivial,B.elim (fun h=>hS i z h x) (fun h=>h x)⟩ (l x)
   refine pO ?_ (b.1 w hC (fun e _ _=>hF e.on));rintro v w' r ⟨d,x,rfl,m⟩;refine oP hS hK fuel _ _ _ _ w' d ?_ (hL.2 _ _ r hI) ⟨hL.1.upd i (hS i s hSi x),hL.2⟩ (b.2 x);intro j;unfold upd
   split
   ·exact⟨hL.1 j _ _ r (hF j),m⟩
   exact hL.1 j _ _ r (hF j)
  rename_i hw;rw[if_neg hw]at b;exact oP hS hK fuel _ _ F I w hC hF hI hL b
inductive HeadX (P:Program) (ops:Array Oper) (C:World→Prop) (G:World→World→Prop) (md:Region.Mode) (S:Nat→Option RSpec) (ch:Nat→Bool) (i:Nat) (o:Oper) (a:Act) (F:Nat→World→Prop) (I:World→Prop):(V:Type)→(V→Value)→(V→Up)→Prop
 | skip (h:Region.wanted o (yielded ops a.tmps)=false):HeadX P ops C G md S ch i o a F I Unit (fun _=>undef) (fun _=>.no)
 | fixed (h:Region.wanted o (yielded ops a.tmps)=true) (hs:S i=none) (c:Value) (hf:oG P C md F o a c):HeadX P ops C G md S ch i o a F I Unit (fun _=>c) (fun _=>.no)
 | free (h:Region.wanted o (yielded ops a.tmps)=true) (s:RSpec) (hs:S i=some s) (hc:ch i=false) (hg:oH P C G md F o a s):HeadX P ops C G md S ch i o a F I s.α s.f (fun x=>.fr (s.Φ x))
 | write (h:Region.wanted o (yielded ops a.tmps)=true) (s:RSpec) (hs:S i≠none) (hl:xH G S i s) (hc:ch i=true) (hg:DN P C md F I o a s):HeadX P ops C G md S ch i o a F I s.α s.f (fun x=>.wr (s.Φ x))
section
variable {i:Nat} {o:Oper} {a a':Act} {F F':Nat→World→Prop} {I I':World→Prop} {V V':Type} {f:V→Value} {p:V→Up} {f':V'→Value} {p':V'→Up}
theorem HeadX.step(h:HeadX P ops C G md S ch i o a F I V f p){K:Act→(Nat→World→Prop)→(World→Prop)→Prop}(hk:∀x,K (a.put o.dst (f x)) (upF F i (p x)) (upI I (p x))):jA P ops C G md S ch i o K a F I:=by
 cases h with
 | skip h=>unfold jA;rw[if_neg (by rw[h];decide)];exact hk ()
 | fixed h hs c hf=>unfold jA;rw[if_pos h];simp only[hs];exact⟨c,hf,hk ()⟩
 | free h s hs hc hg=>unfold jA;rw[if_pos h];simp only[hs];rw[if_neg (by rw[hc];decide)];exact⟨hg,hk⟩
 | write h s hs hl hc hg=>
  unfold jA;rw[if_pos h]
  cases hS:S i with
  | none=>exact absurd hS hs
  | some s0=>simp only;rw[if_pos hc];exact⟨s,hl,hg,hk⟩
theorem sx{K:Act→(Nat→World→Prop)→(World→Prop)→Prop}(h:jA P ops C G md S ch i o K a F I) :
  ∃(V:Type) (f:V→Value) (p:V→Up),HeadX P ops C G md S ch i o a F I V f p∧∀x,K (a.put o.dst (f x)) (upF F i (p x)) (upI I (p x)):=by
 unfold jA at h;by_cases b:Region.wanted o (yielded ops a.tmps)=true
 ·rw[if_pos b]at h
  split at h
  ·rename_i hs;obtain⟨c,l,e⟩:=h;exact⟨_,_,_,.fixed b hs c l,fun _=>e⟩
  rename_i s hs;by_cases d:ch i=true
  ·rw[if_pos d]at h;obtain⟨m,q,l,e⟩:=h;exact⟨_,_,_,.write b m (by rw[hs];exact fun h=>nomatch h) q d l,e⟩
  rw[if_neg d]at h;exact⟨_,_,_,.free b s hs (by simpa using d) h.1,h.2⟩
 rw[if_neg b]at h;exact⟨_,_,_,.skip (by simpa using b),fun _=>h⟩
theorem HeadX.same(h:HeadX P ops C G md S ch i o a F I V f p)(he:execOp a'.eval o=execOp a.eval o)(hw:Region.wanted o (yielded ops a'.tmps)=Region.wanted o (yielded ops a.tmps))(hd:∀w,iD md o F' w→iD md o F w)(hI:S i=none∨ch i=false∨I'=I):HeadX P ops C G md S ch i o a' F' I' V f p:=by
 cases h with
 | skip h=>exact .skip (by rw[hw];exact h)
 | fixed h hs c hf=>exact .fixed (by rw[hw];exact h) hs c (fun w d b=>by rw[he];exact hf w d (hd w b))
 | free h s hs hc hg=>exact .free (by rw[hw];exact h) s hs hc (fun w d b=>by rw[he];exact hg w d (hd w b))
 | write h s hs hl hc hg=>
  rcases hI with hI|hI|rfl
  ·exact absurd hI hs
  ·rw[hI]at hc;cases hc
  exact .write (by rw[hw];exact h) s hs hl hc (fun w d hI b=>by rw[he];exact hg w d hI (hd w b))
theorem HeadX.quiet(h:HeadX P ops C G md S ch i o a F I V f p)(hs:S i=none)(x:V):p x=.no:=by
 cases h with
 | skip h=>rfl
 | fixed h hs c hf=>rfl
 | free h s hs' _ hg=>rw[hs]at hs';cases hs'
 | write h s hs' _ _ hg=>exact absurd hs hs'
theorem HeadX.alone(h:HeadX P ops C G md S ch i o a F I V f p)(hs:S i=none)(x y:V):f x=f y∧p x=p y:=by
 cases h with
 | skip h=>exact⟨rfl,rfl⟩
 | fixed h hs c hf=>exact⟨rfl,rfl⟩
 | free h s hs' _ hg=>rw[hs]at hs';cases hs'
 | write h s hs' _ _ hg=>exact absurd hs hs'
theorem HeadX.freed(h:HeadX P ops C G md S ch i o a F I V f p)(hc:ch i=false)(x:V):p x=.no∨∃q,p x=.fr q:=by
 cases h with
 | skip h=>exact .inl rfl
 | fixed h hs c hf=>exact .inl rfl
 | free h s hs' _ hg=>exact .inr ⟨_,rfl⟩
 | write h s hs' _ hc' hg=>rw[hc]at hc';cases hc'
theorem HeadX.kind(h:HeadX P ops C G md S ch i o a F I V f p):(∀x,p x=.no∨∃q,p x=.fr q)∨(S i≠none∧ch i=true∧∀x,∃q,p x=.wr q):=by
 cases h with
 | skip h=>exact .inl fun _=>.inl rfl
 | fixed h hs c hf=>exact .inl fun _=>.inl rfl
 | free h s hs' _ hg=>exact .inl fun _=>.inr ⟨_,rfl⟩
 | write h s hs' _ hc' hg=>exact .inr ⟨hs',hc',fun _=>⟨_,rfl⟩⟩
theorem HeadX.one(h:HeadX P ops C G md S ch i o a F I V f p)(h':HeadX P ops C G md S ch i o a F I V' f' p')(hs:mI C F I)(hch:S i=none∨ch i=false)(x:V):∃x',f' x'=f x∧p' x'=p x:=by
 obtain⟨w,m,q,_⟩:=hs;have l:iD md o F w:=fun e _ _=>q e.on
 cases h with
 | skip h=>
  cases h' with
  | skip h'=>exact⟨(),rfl,rfl⟩
  | fixed h' _ _ _=>rw[h]at h';cases h'
  | free h' _ _ _ _=>rw[h]at h';cases h'
  | write h' _ _ _ _ _=>rw[h]at h';cases h'
 | fixed h hs c hf=>
  cases h' with
  | skip h'=>rw[h]at h';cases h'
  | fixed h' hs' c' hf'=>
   refine⟨(),?_,rfl⟩;show c'=c;rcases hf w m l with d|⟨d,rfl⟩<;>rcases hf' w m l with b|⟨b,rfl⟩
   ·rw[d]at b;injection b with b;injection b with b;exact b.symm
   ·rw[d]at b;injection b with b;cases b
   ·rw[d]at b;injection b with b;cases b
   rfl
  | free h' s hs' _ _=>rw[hs]at hs';cases hs'
  | write h' s hs' _ _ _=>exact absurd hs hs'
 | free h s hs hc hg=>
  cases h' with
  | skip h'=>rw[h]at h';cases h'
  | fixed h' hs' c' hf'=>rw[hs]at hs';cases hs'
  | free h' s' hs' _ _=>
   rw[hs]at hs';injection hs' with hs';subst hs';exact⟨x,rfl,rfl⟩
  | write h' s' hs' _ hc' _=>rw[hc]at hc';cases hc'
 | write h s hs _ hc hg=>
  rcases hch with hch|hch
  ·exact absurd hch hs
  rw[hch]at hc;cases hc
theorem HeadX.sat(h:HeadX P ops C G md S ch i o a F I V f p)(hL:pJ G F I)(hs:mI C F I):∃x,mI C (upF F i (p x)) (upI I (p x)):=by
 cases h with
 | skip h=>exact⟨(),hs⟩
 | fixed h _ c hf=>exact⟨(),hs⟩
 | free h s hsi hc m=>
  obtain⟨w,D,y,A⟩:=hs;have b:=m w D (fun e _ _=>y e.on)
  have d:∀v l,G w l→(C l∧∃x,v=s.f x∧s.Φ x l)→∃x,mI C (upF F i (.fr (s.Φ x))) (upI I (.fr (s.Φ x))):=by
   rintro v l m ⟨t,x,_,z⟩;refine⟨x,l,t,fun j=>?_,hL.2 _ _ m A⟩;simp only[upF,upd]
   split
   ·exact⟨hL.1 j _ _ m (y j),z⟩
   exact hL.1 j _ _ m (y j)
  generalize (execOp a.eval o).run P w=r at b
  cases r with
  | ok n l=>
   cases n<;>simp only[gT]at b
   case value u=>exact d _ _ b.1 b.2
   case skip=>exact d _ _ b.1 b.2
   case enter f args=>
    obtain⟨e,q,_,⟨v,_,B,E⟩,_⟩:=b [];exact d v q B E
  | halt x l=>simp only[gT]at b
 | write h s hsi hl hc m=>
  obtain⟨w,D,y,A⟩:=hs;have b:=m w D A (fun e _ _=>y e.on)
  have d:∀(v:Value) (l:World),(C l∧∃x,v=s.f x∧s.Φ x l)→∃x,mI C (upF F i (.wr (s.Φ x))) (upI I (.wr (s.Φ x))):=by
   rintro v l ⟨t,x,_,z⟩;exact⟨x,l,t,fun _=>trivial,z⟩
  generalize (execOp a.eval o).run P w=r at b
  cases r with
  | ok n l=>
   cases n<;>simp only[gT]at b
   case value u=>exact d _ _ b.2
   case skip=>exact d _ _ b.2
   case enter f args=>
    obtain⟨e,q,_,⟨v,_,_,E⟩,_⟩:=b [];exact d v q E
  | halt x l=>simp only[gT]at b
theorem HeadX.lasts(hS:∀i s,S i=some s→∀x w w',G w w'→s.Φ x w→s.Φ x w')(h:HeadX P ops C G md S ch i o a F I V f p)(hL:pJ G F I)(x:V):pJ G (upF F i (p x)) (upI I (p x)):=by
 cases h with
 | skip h=>exact hL
 | fixed h _ c hf=>exact hL
 | free h s hs hc hg=>exact⟨hL.1.upd i (hS i s hs x),hL.2⟩
 | write h s hs hl hc hg=>exact⟨fun _ _ _ _ _=>trivial,hl.elim (fun h=>hS i s h x) (fun h=>h x)⟩
theorem sM{oj:Oper}{u:Up}(hn:∀e∈oj.after,Region.binds md e=true→e.on≠i)(hu:u=.no∨∃q,u=.fr q)(w:World):iD md oj (upF F i u) w↔iD md oj F w:=by
 rcases hu with rfl|⟨q,rfl⟩
 ·exact Iff.rfl
 exact mL (p:=some q) hn w
end
def FQ(S:Nat→Option RSpec)(F:Nat→World→Prop):Prop:=∀k,S k=none→∀w,F k w
theorem HeadX.fq{i:Nat}{o:Oper}{a:Act}{F:Nat→World→Prop}{I:World→Prop}{V:Type}{f:V→Value}{p:V→Up}(h:HeadX P ops C G md S ch i o a F I V f p)(hF:FQ S F)(x:V):FQ S (upF F i (p x)):=by
 cases h with
 | skip h=>exact hF
 | fixed h _ c hf=>exact hF
 | free h s hs hc hg=>
  intro k b w;show upd F i (s.Φ x) k w;unfold upd
  split
  ·rename_i e
   first|(rw[e,hs]at b;cases b)|(rw[←e,hs]at b;cases b)|(subst e;rw[hs]at b;cases b)
  exact hF k b w
 | write h s hs hl hc hg=>exact fun _ _ _=>trivial
structure TurnsX (md:Region.Mode) (ops:Array Oper) (S:Nat→Option RSpec) (ch:Nat→Bool):Prop where
 low:∀j,S j≠none→ch j=true→∀i,i<j→Waits md ops j i∨(S i=none∧∀o,ops[i]?=some o→∀e∈o.after,Region.binds md e=true→S e.on=none)
 high:∀i,S i≠none→ch i=true→∀j,i<j→S j≠none→Waits md ops j i
theorem Et(hS:∀i s,S i=some s→∀x w w',G w w'→s.Φ x w→s.Φ x w'){i:Nat}{oi:Oper}(hi:ops[i]?=some oi)(hsel:∀(j:Nat) (o:Oper) cs b,ops[j]?=some o→o.op≠.select cs b)(hT:TurnsX md ops S ch)
  (hs:Region.sinkB md ops n=true) (hc:Region.chainB md ops n=true) (hn:n<ops.size) (hin:i<n) (hdone:∀listed a F I,K listed a F I→∀j∈Region.ready md ops listed,n≤j)
  {V:Type} {f:V→Value} {p:V→Up} :
  ∀(fuel:Nat) (listed:Array Bool) (a:Act) (F:Nat→World→Prop) (I:World→Prop),HeadInv md ops n listed→pJ G F I→FQ S F →
   (∀k,k<i→listed.getD k false=true)→(∀j oj,ops[j]?=some oj→j≠i→listed.getD j true=false→(∀e∈oj.after,Region.binds md e=true→e.on≠i)→oi.apart ops oj=true) →
   i∈Region.ready md ops listed→HeadX P ops C G md S ch i oi a F I V f p →
   (∀x,pI P md ops C G S ch n K fuel (listed.setIfInBounds i true) (a.put oi.dst (f x)) (upF F i (p x)) (upI I (p x)))→pI P md ops C G S ch n K (fuel+1) listed a F I:=by
 intro fuel
 induction fuel with
 | zero=>
  intro listed a F I A hL _ _ _ D u H v;have O:=(mem_ready.1 D).1;refine⟨fun h=>(by rw[h]at D;cases D),fun j M=>?_⟩
  have N:j<n:=by
   rcases Nat.lt_or_ge j n with h|h
   ·exact h
   exact absurd M (tail_waits hs hc hn A _ i rfl hin O j h)
  refine⟨N,fun oj c=>?_⟩;by_cases d:j=i
  ·subst d;rw[hi]at c;injection c with c;subst c;exact u.step H
  obtain⟨x,hx⟩:=u.sat hL v;have:=hdone _ _ _ _ (H x hx) j (ready_mono M d);omega
 | succ fuel ih=>
  intro listed a F I A hL hQ U L D u H v;have ah:=(mem_ready.1 D).1;refine⟨fun h=>(by rw[h]at D;cases D),fun j M=>?_⟩
  have N:j<n:=by
   rcases Nat.lt_or_ge j n with h|h
   ·exact h
   exact absurd M (tail_waits hs hc hn A _ i rfl hin ah j h)
  refine⟨N,fun oj c=>?_⟩;by_cases d:j=i
  ·subst d;rw[hi]at c;injection c with c;subst c;exact u.step H
  obtain⟨l,az,t,ag⟩:=mem_ready.1 M;rw[c]at t;injection t with t;subst t
  have z:∀e∈oj.after,Region.binds md e=true→e.on≠i:=fun e he W Z=>by
   have m:=ag e he W;have h0:=(mem_ready.1 D).1;rw[Z]at m;rcases Nat.lt_or_ge i listed.size with h'|h'
   ·simp[h']at h0 m;rw[h0]at m;cases m
   simp[Array.getElem?_eq_none h']at m
  have aa:∀e∈oi.after,Region.binds md e=true→e.on≠j:=fun e he W Z=>by
   obtain⟨h0,o2,R,ac⟩:=mem_ready.1 D;rw[hi]at R;injection R with R;subst R;have m:=ac e he W;rw[Z]at m;rcases Nat.lt_or_ge j listed.size with h'|h'
   ·simp[h']at l m;rw[l]at m;cases m
   simp[Array.getElem?_eq_none h']at m
  have ae:i<j:=by
   rcases Nat.lt_or_ge i j with h|h
   ·exact h
   have hl:=U j jo;rcases Nat.lt_or_ge j listed.size with h'|h'
   ·simp[h']at l hl;rw[l]at hl;cases hl
   simp[Array.getElem?_eq_none h']at hl
  have hjf:(S j=none∨ch j=false)∨(S i=none∧∀e∈oi.after,Region.binds md e=true→S e.on=none):=by
   by_cases m:S j=none
   ·exact .inl (.inl m)
   cases h2:ch j with
   | false=>exact .inl (.inr rfl)
   | true=>
    rcases hT.low j m h2 i ae with T|⟨T,h4⟩
    ·exact(T.not A M D).elim
    exact .inr ⟨T,h4 oi hi⟩
  have au:S i=none∨ch i=false∨S j=none:=by
   by_cases m:S i=none
   ·exact .inl m
   cases h2:ch i with
   | false=>exact .inr (.inl rfl)
   | true=>
    by_cases T:S j=none
    ·exact .inr (.inr T)
    exact((hT.high i m h2 j ae T).not A M D).elim
  have ar:=L j oj c d l z;obtain⟨a1,a2,a3⟩:=Oper.apart_spec ar;have ay:∀cs b,oi.op≠.select cs b:=fun cs b=>hsel i oi cs b hi
  have ab:∀cs b,oj.op≠.select cs b:=fun cs b=>hsel j oj cs b c
  obtain⟨X,ao⟩:=u.sat hL v;obtain⟨Vj,fj,r,ad,am⟩:=sx (((H X ao).2 j (ready_mono M d)).2 oj c)
  have av:∀x w,iD md oj F w→iD md oj (upF F i (p x)) w:=fun x w hD=>by
   cases hpx:p x with
   | no=>exact hD
   | fr q=>exact(sM z (.inr ⟨q,rfl⟩) w).2 hD
   | wr q=>exact fun _ _ _=>trivial
  have aj:∀x w,iD md oj (upF F i (p x)) w→iD md oj (upF F i (p X)) w:=fun x w hD=>by
   rcases u.kind with h|⟨_,_,h⟩
   ·exact(sM z (h X) w).2 ((sM z (h x) w).1 hD)
   obtain⟨q,e⟩:=h X;rw[e];exact fun _ _ _=>trivial
  have Y:∀x I1,S j=none∨ch j=false∨upI I1 (p x)=I1:=fun x I1=>by
   rcases hjf with h|h
   ·exact h.imp id .inl
   exact .inr (.inr (by rw[u.quiet h.1 x];rfl))
  have B:HeadX P ops C G md S ch j oj a F I Vj fj r:=ad.same (execOp_put oj ab a oi.dst _ a1).symm (wanted_put oj a oi.dst _ a1).symm (av X) ((Y X I).imp id (fun h=>h.imp id Eq.symm))
  have aw:∀x,HeadX P ops C G md S ch j oj (a.put oi.dst (f x)) (upF F i (p x)) (upI I (p x)) Vj fj r:=fun x=>
   ad.same ((execOp_put oj ab a oi.dst _ a1).trans (execOp_put oj ab a oi.dst _ a1).symm) ((wanted_put oj a oi.dst _ a1).trans (wanted_put oj a oi.dst _ a1).symm) (aj x) (by
    rcases Y x I with h|h|h
    ·exact .inl h
    ·exact .inr (.inl h)
    rcases Y X I with h'|h'|h'
    ·exact .inl h'
    ·exact .inr (.inl h')
    exact .inr (.inr (h.trans h'.symm)))
  have al:∀x y,(p x=.no∨∃q,p x=.fr q)∨r y=.no:=fun x y=>by
   rcases au with h|h|h
   ·exact .inl (.inl (u.quiet h x))
   ·exact .inl (u.freed h x)
   exact .inr (B.quiet h y)
  have E:(∀y,r y=.no∨∃q,r y=.fr q)∨(S i=none∧∀e∈oi.after,Region.binds md e=true→S e.on=none):=by
   rcases hjf with h|h
   ·refine .inl fun y=>?_
    rcases h with h|h
    ·exact .inl (B.quiet h y)
    exact B.freed h y
   exact .inr h
  have ap:∀x y,upI (upI I (p x)) (r y)=upI (upI I (r y)) (p x):=fun x y=>by
   rcases E with hp|hp
   ·rcases hp y with h|⟨q,h⟩<;>rw[h]<;>rfl
   rw[u.quiet hp.1 x];rfl
  have ak:∀x y,upF (upF F i (p x)) j (r y)=upF (upF F j (r y)) i (p x):=fun x y=>by
   rcases E with hp|hp
   ·rcases al x y with(h|⟨q,h⟩)|h
    ·rw[h];rfl
    ·rw[h];rcases hp y with h'|⟨q',h'⟩
     ·rw[h'];rfl
     rw[h'];exact BC (Ne.symm d) q q'
    rw[h];rfl
   rw[u.quiet hp.1 x];rfl
  refine B.step fun y=>?_
  refine ih (listed.setIfInBounds j true) (a.put oj.dst (fj y)) (upF F j (r y)) (upI I (r y)) (A.set M N) (B.lasts hS hL y) (B.fq hQ y) ?_ ?_ (ready_mono D (Ne.symm d)) ?_ ?_
  ·intro k hk;rw[getD_set_ne false (show j≠k by omega)];exact U k hk
  ·intro k ok hk aq O ax;refine L k ok hk aq ?_ ax;by_cases af:j=k
   ·subst af;exact l
   rw[getD_set_ne true af]at O;exact O
  ·refine u.same (execOp_put oi ay a oj.dst _ a3) (wanted_put oi a oj.dst _ a3) (fun w hD=>?_) ?_
   ·rcases E with hp|hp
    ·exact(sM aa (hp y) w).1 hD
    exact fun e he W=>hQ _ (hp.2 e he W) w
   rcases E with hp|hp
   ·exact .inr (.inr (by rcases hp y with h|⟨q,h⟩<;>rw[h]<;>rfl))
   exact .inl hp.1
  intro x;rw[←ak x y,←ap x y,←Act.put_comm a (f x) (fj y) a2,Array.setIfInBounds_comm _ _ d]
  have W:mI C (upF F i (p x)) (upI I (p x))→pI P md ops C G S ch n K fuel ((listed.setIfInBounds i true).setIfInBounds j true) ((a.put oi.dst (f x)).put oj.dst (fj y)) (upF (upF F i (p x)) j (r y)) (upI (upI I (p x)) (r y)):=by
   intro ai;rcases hjf with hjf|hjf
   case inr=>
    obtain⟨e1,e2⟩:=u.alone hjf.1 x X;rw[e1,e2];exact am y
   obtain⟨V',f',p',h',an⟩:=sx (((H x ai).2 j (ready_mono M d)).2 oj c);obtain⟨y',e1,e2⟩:=(aw x).one h' ai hjf y;rw[←e1,←e2];exact an y'
  have J:mI C (upF (upF F i (p x)) j (r y)) (upI (upI I (p x)) (r y))→mI C (upF F i (p x)) (upI I (p x)):=fun hs=>by
   rcases E with hp|hp
   case inr=>rw[u.quiet hp.1 x];exact v
   rcases hp y with h|⟨q,h⟩
   ·rw[h]at hs;exact hs
   rw[h]at hs;obtain⟨w,m,h2,T⟩:=hs;exact⟨w,m,fun k=>uT (p:=some q) (h2 k),T⟩
  cases fuel with
  | zero=>exact fun hs=>W (J hs) hs
  | succ fuel=>exact fun hs=>W (J hs) hs
theorem Af(hS:∀i s,S i=some s→∀x w w',G w w'→s.Φ x w→s.Φ x w')(hsel:Region.noSelect ops=true)(hT:TurnsX md ops S ch)(hs:Region.sinkB md ops n=true)(hc:Region.chainB md ops n=true)(hn:n<ops.size) :
  ∀(l:List Oper) (k:Nat) (listed:Array Bool) (a:Act) (F:Nat→World→Prop) (I:World→Prop),HeadInv md ops n listed→pJ G F I→FQ S F→(∀j,j<k→listed.getD j false=true)→k≤listed.size→(∀j,j<l.length→l[j]?=ops[k+j]?)→k+l.length=n →
  Region.lexHead md ops g l.length k listed=true→wpX P ops C G md S ch Q l k a F I →
  pI P md ops C G S ch n (fun listed' a' F' I'=>Region.seqB md ops g n listed'=true∧Dv C Q a' F' I') l.length listed a F I
 | [],k,listed,a,F,I,_,_,_,_,_,_,hk,hB,h=>fun _=>by
  have:k=n:=by simpa using hk
  subst this;exact⟨by simpa[Region.lexHead]using hB,h⟩
 | o::l,k,listed,a,F,I,inv,d,hQ,hlow,hsz,hl,hk,hB,h=>by
  have e:ops[k]?=some o:=by simpa using(hl 0 jz).symm
  simp only[List.length_cons,Region.lexHead,Bool.and_eq_true]at hB;obtain⟨⟨z,v⟩,q⟩:=hB;have c:k<n:=by simp only[List.length_cons]at hk;omega
  have b:k∈Region.ready md ops listed:=by simpa using z
  have u:k<listed.size:=by
   have e:=(mem_ready.1 b).1;rcases Nat.lt_or_ge k listed.size with h'|h'
   ·exact h'
   simp[Array.getElem?_eq_none h']at e
  obtain⟨V,f,p,t,m⟩:=sx (show jA P ops C G md S ch k o (wpX P ops C G md S ch Q l (k+1)) a F I from h)
  exact Et hS e (Region.noSelect_spec hsel) hT hs hc hn c (fun listed' a' F' I' d=>seqB_ready d.1) l.length listed a F I inv d hQ hlow (Region.free_spec e v) b t
   (fun x=>Af hS hsel hT hs hc hn l (k+1) _ _ _ _ (inv.set b c) (t.lasts hS d x) (t.fq hQ x) (fun j y=>by
     by_cases r:j=k
     ·subst r;simp[u]
     rw[getD_set_ne false (show k≠j by omega)];exact hlow j jo) jm (fun j y=>by have:=hl (j+1) jm;simpa[Nat.add_assoc,Nat.add_comm 1 j]using this) (by simp only[List.length_cons]at hk;omega) q (m x))
structure XAt (P:Program) (ops:Array Oper) (C:World→Prop) (G:World→World→Prop) (md:Region.Mode) (S:Nat→Option RSpec) (ch:Nat→Bool) (Q:Act→World→Prop) (l:List Oper) (k:Nat) (a:Act) (F:Nat→World→Prop) (I:World→Prop):Prop where
 out:wpX P ops C G md S ch Q l k a F I
theorem si{id:Nat}{Q':Exit→Act→World→Prop}{a:Act}{w:World}{l:List Oper}(n:Nat)(S:Nat→Option RSpec)(ch:Nat→Bool)(C:World→Prop)(G:World→World→Prop)
  (hm:P.follows .mixedOrders=true) (hB:Region.lexTailB .any l.toArray n=true) (hT:TurnsX .any l.toArray S ch) (hS:∀i s,S i=some s→∀x w w',G w w'→s.Φ x w→s.Φ x w') (hC:C { w with drawn:=w.drawn+1 })
  (h:XAt P l.toArray C G .any S ch (fun a w=>wpList P l.toArray Q' (l.drop n) a w) (l.take n) 0 a (fun _ _=>True) (fun _=>True)):(Code.region id l.toArray true).wp P Q' a w:=by
 simp only[Region.lexTailB,Bool.and_eq_true,decide_eq_true_eq]at hB;obtain⟨⟨⟨⟨d,D⟩,L⟩,J⟩,m⟩:=hB;have E:n<l.length:=by simpa using D
 have b:(l.take n).length=n:=jm;have q:(l.drop n).length=l.toArray.size-n:=jz
 have e:HeadInv .any l.toArray n (Array.replicate l.toArray.size false):=
  ⟨jz,fun j N _ A=>(by rw[getD_replicate_false]at A;cases A),fun t _ M=>getD_in (by simpa using M) (getD_replicate_false _ _)⟩
 have H:=Af (C:=C) (G:=G) (md:=.any) (g:=l.toArray.size-n) hS d hT L J D (l.take n) 0 _ a (fun _ _=>True) (fun _=>True) e ⟨fun _ _ _ _ _=>trivial,fun _ _ _ _=>trivial⟩ (fun _ _ _=>trivial) (fun j r=>absurd r jo) jo (fun j r=>by
  have y:j<n:=by rw[b]at r;exact r
  simp[y]) (by simpa using b) (by rw[b];exact m) h.out
 refine wp_region_any hm ?_
 have:=oP (Q':=Q') (g:=l.toArray.size-n) hS (fun c a' F' I' w' B z v u=>by
  have:=wpAny_of_seq (md:=.any) (Q':=Q') (l.drop n) n c a' w' (fun j=>by simp[List.getElem?_drop]) (by rw[q];exact B.1) (B.2 w' z v u)
  rwa[q]at this) _ _ _ _ _ _ hC (fun _=>trivial) trivial ⟨fun _ _ _ _ _=>trivial,fun _ _ _ _=>trivial⟩ H
 rw[b,show n+(l.toArray.size-n)=l.toArray.size by omega]at this;exact this
section
variable {o:Oper} {rest:List Oper} {k j:Nat} {a:Act} {F:Nat→World→Prop} {I:World→Prop}
theorem nR(k':Nat)(c:Value)(hk:k+1=k')(hs:S k=none)(hw:Region.wanted o (yielded ops a.tmps)=true)
  (hf:∀w,C w→iD md o F w→(execOp a.eval o).run P w=.ok (.value c) w) (h:XAt P ops C G md S ch Q rest k' (a.put o.dst c) F I):XAt P ops C G md S ch Q (o::rest) k a F I:=by
 subst hk;refine⟨?_⟩;show jA P ops C G md S ch k o _ a F I;unfold jA;rw[if_pos hw];simp only[hs];exact⟨c,fun w d b=>.inl (hf w d b),h.out⟩
theorem mZ(k':Nat)(s:RSpec)(hk:k+1=k')(hs:S k=some s)(hc:ch k=false)(hw:Region.wanted o (yielded ops a.tmps)=true)
  (hg:∀w,C w→iD md o F w→gT P G w (fun v w'=>C w'∧∃x,v=s.f x∧s.Φ x w') ((execOp a.eval o).run P w)) (h:∀x,XAt P ops C G md S ch Q rest k' (a.put o.dst (s.f x)) (upd F k (s.Φ x)) I):XAt P ops C G md S ch Q (o::rest) k a F I:=by
 subst hk;refine⟨?_⟩;show jA P ops C G md S ch k o _ a F I;unfold jA;rw[if_pos hw];simp only[hs];rw[if_neg (by rw[hc];decide)];exact⟨hg,fun x=>(h x).out⟩
theorem DR(k':Nat)(s0 s:RSpec)(hk:k+1=k')(hs:S k=some s0)(hl:xH G S k s)(hc:ch k=true)(hw:Region.wanted o (yielded ops a.tmps)=true)
  (hg:∀w,C w→I w→iD md o F w→gT P Tr w (fun v w'=>C w'∧∃x,v=s.f x∧s.Φ x w') ((execOp a.eval o).run P w)) (h:∀x,XAt P ops C G md S ch Q rest k' (a.put o.dst (s.f x)) (fun _ _=>True) (s.Φ x)):XAt P ops C G md S ch Q (o::rest) k a F I:=by
 subst hk;refine⟨?_⟩;show jA P ops C G md S ch k o _ a F I;unfold jA;rw[if_pos hw];simp only[hs];rw[if_pos hc];exact⟨s,hl,hg,fun x=>(h x).out⟩
theorem wG(k':Nat)(s:RSpec)(hk:k+1=k')(hs:S k=some s)(hc:ch k=true)(hw:Region.wanted o (yielded ops a.tmps)=true)
  (hg:∀w,C w→I w→iD md o F w→gT P Tr w (fun v w'=>C w'∧∃x,v=s.f x∧s.Φ x w') ((execOp a.eval o).run P w)) (h:∀x,XAt P ops C G md S ch Q rest k' (a.put o.dst (s.f x)) (fun _ _=>True) (s.Φ x)):XAt P ops C G md S ch Q (o::rest) k a F I:=
 DR k' s s hk hs (.inl hs) hc hw hg h
theorem ww(h:∀w,C w→(∀j,F j w)→I w→Q a w):XAt P ops C G md S ch Q [] k a F I:=⟨h⟩
end
def DT(md:Region.Mode)(ops:Array Oper)(l:List Nat)(i:Nat):Bool:=!l.contains i&&(match ops[i]? with|some o=>o.after.toList.all fun e=>!Region.binds md e || !l.contains e.on|none=>true)
def Ly(md:Region.Mode)(ops:Array Oper)(l:List Nat)(ch:Nat→Bool):Bool:=
 l.all fun j=>!ch j || ((List.range j).all fun i=>nL md ops 8 j i || DT md ops l i)&&l.all fun k=>decide (k≤j) || nL md ops 8 k j
theorem uK{l:List (Nat × RSpec)}(h:Ly md ops (l.map (·.1)) ch=true):TurnsX md ops (fF l) ch:=by
 have c:∀i,fF l i≠none→i∈l.map (·.1):=by
  intro i;clear h
  induction l with
  | nil=>intro h;exact absurd rfl h
  | cons x l ih=>
   intro h;obtain⟨k,s⟩:=x;unfold fF at h
   split at h
   ·rename_i e;subst e;simp
   exact List.mem_cons_of_mem _ (ih h)
 have b:∀i,(l.map (·.1)).contains i=false→fF l i=none:=fun i h=>by
  cases hs:fF l i with
  | none=>rfl
  | some s=>exact absurd (List.contains_iff_mem.2 (c i (by rw[hs];exact fun h=>nomatch h))) (by rw[h];decide)
 have m:∀j,fF l j≠none→ch j=true→(∀i,i<j→Waits md ops j i∨(fF l i=none∧∀o,ops[i]?=some o→∀e∈o.after,Region.binds md e=true→fF l e.on=none))∧∀k,j<k→fF l k≠none→Waits md ops k j:=fun j q d=>by
  have r:=List.all_eq_true.1 h j (c j q);simp only[d,Bool.not_true,Bool.false_or,Bool.and_eq_true,List.all_eq_true,Bool.or_eq_true,decide_eq_true_eq]at r;refine⟨fun i v=>?_,fun k D u=>?_⟩
  ·rcases r.1 i (List.mem_range.2 v)with h4|h4
   ·exact .inl (qE h4)
   unfold DT at h4;simp only[Bool.and_eq_true,Bool.not_eq_true']at h4;refine .inr ⟨b i h4.1,fun o z e B A=>?_⟩;have y:=h4.2;rw[z]at y;have w:=List.all_eq_true.1 y e (by simpa using B);rw[A]at w;exact b _ (by simpa using w)
  rcases r.2 k (c k u)with h4|h4
  ·omega
  exact qE h4
 exact⟨fun j q d=>(m j q d).1,fun i v d j t q=>(m i v d).2 j t q⟩
end
end Gx
end Go.Proofs.YtmomjpolkkbhnaaGreat
