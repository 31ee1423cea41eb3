/- The model: Run (printed by gen_mfg.py). -/
import Derived.Deep.CutBlock
import Derived.Test.YtmomjpolkkbhnaaGreatQModelRunsRow41
import Derived.Test.YtmomjpolkkbhnaaGreatQModelRunsRow44
set_option linter.unusedSimpArgs false
set_option linter.unusedVariables false
set_option maxRecDepth 20000
set_option maxHeartbeats 100000000
open Go.Proofs.Tryz
namespace Go.Proofs.YtmomjpolkkbhnaaGreat
namespace Md
open Go.RowKit Ut Tk Qy Qp Ev Cu
theorem IX:(prog.info? 42).map (fun i=>(i.zero,i.size,i.bytes))=some (some (.agg (rsC 0 0 0 nil nil nil 0 0 0 0)),10,128):=by kernel_rfl
structure RunS (n0 X K:Nat) (v:Value) (m:M) (L:List Rq) (xv:Value) (w:World) (k:Nat) (v' lv:Value) (aa:List Ans) (wr:World):Prop where
 at_:At wr n0 X (K+64*k) v' (iV m (L.take k))
 run:RunR m (L.take k) aa
 ans:RowK 42 10 (AnK v' wr) wr lv aa
 req:RowK 37 11 (RqK (fun b=>b=X∨v'.ownBlock=some b∨lv.ownBlock=some b) wr) wr xv L
 chg:Chg (fun b=>b=X∨v.ownBlock=some b) w wr
 own:OwnN w v v'
 low:∀b,lv.ownBlock=some b→w.heap.size≤b
def OC(n0 X K:Nat)(v:Value)(m:M)(L:List Rq)(xv:Value)(w:World)(e:Ending)(w':World):Prop:=∃v' lv aa,e=.returned lv∧RunS n0 X K v m L xv w L.length v' lv aa w'
section
variable {w w' w3 w9:World} {n0 X K k base:Nat} {v v' lv xv v3 v9 lw:Value} {m:M} {L:List Rq} {aa:List Ans} {a:Ans} {cs:Array Value} {vss:List (List Value)}
theorem RunS.start(h:At w n0 X K v m)(hR:RowK 37 11 (RqK (fun b=>b=X∨v.ownBlock=some b) w) w xv L):RunS n0 X K v m L xv w 0 v nil [] w:=
 ⟨h,RunR.start m,RowK.start ..,hR.same (fun _ _=>rfl) (fun x u c=>c.kp (zG _) (fun _ _ _=>rfl) (fun b _ d=>d.elim .inl (fun h=>h.elim .inr (fun h=>nomatch h)))),Chg.refl ..,.inl rfl,fun b h=>nomatch h⟩
theorem RunS.below{wr:World}(h:RunS n0 X K v m L xv w k v' lv aa wr)(hb:zWW wr w'):RunS n0 X K v m L xv w k v' lv aa w':=
 ⟨h.at_.below hb,h.run,h.ans.below hb (fun x u ⟨cs,e,hp⟩=>⟨cs,e,hp.below hb⟩),h.req.below hb (fun x u b=>b.below hb),h.chg.then_new hb,h.own,h.low⟩
theorem RunS.put(hA:At w3 n0 X (K+64*(k+1)) v3 (iV m (L.take (k+1))))(hr:RunR m (L.take (k+1)) (aa ++ [a]))(g1:vss.length=aa.length)(g2:w3.ownsRow base 42 10 lw aa.length vss.flatten)(g3:∀i (h:i<aa.length) (h':i<vss.length),vss[i].length=10∧AnK v3 w3 aa[i] vss[i])
  (hreq:RowK 37 11 (RqK (fun b=>b=X∨v3.ownBlock=some b∨lw.ownBlock=some b) w3) w3 xv L) (hch:Chg (fun b=>b=X∨v.ownBlock=some b) w w3) (hon:OwnN w v v3) (hlow:∀b,lw.ownBlock=some b→w.heap.size≤b)
  (hP:AnsP w3 v3 cs a) (hcs:cs.toList.length=10) (hp:w9.ownsRow 0 42 10 v9 (aa.length+1) (vss.flatten++cs.toList)) (hg:(w3.alloc (.cells cs 42)).grownBy w9 lw.ownBlock) (hat:v9.ownBlock=lw.ownBlock∨v9.ownBlock=some (w3.alloc (.cells cs 42)).heap.size) :
  RunS n0 X K v m L xv w (k+1) v3 v9 (aa ++ [a]) w9:=by
 have d:zWW w3 (w3.alloc (.cells cs 42)):=zRR _;have j:=zY d.size hg.size;have l:∀b,b<w3.heap.size→lw.ownBlock≠some b→w9.heap[b]?=w3.heap[b]?:=fun b hb hn=>(hg.block b (zT hb d.size) (fun e=>hn e.symm)).trans (d.block b hb)
 have f:∀b T,Tg w3 T b→T≠42→w9.heap[b]?=w3.heap[b]?:=fun b T g hn=>l b g.lt (fun e=>hn (g.one (fO g2 e)))
 have n:∀x u,AnK v3 w3 x u→AnK v3 w9 x u:=fun x u ⟨c,e,h⟩=>⟨c,e,h.kp j (fun b T g hn=>f b T g (by rcases hn with rfl|rfl|rfl|rfl<;>decide))⟩
 refine⟨hA.kp j (fun b hb=>by
  rcases hb with hb|hb|hb
  ·exact f b _ hb jd
  ·exact f b _ hb jd
  exact f b _ hb jd),hr,RowK.put g1 g3 hp hcs ⟨cs,rfl,hP.kp j (fun b T g hn=>f b T g (by rcases hn with rfl|rfl|rfl|rfl<;>decide))⟩ n,hreq.same (fun b hb=>f b _ hb jd) (fun x u o=>o.kp j (fun b hb hn=>l b hb (fun e=>hn (.inr (.inr e)))) (fun b hb hn=>?_)),?_,hon,fun b hb=>?_⟩
 ·rcases hn with hn|hn|hn
  ·exact .inl hn
  ·exact .inr (.inl hn)
  rcases hat with h|h
  ·exact .inr (.inr (h ▸ hn))
  rw[h]at hn;injection hn with hn;have:=d.size;omega
 ·exact hch.trans (O':=fun b=>lw.ownBlock=some b) ((Chg.of_new d).trans (Chg.of_grown hg (fun b h=>h)) (fun b h=>.inl h)) (fun b h=>.inr (hlow b h))
 rcases hat with h|h
 ·exact hlow b (h ▸ hb)
 rw[h]at hb;injection hb with hb;have:=d.size;have:=hch.size;omega
end
theorem Ce{w:World}{n0 X K:Nat}{v:Value}{m:M}(h:At w n0 X K v m)(hX:n0≤X)(hK:K≤50000)(A:Option Addr)(n c:Nat)(L:List Rq)(hR:RowK 37 11 (RqK (fun b=>b=X∨v.ownBlock=some b) w) w (.slice A n c) L)(hn:L.length=n)(hl:n≤20) :
  Calls prog 23 #[.pointer (some ⟨X,0,none⟩),.slice A n c] w (OC n0 X K v m L (.slice A n c) w):=by
 obtain⟨i0,ap,aq,ar,am⟩:=info_parts IX;have ac:=zh (RunS.start h hR);have ad:=zh hn;have ae:=zh h.blk;clear h hR hn;go_enter func23,ntmps23;go_wp2_with fail;refine(qz ae.out).mono ?_;rintro e w1 ⟨rfl,ao⟩;subst ao;clear ae;go_wp2_with fail;go_loopw [5,12] (fun lv iv wr=>∃(k:Nat) (v':Value) (aa:List Ans) (lw:Value),lw=lv∧k≤n∧iv=.int .i64 k∧Hid (RunS n0 X K v m L (.slice A n c) w k v' lw aa wr)) (fun _ iv _=>n-(intOf iv).toNat)
 case atStart=>exact⟨0,_,_,_,rfl,zS _,rfl,ac⟩
 clear ac;obtain⟨k,v2,aa,lw,rfl,hk,rfl,H⟩:=hrel;by_cases Y:k<n
 ·have N:k<L.length:=by rw[ad.out];exact Y
  have ax:(k:Int)<(n:Int):=jo;have aw:(0:Int)≤(k:Int):=jo;obtain⟨b,o,u,cc,eA,O,hq,i⟩:=H.out.req.at_ N;obtain⟨z,S,rfl,P,_⟩:=hq.at_;injection eA with eA e2 e3;clear e2 e3;subst eA;have s0:wr.cell? ⟨b,o+k*11,none⟩=some (.int .i64 L[k].op):=i 0 _ rfl;have s1:wr.cell? ⟨b,o+k*11+1,none⟩=some (.slice z.E z.en z.ec):=i 1 _ rfl;have s2:wr.cell? ⟨b,o+k*11+2,none⟩=some (.bool L[k].dur):=i 2 _ rfl;have s3:wr.cell? ⟨b,o+k*11+3,none⟩=some (.int .i64 L[k].now):=i 3 _ rfl;have s4:wr.cell? ⟨b,o+k*11+4,none⟩=some (.string L[k].q):=i 4 _ rfl;have s5:wr.cell? ⟨b,o+k*11+5,none⟩=some (.int .i64 L[k].frm):=i 5 _ rfl;have s6:wr.cell? ⟨b,o+k*11+6,none⟩=some (.int .i64 L[k].til):=i 6 _ rfl;have s7:wr.cell? ⟨b,o+k*11+7,none⟩=some (.int .i64 L[k].lim):=i 7 _ rfl;have s8:wr.cell? ⟨b,o+k*11+8,none⟩=some (.int .i64 L[k].width):=i 8 _ rfl;have s9:wr.cell? ⟨b,o+k*11+9,none⟩=some (.int .i64 L[k].after):=i 9 _ rfl;have ai:wr.cell? ⟨b,o+k*11+10,none⟩=some (.slice z.C z.cn z.cc):=i 10 _ rfl;have J:zWW wr (wr.alloc (.cells (rqC L[k] z) 37)):=zRR _;have ab:=zh (Blk.new wr 37 (rqC L[k] z));have s:=zh (P.below J);have d:=zh (H.out.below J);have l:Hid (∀a,AnsR (iV m (L.take k)) L[k] a→RunR m (L.take (k+1)) (aa ++ [a])):=zh (fun a ha=>H.out.run.put N ha);have af:Hid (gD (iV m (L.take k)) L[k]=iV m (L.take (k+1))):=zh (by rw[zL N,Ah]);clear i hq P J H;generalize L[k]=r at *
  go_upto_region 7 with(fail);generalize wr.alloc (.cells (rqC r z) 37)=w2 at *;clear s0 s1 s2 s3 s4 s5 s6 s7 s8 s9 ai;have CD:=zh (qO d.out.at_ jo hX r z s.out);go_wp2_with (first|(refine wpList_load_row (o:=⟨some 18,.load 37 _,_,_,_,_⟩) rfl 37 _ rfl (wr.heap.size) rfl 37 (rqC r z) (0,0) _ ab.out underlying37 rfl jk ?_)|fail);refine CD.out.mono ?_;rintro e w3 ⟨v3,m3,ay,rfl,V,T,g,Z,j⟩;obtain⟨rfl,f,B,I⟩:=V.ansP d.out.at_ jo g Z;have au:=nu g d.out.at_.own hX d.out.at_.n0;have U:=zh (l.out f B);obtain⟨A3,n3,c3,B3,k3,d3,C3,l3,f3,rfl,_⟩:=I.o.at_;have G:=T.more (show K+64*k+64≤K+64*(k+1) by omega);rw[af.out]at G;have p:RowK 42 10 (AnK v3 w3) w3 lw aa:=d.out.ans.same (fun b O=>ry g d.out.at_ jd jd O) (fun x u ⟨cs,e,hp⟩=>⟨cs,e,hp.step d.out.at_ g j⟩)
  have y:RowK 37 11 (RqK (fun b=>b=X∨v3.ownBlock=some b∨lw.ownBlock=some b) w3) w3 (.slice (some ⟨b,o,none⟩) n c) L:=d.out.req.same (fun b O=>ry g d.out.at_ jd jd O) (fun x u hq=>hq.kp g.size (fun b O hn=>g.block b O (fun h=>hn (h.elim .inl (fun h=>.inr (.inl h))))) (fun b O hn=>by
   rcases hn with hn|hn|hn
   ·exact .inl hn
   ·rcases j with h|h
    ·exact .inr (.inl (h ▸ hn))
    have:=h b hn;omega
   exact .inr (.inr hn)))
  obtain⟨base,vss,g1,g2,g3⟩:=p.ex;have F:=zh (fun v9 w9 hp hg aj=>RunS.put (v9:=v9) (w9:=w9) (cs:=#[.int .i64 f.E,.int .i64 f.seq,.int .i64 f.fl,.slice A3 n3 c3,.slice B3 k3 d3,.slice C3 l3 f3,.int .i64 f.ev,.int .i64 f.nx,.int .i64 f.nw,.int .i64 f.ak]) G U.out g1 g2 g3 y (J8 d.out.chg d.out.own g) (J9 d.out.own j d.out.chg.size) d.out.low I rfl hp hg aj);have ag:=zh (lH (g2.alloc (.cells #[.int .i64 f.E,.int .i64 f.seq,.int .i64 f.fl,.slice A3 n3 c3,.slice B3 k3 d3,.slice C3 l3 f3,.int .i64 f.ev,.int .i64 f.nx,.int .i64 f.nw,.int .i64 f.ak] 42)) (zS _));have av:aa.length≤20:=by have h:=d.out.run.1;rw[zK]at h;omega
  clear G p y g1 g2 g3 CD V T g Z j au B I d ab s U l af;generalize vss.flatten=zs at *;generalize W:aa.length=al at *;clear W;go_wp2_with (first|(at_builtin;refine wpList_append_own_at _ rfl _ _ 77 rfl 0 42 i0 _ 10 128 underlying77 ap aq ar am rfl jd _ al zs rfl ag.out ⟨w3.heap.size,0,none⟩ 1 1 [.int .i64 f.E,.int .i64 f.seq,.int .i64 f.fl,.slice A3 n3 c3,.slice B3 k3 d3,.slice C3 l3 f3,.int .i64 f.ev,.int .i64 f.nx,.int .i64 f.nw,.int .i64 f.ak] rfl rfl (vH (cs:=#[.int .i64 f.E,.int .i64 f.seq,.int .i64 f.fl,.slice A3 n3 c3,.slice B3 k3 d3,.slice C3 l3 f3,.int .i64 f.ev,.int .i64 f.nx,.int .i64 f.nw,.int .i64 f.ak]) (t:=42) (fr:=(0,0)) (vK w3 _)) jt ?k1 ?k2 ?k3 ?_)|fail)
  case k1=>unfold maxLen;omega
  case k2=>omega
  case k3=>exact zS _
  intro v9 w9 ah R _ D;have HF:=zh (F.out v9 w9 ah R (by rw[vM];exact D));clear F ag ah R D;go_wp2_with fail;go_roundw
  case rel=>exact⟨k+1,v3,aa ++ [f],_,rfl,jo,ju,HF⟩
  simp[intOf];omega
 obtain rfl:k=n:=jo;have HL:=zh H.out.ans;have an:=H;clear H Y;go_wp2;go_ret;exact⟨v2,lw,aa,rfl,by rw[ad.out];exact an.out⟩
end Md

namespace Md
open Go.RowKit Ut Tk Qy Qp Ev Cu
structure Bld (w0:World) (X:Nat) (l:List Rq) (xv:Value) (wr:World):Prop where
 row:RowK 37 11 (RqK (fun b=>b=X∨xv.ownBlock=some b) wr) wr xv l
 bel:zWW w0 wr
 low:∀b,xv.ownBlock=some b→w0.heap.size≤b
section
variable {w0 wr w3 w9:World} {X B:Nat} {l:List Rq} {q:Rq} {z:Rw} {xv v9:Value} {base:Nat} {vss:List (List Value)}
theorem Bld.start(w:World)(X:Nat):Bld w X [] nil w:=⟨RowK.start ..,zy _ _,fun b h=>nomatch h⟩
theorem Bld.below(h:Bld w0 X l xv wr)(hb:zWW wr w3):Bld w0 X l xv w3:=⟨h.row.below hb (fun x u a=>a.below hb),h.bel.trans (hb.mono h.bel.size),h.low⟩
theorem Bld.put(h:Bld w0 X l xv wr)(hX:X<wr.heap.size)(hB:B≤X)(hB0:B≤w0.heap.size)(hb:zWW wr w3)(hrq:RqAt w3 q z)(hE:EvsS w3 (fun b=>wr.heap.size≤b∧b<w3.heap.size) z.E z.en z.ec q.evs)(hcu:Reads w3 B 1 z.C z.cn (bv q.cur))
  (g1:vss.length=l.length) (g2:w3.ownsRow base 37 11 xv l.length vss.flatten) (g3:∀i (h:i<l.length) (h':i<vss.length),vss[i].length=11∧RqK (fun b=>b=X∨xv.ownBlock=some b) w3 l[i] vss[i])
  (hp:w9.ownsRow 0 37 11 v9 (l.length+1) (vss.flatten++(rqC q z).toList)) (hg:(w3.alloc (.cells (rqC q z) 37)).grownBy w9 xv.ownBlock) (hat:v9.ownBlock=xv.ownBlock∨v9.ownBlock=some (w3.alloc (.cells (rqC q z) 37)).heap.size):Bld w0 X (l ++ [q]) v9 w9:=by
 have c:zWW w3 (w3.alloc (.cells (rqC q z) 37)):=zRR _;have v:=zY c.size hg.size;have d:=h.bel.size;have m:=hb.size;have f:∀b,b<w3.heap.size→xv.ownBlock≠some b→w9.heap[b]?=w3.heap[b]?:=fun b hb hn=>(hg.block b (zT hb c.size) (fun e=>hn e.symm)).trans (c.block b hb)
 have r:∀b,b<w3.heap.size→(b=X∨v9.ownBlock=some b)→b=X∨xv.ownBlock=some b:=fun b hb hn=>hn.imp id (fun hn=>by
  rcases hat with h|h
  ·exact h ▸ hn
  rw[h]at hn;injection hn with hn;have:=c.size
  omega)
 have a:∀b,xv.ownBlock=some b→w0.heap.size≤b∧b<wr.heap.size:=fun b hb=>⟨h.low b hb,by
  obtain⟨_,_,_,s,_⟩:=h.row.ex
  exact(fO s hb).lt⟩
 have j:RqK (fun b=>b=X∨xv.ownBlock=some b) w3 q (rqC q z).toList:=by
  refine⟨z,fun b=>(wr.heap.size≤b∧b<w3.heap.size)∨b<B,rfl,hE.same (fun b hb=>⟨.inl hb,rfl⟩),⟨hcu.1,fun t=>?_⟩,fun b hb=>?_,w3,hrq⟩
  ·obtain⟨b,o,e,g,p⟩:=hcu.2 t;exact⟨b,o,e,.inr g,p⟩
  rcases hb with hb|hb
  ·exact⟨hb.2,fun hn=>by
    rcases hn with rfl|hn
    ·omega
    have:=(a b hn).2;omega⟩
  exact⟨jo,fun hn=>by
   rcases hn with rfl|hn
   ·omega
   have:=(a b hn).1;omega⟩
 have n:∀x u,RqK (fun b=>b=X∨xv.ownBlock=some b) w3 x u→RqK (fun b=>b=X∨v9.ownBlock=some b) w9 x u:=fun x u j=>j.kp v (fun b hb hn=>f b hb (fun e=>hn (.inr e))) r
 refine⟨RowK.put g1 g3 hp rfl (n _ _ j) n,?_,fun b hb=>?_⟩
 ·exact((h.bel.trans (hb.mono d)).trans (c.mono (zY d m))).grown hg (by rw[vM];omega) (fun k f=>(a k f).1)
 rcases hat with h|h
 ·exact(a b (h ▸ hb)).1
 rw[h]at hb;injection hb with hb;have:=c.size;omega
end
def qsL(L:List Rq)(T:List Bool):List Rq:=List.zipWith (fun r t=>ofR r t []) L T
theorem BX{L:List Rq}{T:List Bool}{k:Nat}(h1:k<L.length)(h2:k<T.length):(qsL L T).take (k+1)=(qsL L T).take k ++ [ofR L[k] T[k] []]:=by
 have a:k<(List.zipWith (fun r t=>ofR r t []) L T).length:=by rw[List.length_zipWith];omega
 show (List.zipWith (fun r t=>ofR r t []) L T).take (k+1)=(List.zipWith (fun r t=>ofR r t []) L T).take k++_;rw[zL a,List.getElem_zipWith]
theorem sN{W w':World}{rb:Nat}{T U:TypeId}{b:Nat}{cs:Array Value}(hc:Chg (fun b=>b=rb) W w')(hb:Blk W rb U cs)(hT:Tg W T b)(hn:T≠U):w'.heap[b]?=W.heap[b]?:=hc.block b hT.lt (fun e=>by
 subst e
 exact hn (hT.one ⟨_,_,hb⟩))
theorem RAt.zero{w:World}{S:Nat→Prop}{K g:Nat}{T:TypeId}{m:M}{y:Rz}{old new:Array Value}(h:RAt w S K m y)(hg:Blk w g T old)(hz:∀(o:Nat) n,old[o]?=some (Value.int .i64 n)→n=0∧∃n',new[o]?=some (Value.int .i64 n'))(hs:∀(o:Nat) s,old[o]?≠some (Value.string s)):RAt (w.setRow g new) S K m y:=by
 have W:∀b,b≠g→(w.setRow g new).heap[b]?=w.heap[b]?:=fun b p=>vL w g b new p
 have hn:Blk (w.setRow g new) g T new:=zz w g old new T (0,0) hg
 have V:∀ {k n:Nat} {A:Option Addr} {xs:List Value},ReadsS w S k A n xs→(0<n→∃j u,xs[j]?=some u∧((∃v,u=Value.int .i64 v∧v≠0)∨∃s,u=Value.string s))→ReadsS (w.setRow g new) S k A n xs:=fun {k n A xs} hr C=>⟨hr.1,fun D=>by
  obtain⟨b,o,e,p,x⟩:=hr.2 D;obtain⟨j,u,c,hu⟩:=C D
  have L:b≠g:=by
   rintro rfl;have d:=x j u c;rw[hg.cell (o+j)]at d;rcases hu with⟨v,rfl,O⟩|⟨s,rfl⟩
   ·exact O (hz _ _ d).1
   exact hs _ _ d
  exact⟨b,o,e,p,fun j u c=>(vP (W b L)).trans (x j u c)⟩⟩
 obtain⟨vss,h1,h2,H⟩:=h.ds.ex;obtain⟨J,N⟩:=h.en;have I:=h.ds.ln;refine⟨⟨I,vss,h1,V h2 (fun D=>?_),fun i a b=>?_⟩,h.cap,h.nl,?_,h.ek,h.ok,h.few,fun b p=>by simpa using h.lt b p⟩
 ·have h4:∀v∈vss,v.length=3:=fun v O=>by
   obtain⟨j,c,rfl⟩:=zu.1 O;exact(H j jo c).len
  obtain⟨F,Z,U,e,_⟩:=(H 0 jo jo).ex;have Y:=iM h4 0 0 jo jo;rw[e]at Y;exact⟨_,_,Y,.inl ⟨_,rfl,by rw[(h.ok.doc 0 jo).2.1];decide⟩⟩
 ·obtain⟨F,Z,U,e,g1,P,g3⟩:=(H i a b).ex;refine⟨F,Z,U,e,V g1 (fun D=>?_),P,g3⟩
  cases R:m.ds[i].fs with
  | nil=>rw[R]at P;simp at P;omega
  | cons f l=>exact⟨0,.string f.1,by simp[fJ],.inr ⟨_,rfl⟩⟩
 by_cases C:0<y.en
 ·obtain⟨b,o,e,p,x⟩:=N.2 C;by_cases r:b=g
  ·subst r
   have t:∀j,∃n',j<y.en→new[o+j]?=some (Value.int .i64 n'):=fun j=>by
    by_cases c:j<y.en
    ·have E:j<J.length:=by have:=N.1;rw[List.length_map]at this;omega
     have d:=x j (.int .i64 J[j]) (by rw[List.getElem?_map,zU E];rfl);rw[hg.cell (o+j)]at d;obtain⟨_,n',G⟩:=hz _ _ d;exact⟨n',fun _=>G⟩
    exact⟨0,fun h=>absurd h c⟩
   obtain⟨f,R⟩:=Classical.skolem.1 t;refine⟨(List.range y.en).map f,jz,fun _=>⟨b,o,e,p,fun j u c=>?_⟩⟩;rw[hn.cell (o+j)];rw[List.map_map,List.getElem?_map]at c
   have E:j<y.en:=by
    rcases zj j y.en with h|h
    ·exact h
    rw[List.getElem?_eq_none (by simpa using h)]at c;cases c
   rw[List.getElem?_range E]at c;injection c with c;rw[R j E,←c];rfl
  exact⟨J,N.1,fun _=>⟨b,o,e,p,fun j u c=>(vP (W b r)).trans (x j u c)⟩⟩
 obtain C:y.en=0:=jo;rw[C];exact⟨[],ReadsS.none_⟩
structure DocS (W:World) (rb:Nat) (m0:M) (XS:List Rq) (k:Nat) (y:Rz) (S:Nat→Prop) (wr:World):Prop where
 chg:Chg (fun b=>b=rb) W wr
 blk:Blk wr rb 29 (rmC (iV m0 (XS.take k)) y)
 rt:RAt wr S (130*k) (iV m0 (XS.take k)) y
 frb:∀b,S b→b≠rb
theorem DocS.below{W wr w2:World}{rb k:Nat}{m0:M}{XS:List Rq}{y:Rz}{S:Nat→Prop}(h:DocS W rb m0 XS k y S wr)(hb:zWW wr w2):DocS W rb m0 XS k y S w2:=⟨h.chg.then_new hb,h.blk.below hb h.blk.lt,h.rt.below hb,h.frb⟩
theorem RowK.tag{T:TypeId}{k:Nat}{α:Type}{Q:α→List Value→Prop}{w:World}{b o n c:Nat}{l:List α}(h:RowK T k Q w (.slice (some ⟨b,o,none⟩) n c) l):Tg w T b:=by
 obtain⟨base,vss,e,a,d⟩:=h.ex;exact fO a rfl
theorem NQ{O:Nat→Prop}{W w:World}{rb:Nat}(h:Chg O W w)(hO:O rb)(cs:Array Value):Chg O W (w.setRow rb cs):=
 ⟨h.os,h.tape,h.output,by simpa using h.size,fun k b a=>(vL w rb k cs (fun e=>a (e ▸ hO))).trans (h.block k b a)⟩
theorem DocS.next{W wr w2:World}{rb k:Nat}{m0 m':M}{XS:List Rq}{y y':Rz}{S S':Nat→Prop}(h:DocS W rb m0 XS k y S wr)(hb:zWW wr w2)(hR:RAt w2 S' (130*(k+1)) m' y')(hf:∀b,S' b→b≠rb)(hm:m'=iV m0 (XS.take (k+1))):DocS W rb m0 XS (k+1) y' S' (w2.setRow rb (rmC m' y')):=by
 have a:=h.blk.below hb h.blk.lt;refine⟨NQ (h.chg.then_new hb) rfl _,?_,?_,hf⟩
 ·rw[←hm];exact zz w2 rb _ _ _ _ a
 rw[←hm];exact hR.rows hf _
theorem MH:∀(o:Nat) n,(zmC:Array Value)[o]?=some (Value.int .i64 n)→n=0:=fun o n h=>by
 rcases zj o 12 with ho|ho
 ·rcases(by omega:o=0∨o=1∨o=2∨o=3∨o=4∨o=5∨o=6∨o=7∨o=8∨o=9∨o=10∨o=11)with rfl|rfl|rfl|rfl|rfl|rfl|rfl|rfl|rfl|rfl|rfl|rfl<;>first|(injection h with h;injection h with _ h;exact h.symm)|cases h
 rw[zp (by simpa[zmC]using ho)]at h
 cases h
theorem RAt.first{w:World}{S:Nat→Prop}{K g:Nat}{m m2:M}{y y2:Rz}(h:RAt w S K m y)(hg:Blk w g 29 zmC):RAt (w.setRow g (rmC m2 y2)) S K m y:=h.zero hg (fun o n a=>⟨MH o n a,by
 rcases zj o 12 with h12|h12
 ·rcases(by omega:o=0∨o=1∨o=2∨o=3∨o=4∨o=5∨o=6∨o=7∨o=8∨o=9∨o=10∨o=11)with rfl|rfl|rfl|rfl|rfl|rfl|rfl|rfl|rfl|rfl|rfl|rfl<;>first|exact⟨_,rfl⟩|cases a
 ·rw[zp (by simpa[zmC]using h12)]at a
  cases a⟩) (fun o s a=>by
 rcases zj o 12 with h12|h12
 ·rcases(by omega:o=0∨o=1∨o=2∨o=3∨o=4∨o=5∨o=6∨o=7∨o=8∨o=9∨o=10∨o=11)with rfl|rfl|rfl|rfl|rfl|rfl|rfl|rfl|rfl|rfl|rfl|rfl<;>cases a
 rw[zp (by simpa[zmC]using h12)]at a
 cases a)
theorem RAt.second{w:World}{S:Nat→Prop}{K g:Nat}{m:M}{y:Rz}{e s f v n u k:Int}{d b c:Value}(h:RAt w S K m y)(hg:Blk w g 42 rs0):RAt (w.setRow g (rsC e s f d b c v n u k)) S K m y:=h.zero hg (fun o n a=>by
 rcases zj o 10 with h12|h12
 ·rcases(by omega:o=0∨o=1∨o=2∨o=3∨o=4∨o=5∨o=6∨o=7∨o=8∨o=9)with rfl|rfl|rfl|rfl|rfl|rfl|rfl|rfl|rfl|rfl<;>first|(injection a with a;injection a with _ a;exact⟨a.symm,_,rfl⟩)|cases a
 ·rw[zp (by simpa[rsC]using h12)]at a
  cases a) (fun o s a=>by
 rcases zj o 10 with h12|h12
 ·rcases(by omega:o=0∨o=1∨o=2∨o=3∨o=4∨o=5∨o=6∨o=7∨o=8∨o=9)with rfl|rfl|rfl|rfl|rfl|rfl|rfl|rfl|rfl|rfl<;>cases a
 rw[zp (by simpa[rsC]using h12)]at a
 cases a)
end Md

namespace Md
open Go.RowKit Ut Tk Qy Qp Ev Cu
def Nob(w:World)(p:Option Addr):Prop:=p=none∨∃X,p=some ⟨X,0,none⟩∧Blk w X 81 #[.int .i64 0,.int .i64 0,.int .i64 0,.int .i64 0,.int .i64 0,.bool false,.bool false,.slice none 0 0,.int .i64 0,.int .i64 0,.int .i64 0,.bool false]
theorem Nob.below{w w':World}{p:Option Addr}(h:Nob w p)(hb:zWW w w'):Nob w' p:=h.imp id (fun⟨X,e,h⟩=>⟨X,e,h.below hb h.lt⟩)
theorem um{w:World}{p:Option Addr}(h:Nob w p):Calls prog 26 #[.pointer p] w fun e w'=>e=.returned (.bool true)∧w=w':=by
 rcases h with rfl|⟨X,rfl,h⟩
 ·go_enter func26,ntmps26;go_wp2;go_ret;exact⟨rfl,rfl⟩
 have a:=h.cell 11;simp only[zA,zB,zC]at a;clear h;go_enter func26,ntmps26;go_wp2;go_ret;exact⟨rfl,rfl⟩
theorem KC{w:World}{p:Option Addr}(h:Nob w p):Calls prog 22 #[.pointer p] w fun e w'=>e=.returned nil∧zWW w w':=by
 have C:=zh (um h);clear h;go_enter func22,ntmps22;go_wp2_with fail;refine C.out.mono ?_;rintro e b ⟨rfl,a⟩;subst a;go_wp2;go_ret;exact⟨rfl,zy _ _⟩
theorem KD{w:World}{p:Option Addr}(h:Nob w p):Calls prog 24 #[.pointer p] w fun e w'=>e=.returned (.pointer none)∧zWW w w':=by
 have C:=zh (um h);clear h;go_enter func24,ntmps24;go_wp2_with fail;refine C.out.mono ?_;rintro e b ⟨rfl,a⟩;subst a;go_wp2;go_ret;exact⟨rfl,zy _ _⟩
theorem NR{w:World}{p:Option Addr}(h:Nob w p)(r:Rq)(z:Rw):Calls prog 11 #[.pointer p,.agg (rqC r z)] w fun e w'=>e=.returned (bad 4)∧zWW w w':=by
 have j:zWW w ((w.alloc (.cells (rqC r z) 37)).alloc (.cells rs0 42)):=(zRR _).alloc jz _;have k:=Blk.new (w.alloc (.cells (rqC r z) 37)) 42 rs0;rw[show (w.alloc (.cells (rqC r z) 37)).heap.size=w.heap.size+1 by simp]at k;have C:=zh (um (h.below j));have i:=zh k;have f:=zh j;clear h j k;go_enter func11,ntmps11
 go_upto_region 1 with(fail);generalize ((w.alloc (.cells (rqC r z) 37)).alloc (.cells rs0 42))=l at *;go_wp2_with fail;refine C.out.mono ?_;rintro e n ⟨rfl,g⟩;subst g;clear C;go_wp2_with fail;refine(iy 4 _).mono ?_;rintro e m ⟨rfl,a⟩;have d:=zt f a;have b:=zb i a;clear a;have c:=zh (zz _ (w.heap.size+1) _ (rsC 4 0 0 nil nil nil 0 0 0 0) _ _ b.out);go_wp2_with (refine zx (o:=⟨none,.store 42 _ _,_,_,_,_⟩) rfl 42 _ _ rfl (w.heap.size+1) (rsC 4 0 0 nil nil nil 0 0 0 0) rfl rfl 42 rs0 b.out jk rfl (by simp[rsC,Value.oneCell']) ?_);refine zw (fA rfl rfl (zv _ (w.heap.size+1) 42 42 _ (0,0) _ c.out underlying42 rfl jk)) rfl ?_;exact⟨rfl,vI d.out (zZ _) _⟩
end Md

namespace Md
open Go.RowKit Ut Tk Qy Qp Ev Cu
theorem KG:(prog.info? 37).map (fun i=>(i.zero,i.size,i.bytes))=some (some (.agg zrC),11,128):=by kernel_rfl
theorem KH(A0:Option Addr)(na ca:Nat)(LL:List Rq)(TT:List Bool)(A1:Option Addr)(nb cb:Nat)(L2:List Rq)(T2:List Bool)(cs1 cs2:Array Value)(a b:Ans)(w:World)(hL:StepsAt w A0 na ca LL)(hT:StepsT w A0 na TT)(hL2:StepsAt w A1 nb cb L2)(hT2:StepsT w A1 nb T2)(ha:AnsI w cs1 a)(hb:AnsI w cs2 b) :
  Calls prog 7 #[.slice A0 na ca,.slice A1 nb cb,.agg cs1,.agg cs2] w fun e w'=>e=.returned (.bool true)∧zWW w w':=by
 have di:=zh hL;have c2:=zh hT;have dW:=zh hL2;have d4:=zh hT2;have aW:=zh ha;have bS:=zh hb;have cR:LL.length≤na:=by rw[hL.ln];exact zG _
 have dq:na≤LL.length:=by rw[hL.ln];exact zG _
 have cQ:na≤TT.length:=by rw[hT.ln];exact zG _
 have dD:L2.length≤nb:=by rw[hL2.ln];exact zG _
 have dk:nb≤L2.length:=by rw[hL2.ln];exact zG _
 have dI:nb≤T2.length:=by rw[hT2.ln];exact zG _
 have ef:=hL.few;have eF:=hL2.few;have bx:zWW w ((w.alloc (.cells cs1 42)).alloc (.cells cs2 42)):=(zRR _).alloc jz _;have bi:=(Blk.new w 42 cs1).alloc (.cells cs2 42);have ap:=Blk.new (w.alloc (.cells cs1 42)) 42 cs2;rw[show (w.alloc (.cells cs1 42)).heap.size=w.heap.size+1 by simp]at ap;have R:=zh bi;have P:=zh ap;have cV:=zh bx;obtain⟨i0,cW,dX,bk,aT⟩:=info_parts KG;clear hL hT hL2 hT2 ha hb bx bi ap;go_enter func7,ntmps7
 go_upto_region 1 with(fail);generalize ((w.alloc (.cells cs1 42)).alloc (.cells cs2 42))=w1 at *;go_wp2_with fail;refine(uj w1).mono ?_;rintro e wB ⟨rfl,ab⟩;have cr:=zt cV ab;have R:=zb R ab;have P:=zb P ab;have ek:=cr.out.size;clear ab cV;go_wp2_with fail;refine(CY conf jd wB).mono ?_;rintro e w3 hN;rcases hN with⟨_,X,rfl,hX,hA,bH⟩|⟨h,_⟩
 case inr=>exact absurd rO h
 obtain⟨m0,cl⟩:∃m0:M,(⟨conf,[],-9223372036854775808,-9223372036854775808,0⟩:M)=m0:=⟨_,rfl⟩;rw[cl]at hA;have cF:=zh cl;have bA:=zt cr bH;have R:=zb R bH;have P:=zb P bH;have ba:=zh hA;clear hA bH cr cl;go_wp2_with fail;refine(IL w3).mono ?_;rintro e w5 ⟨rfl,a8⟩;have F:=zt bA a8;have R:=zb R a8;have P:=zb P a8;have V:=zh (ba.out.below a8);have dN:=V.out.blk.lt;have dt:=F.out.size;have dg:w.heap.size≤X:=jo;clear a8 bA ba;have a2:w.heap.size≤w5.heap.size:=dt
 go_upto_block 0 with(fail)
 go_cut [11]from 40 to 57 (fun xv d=>Hid (Bld w5 X ((qsL LL TT).take 20) xv d))
 case first=>
  go_wp2_with fail;go_loopw [11,13] (fun xv iv wr=>∃(k:Nat) (xw:Value),xw=xv∧iv=.int .i64 k∧k≤na∧k≤20∧Hid (Bld w5 X ((qsL LL TT).take k) xw wr)) (fun _ iv _=>20-(intOf iv).toNat)
  case atStart=>exact⟨0,_,rfl,rfl,zS _,zS _,zh (Bld.start _ _)⟩
  obtain⟨k,xw,rfl,rfl,ej,dB,HX⟩:=hrel;by_cases af:k<na∧k<20
  ·obtain⟨af,cu⟩:=af;have aV:(k:Int)<(na:Int):=jo;have a0:(k:Int)<20:=jo;have bZ:(0:Int)≤(k:Int):=jo;have ay:k<LL.length:=jo;have bz:k<TT.length:=jo;obtain⟨b,o,z,bc,aU,hc,hr⟩:=di.out.ex k ay;obtain⟨b',o',ad,aY,aG⟩:=c2.out.ex k bz;rw[bc]at ad;injection ad with ad;injection ad with e1 e2 _;subst e1 e2;subst bc;have ag:zWW w wr:=F.out.trans (HX.out.bel.mono F.out.size);have hs:∀j u,(rqC LL[k] z)[j]?=some u→wr.cell? ⟨b,o+k*12+j,none⟩=some u:=fun j u hj=>(ag.cell (p:=⟨b,o+k*12+j,none⟩) aU).trans (hc j u hj)
   have aB:=(ag.cell (p:=⟨b,o+k*12+11,none⟩) aY).trans aG;have bB:=zh (hr.below ag);have bl:Hid (Reads wr w.heap.size 1 z.C z.cn (bv LL[k].cur)):=zh (hr.cur.below ag);have bu:=zh (BX (L:=LL) (T:=TT) ay bz);clear hc hr aG ag;generalize LL[k]=r at *;generalize TT[k]=fl at *;have s0:wr.cell? ⟨b,o+k*12,none⟩=some (.int .i64 r.op):=hs 0 _ rfl;have s1:wr.cell? ⟨b,o+k*12+1,none⟩=some (.slice z.E z.en z.ec):=hs 1 _ rfl;have s2:wr.cell? ⟨b,o+k*12+2,none⟩=some (.bool r.dur):=hs 2 _ rfl;have s3:wr.cell? ⟨b,o+k*12+3,none⟩=some (.int .i64 r.now):=hs 3 _ rfl;have s4:wr.cell? ⟨b,o+k*12+4,none⟩=some (.string r.q):=hs 4 _ rfl;have s5:wr.cell? ⟨b,o+k*12+5,none⟩=some (.int .i64 r.frm):=hs 5 _ rfl;have s6:wr.cell? ⟨b,o+k*12+6,none⟩=some (.int .i64 r.til):=hs 6 _ rfl;have s7:wr.cell? ⟨b,o+k*12+7,none⟩=some (.int .i64 r.lim):=hs 7 _ rfl;have s8:wr.cell? ⟨b,o+k*12+8,none⟩=some (.int .i64 r.width):=hs 8 _ rfl;have s9:wr.cell? ⟨b,o+k*12+9,none⟩=some (.int .i64 r.after):=hs 9 _ rfl;have bn:wr.cell? ⟨b,o+k*12+10,none⟩=some (.slice z.C z.cn z.cc):=hs 10 _ rfl;have cz:wr.cell? ⟨b,o+k*12+11,none⟩=some (.bool fl):=aB;clear hs aB;have cq:X<wr.heap.size:=zT dN HX.out.bel.size;have CO:=zh (o7 r z fl none 0 0 [] wr bB.out Reads.none_ ⟨jo,zG _,fun _=>rfl⟩);go_wp2_with fail;refine CO.out.mono ?_;rintro e wa ⟨W,rfl,am,ao,aM,a3⟩;have aO:=a3 wa w.heap.size (bl.out.below (ao.mono jo)) Reads.none_;have aH:=(HX.out.below ao).row;obtain⟨cP,bK,g1,g2,g3⟩:=aH.ex;have ea:((qsL LL TT).take k).length≤20:=jw;obtain⟨H,aA⟩:∃H,ofR r fl []=H:=⟨_,rfl⟩;rw[aA]at am aM aO bu ⊢;have aC:=zh (fun v9 w9 hp hg cp=>Bld.put (v9:=v9) (w9:=w9) HX.out cq dg a2 ao am aM aO g1 g2 g3 hp hg cp);have aF:=zh (lH (g2.alloc (.cells #[.int .i64 H.op,.slice W.E W.en W.ec,.bool H.dur,.int .i64 H.now,.string H.q,.int .i64 H.frm,.int .i64 H.til,.int .i64 H.lim,.int .i64 H.width,.int .i64 H.after,.slice W.C W.cn W.cc] 37)) (zS _));clear CO am aM a3 aO aH g1 g2 g3 s0 s1 s2 s3 s4 s5 s6 s7 s8 s9 bn cz bB bl HX aA;generalize bK.flatten=zs at *;generalize (qsL LL TT).take k=qk at *;generalize bf:qk.length=al at *;clear bf;go_wp2_with (first|(at_builtin;refine wpList_append_own_at _ rfl _ _ 76 rfl 0 37 i0 _ 11 128 underlying76 cW dX bk aT rfl jd _ al zs rfl aF.out ⟨wa.heap.size,0,none⟩ 1 1 [.int .i64 H.op,.slice W.E W.en W.ec,.bool H.dur,.int .i64 H.now,.string H.q,.int .i64 H.frm,.int .i64 H.til,.int .i64 H.lim,.int .i64 H.width,.int .i64 H.after,.slice W.C W.cn W.cc] rfl rfl (vH (cs:=#[.int .i64 H.op,.slice W.E W.en W.ec,.bool H.dur,.int .i64 H.now,.string H.q,.int .i64 H.frm,.int .i64 H.til,.int .i64 H.lim,.int .i64 H.width,.int .i64 H.after,.slice W.C W.cn W.cc]) (t:=37) (fr:=(0,0)) (vK wa _)) jt ?k1 ?k2 ?k3 ?_)|fail)
   case k1=>unfold maxLen;omega
   case k2=>omega
   case k3=>exact zS _
   intro v9 w9 bC a6 _ aI;have HF:=zh (aC.out v9 w9 bC a6 (by rw[vM];exact aI));clear aC aF bC a6 aI;go_wp2_with fail;go_roundw
   case rel=>exact⟨k+1,_,rfl,ju,jo,jo,by rw[bu.out];exact HF⟩
   simp[intOf];omega
  have cH:Hid (Bld w5 X ((qsL LL TT).take 20) xw wr):=zh (by
   have h:=HX.out;rcases(by omega:k=20∨na≤k)with e|e
   ·rw[←e];exact h
   have hl:(qsL LL TT).length≤na:=by unfold qsL;rw[List.length_zipWith];omega
   rw[zR jo]at h ⊢
   exact h)
  by_cases el:k<na
  case' pos=>
   have aV:(k:Int)<(na:Int):=jo;have a0:¬(k:Int)<20:=jo
  case' neg=>
   have aV:¬(k:Int)<(na:Int):=jo
  all_goals clear HX af
  all_goals go_wp2_with fail
  all_goals go_meet
  all_goals exact cH
 case rest=>
 have HX:=hcut;clear hcut;have br:((qsL LL TT).take 20).length≤20:=jw;obtain⟨XS,cU⟩:∃l,(qsL LL TT).take 20=l:=⟨_,rfl⟩;rw[cU]at HX br;clear cU;obtain⟨xv,eJ⟩:∃x,x=u11:=⟨_,rfl⟩;obtain⟨G,ew⟩:∃x,x=wc:=⟨_,rfl⟩;subst eJ ew;have aJ:=HX.out.bel;have ax:=zh HX.out.row;have eC:X<G.heap.size:=zT dN aJ.size;have cd:w.heap.size≤G.heap.size:=zY dt aJ.size;replace F:=zt F aJ;replace R:=zb R aJ;replace P:=zb P aJ;replace V:=zh (V.out.below aJ);clear HX aJ a2;have a2:w.heap.size≤G.heap.size:=cd
 go_upto_block 2 with(fail)
 go_cut [12]from 58 to 75 (fun xv d=>Hid (Bld G X ((qsL L2 T2).take 10) xv d))
 case first=>
  go_wp2_with fail;go_loopw [12,14] (fun xv iv wr=>∃(k:Nat) (xw:Value),xw=xv∧iv=.int .i64 k∧k≤nb∧k≤10∧Hid (Bld G X ((qsL L2 T2).take k) xw wr)) (fun _ iv _=>10-(intOf iv).toNat)
  case atStart=>exact⟨0,_,rfl,rfl,zS _,zS _,zh (Bld.start _ _)⟩
  obtain⟨k,xw,rfl,rfl,ej,dB,HX⟩:=hrel;by_cases af:k<nb∧k<10
  ·obtain⟨af,cu⟩:=af;have aV:(k:Int)<(nb:Int):=jo;have a0:(k:Int)<10:=jo;have bZ:(0:Int)≤(k:Int):=jo;have ay:k<L2.length:=jo;have bz:k<T2.length:=jo;obtain⟨b,o,z,bc,aU,hc,hr⟩:=dW.out.ex k ay;obtain⟨b',o',ad,aY,aG⟩:=d4.out.ex k bz;rw[bc]at ad;injection ad with ad;injection ad with e1 e2 _;subst e1 e2;subst bc;have ag:zWW w wr:=F.out.trans (HX.out.bel.mono F.out.size);have hs:∀j u,(rqC L2[k] z)[j]?=some u→wr.cell? ⟨b,o+k*12+j,none⟩=some u:=fun j u hj=>(ag.cell (p:=⟨b,o+k*12+j,none⟩) aU).trans (hc j u hj)
   have aB:=(ag.cell (p:=⟨b,o+k*12+11,none⟩) aY).trans aG;have bB:=zh (hr.below ag);have bl:Hid (Reads wr w.heap.size 1 z.C z.cn (bv L2[k].cur)):=zh (hr.cur.below ag);have bu:=zh (BX (L:=L2) (T:=T2) ay bz);clear hc hr aG ag;generalize L2[k]=r at *;generalize T2[k]=fl at *;have s0:wr.cell? ⟨b,o+k*12,none⟩=some (.int .i64 r.op):=hs 0 _ rfl;have s1:wr.cell? ⟨b,o+k*12+1,none⟩=some (.slice z.E z.en z.ec):=hs 1 _ rfl;have s2:wr.cell? ⟨b,o+k*12+2,none⟩=some (.bool r.dur):=hs 2 _ rfl;have s3:wr.cell? ⟨b,o+k*12+3,none⟩=some (.int .i64 r.now):=hs 3 _ rfl;have s4:wr.cell? ⟨b,o+k*12+4,none⟩=some (.string r.q):=hs 4 _ rfl;have s5:wr.cell? ⟨b,o+k*12+5,none⟩=some (.int .i64 r.frm):=hs 5 _ rfl;have s6:wr.cell? ⟨b,o+k*12+6,none⟩=some (.int .i64 r.til):=hs 6 _ rfl;have s7:wr.cell? ⟨b,o+k*12+7,none⟩=some (.int .i64 r.lim):=hs 7 _ rfl;have s8:wr.cell? ⟨b,o+k*12+8,none⟩=some (.int .i64 r.width):=hs 8 _ rfl;have s9:wr.cell? ⟨b,o+k*12+9,none⟩=some (.int .i64 r.after):=hs 9 _ rfl;have bn:wr.cell? ⟨b,o+k*12+10,none⟩=some (.slice z.C z.cn z.cc):=hs 10 _ rfl;have cz:wr.cell? ⟨b,o+k*12+11,none⟩=some (.bool fl):=aB;clear hs aB;have cq:X<wr.heap.size:=zT eC HX.out.bel.size;have CO:=zh (o7 r z fl none 0 0 [] wr bB.out Reads.none_ ⟨jo,zG _,fun _=>rfl⟩);go_wp2_with fail;refine CO.out.mono ?_;rintro e wa ⟨W,rfl,am,ao,aM,a3⟩;have aO:=a3 wa w.heap.size (bl.out.below (ao.mono jo)) Reads.none_;have aH:=(HX.out.below ao).row;obtain⟨cP,bK,g1,g2,g3⟩:=aH.ex;have ea:((qsL L2 T2).take k).length≤20:=jw;obtain⟨H,aA⟩:∃H,ofR r fl []=H:=⟨_,rfl⟩;rw[aA]at am aM aO bu ⊢;have aC:=zh (fun v9 w9 hp hg cp=>Bld.put (v9:=v9) (w9:=w9) HX.out cq dg a2 ao am aM aO g1 g2 g3 hp hg cp);have aF:=zh (lH (g2.alloc (.cells #[.int .i64 H.op,.slice W.E W.en W.ec,.bool H.dur,.int .i64 H.now,.string H.q,.int .i64 H.frm,.int .i64 H.til,.int .i64 H.lim,.int .i64 H.width,.int .i64 H.after,.slice W.C W.cn W.cc] 37)) (zS _));clear CO am aM a3 aO aH g1 g2 g3 s0 s1 s2 s3 s4 s5 s6 s7 s8 s9 bn cz bB bl HX aA;generalize bK.flatten=zs at *;generalize (qsL L2 T2).take k=qk at *;generalize bf:qk.length=al at *;clear bf;go_wp2_with (first|(at_builtin;refine wpList_append_own_at _ rfl _ _ 76 rfl 0 37 i0 _ 11 128 underlying76 cW dX bk aT rfl jd _ al zs rfl aF.out ⟨wa.heap.size,0,none⟩ 1 1 [.int .i64 H.op,.slice W.E W.en W.ec,.bool H.dur,.int .i64 H.now,.string H.q,.int .i64 H.frm,.int .i64 H.til,.int .i64 H.lim,.int .i64 H.width,.int .i64 H.after,.slice W.C W.cn W.cc] rfl rfl (vH (cs:=#[.int .i64 H.op,.slice W.E W.en W.ec,.bool H.dur,.int .i64 H.now,.string H.q,.int .i64 H.frm,.int .i64 H.til,.int .i64 H.lim,.int .i64 H.width,.int .i64 H.after,.slice W.C W.cn W.cc]) (t:=37) (fr:=(0,0)) (vK wa _)) jt ?k1 ?k2 ?k3 ?_)|fail)
   case k1=>unfold maxLen;omega
   case k2=>omega
   case k3=>exact zS _
   intro v9 w9 bC a6 _ aI;have HF:=zh (aC.out v9 w9 bC a6 (by rw[vM];exact aI));clear aC aF bC a6 aI;go_wp2_with fail;go_roundw
   case rel=>exact⟨k+1,_,rfl,ju,jo,jo,by rw[bu.out];exact HF⟩
   simp[intOf];omega
  have cH:Hid (Bld G X ((qsL L2 T2).take 10) xw wr):=zh (by
   have h:=HX.out;rcases(by omega:k=10∨nb≤k)with e|e
   ·rw[←e];exact h
   have hl:(qsL L2 T2).length≤nb:=by unfold qsL;rw[List.length_zipWith];omega
   rw[zR jo]at h ⊢
   exact h)
  by_cases el:k<nb
  case' pos=>
   have aV:(k:Int)<(nb:Int):=jo;have a0:¬(k:Int)<10:=jo
  case' neg=>
   have aV:¬(k:Int)<(nb:Int):=jo
  all_goals clear HX af
  all_goals go_wp2_with fail
  all_goals go_meet
  all_goals exact cH
 case rest=>
 have HX:=hcut;clear hcut;have bU:((qsL L2 T2).take 10).length≤10:=jw;obtain⟨YS,dn⟩:∃l,(qsL L2 T2).take 10=l:=⟨_,rfl⟩;rw[dn]at HX bU;clear dn;obtain⟨yv,eb⟩:∃x,x=u12:=⟨_,rfl⟩;obtain⟨wy,ez⟩:∃x,x=wc:=⟨_,rfl⟩;subst eb ez;have aD:=HX.out.bel;have aP:=zh HX.out.row;replace F:=zt F aD;replace R:=zb R aD;replace P:=zb P aD;replace V:=zh (V.out.below aD);replace ax:=zh (ax.out.below aD (fun x u hq=>hq.below aD));have e5:=aD.size;clear HX aD di c2 dW d4 a2 cd cR dq cQ dD dk dI ef eF;go_wp2_with fail;refine(uj wy).mono ?_;rintro e w6 ⟨rfl,aj⟩;replace F:=zt F aj;replace R:=zb R aj;replace P:=zb P aj;replace V:=zh (V.out.below aj);replace ax:=zh (ax.out.below aj (fun x u hq=>hq.below aj));replace aP:=zh (aP.out.below aj (fun x u hq=>hq.below aj));have eV:=aj.size;clear aj;go_wp2_with fail;refine(F3 conf w6).mono ?_;rintro e w7 ⟨aQ,dC⟩
 obtain rfl:e=.returned (.tuple #[.agg (rmC (⟨conf,[],-9223372036854775808,-9223372036854775808,0⟩:M) (⟨none,0,0,none,0,0⟩:Rz)),.int .i64 0]):=by
  rcases dC with⟨_,h⟩|⟨h,_⟩
  ·exact h
  exact absurd rO h
 obtain⟨y0,cy⟩:∃y0:Rz,(⟨none,0,0,none,0,0⟩:Rz)=y0:=⟨_,rfl⟩;have cX:Hid (∀d,RAt d (fun _=>False) 0 m0 y0):=zh (fun d=>by rw[←cF.out,←cy];exact L9 rO (by decide:conf.retain≤9223372036854775807));rw[cF.out,cy];have bx:zWW w7 (w7.alloc (.cells (rmC m0 y0) 29)):=zRR _;have ac:=aQ.trans (bx.mono aQ.size);have fa:=aQ.size;have aw:=zh (Blk.new w7 29 (rmC m0 y0));have bs:∀ {vv:Value} {x:Rq} {u:List Value},RqK (fun b=>b=X∨vv.ownBlock=some b) w6 x u→RqK (fun b=>b=X∨b=w7.heap.size) (w7.alloc (.cells (rmC m0 y0) 29)) x u:=fun hq=>hq.kp ac.size (fun b dM _=>ac.block b dM) (fun b dM hn=>hn.elim .inl (fun e=>jo))
 have aE:=zh (ax.out.below ac (fun x u hq=>bs hq));have aS:=zh (aP.out.below ac (fun x u hq=>bs hq));clear bs ax aP;replace F:=zt F ac;replace R:=zb R ac;replace P:=zb P ac;replace V:=zh (V.out.below ac);clear aQ dC bx ac cy cF
 go_upto_region 14 with(fail);generalize es:w7.heap.size=N at *;generalize w7.alloc (.cells (rmC m0 y0) 29)=w8 at *;clear es;obtain⟨d9,eO,_,da,_⟩:=aE.out.ex;obtain⟨XA,xc,rfl,_⟩:=Ev.fP da;clear da;obtain⟨nx,cx⟩:∃n,XS.length=n:=⟨_,rfl⟩;rw[cx]at aE br ⊢;have bd:=zh cx;clear cx;obtain⟨eu,eP,_,c8,_⟩:=aS.out.ex;obtain⟨YA,yc,rfl,_⟩:=Ev.fP c8;clear c8;obtain⟨ny,cD⟩:∃n,YS.length=n:=⟨_,rfl⟩;rw[cD]at aS bU ⊢;have cZ:=zh cD;clear cD;have CR:=zh (Ce V.out hX jo XA nx xc XS (aE.out.same (fun _ _=>rfl) (fun x u hq=>hq.kp (zG _) (fun _ _ _=>rfl) (fun b _ hn=>hn.elim .inl (fun h=>nomatch h)))) bd.out br);go_wp2_with fail;refine CR.out.mono ?_;rintro e w9 ⟨v9,lv,aa,rfl,bo⟩;have az:=bo.chg
 have d1:Hid (At w9 wB.heap.size X (64*nx) v9 (iV m0 XS)):=zh (by
  have h:=bo.at_;rw[List.take_length,bd.out]at h
  exact h.more jo)
 have bJ:=zh bo.ans
 have cC:Hid (RunR m0 XS aa):=zh (by
  have h:=bo.run;rw[List.take_length]at h
  exact h)
 have eR:¬N=X:=fun e=>by
  subst e;exact absurd ((ow aw.out).one ⟨_,_,V.out.blk⟩) jd
 have cf:∀ {x:Rq} {u:List Value},RqK (fun b=>b=X∨b=N) w8 x u→RqK (fun b=>b=X∨b=N) w9 x u:=fun hq=>hq.kp az.size (fun b hb hn=>az.block b hb (fun h=>h.elim (fun e=>hn (.inl e)) (fun h=>nomatch h))) (fun b _ h=>h)
 have ax:=zh (aE.out.same (fun b hb=>ry az V.out jd jd hb) (fun x u hq=>cf hq));have aP:=zh (aS.out.same (fun b hb=>ry az V.out jd jd hb) (fun x u hq=>cf hq));replace aw:=zh (rE az V.out aw.out jd jd);replace R:=zh (rE az V.out R.out jd jd);replace P:=zh (rE az V.out P.out jd jd);replace F:=zh (F.out.trans ((nu az V.out.own hX V.out.n0).mono ek));have cG:aa.length=nx:=by have h:=cC.out.1;rw[bd.out]at h;exact h
 obtain⟨eH,eQ,_,dL,_⟩:=bJ.out.ex;obtain⟨OA,oc,rfl,_⟩:=Ev.fP dL;rw[cG]at bJ ⊢;have ep:=zh cG;clear bo az cf aE aS CR V dL cG;go_wp2_with fail;go_loopw [18] (fun iv wr=>∃(k:Nat) (y:Rz) (S:Nat→Prop),iv=.int .i64 k∧k≤nx∧Hid (DocS w9 N m0 XS k y S wr)) (fun iv _=>nx-(intOf iv).toNat)
 case atStart=>exact⟨0,y0,_,rfl,zS _,zh ⟨Chg.refl _ _,aw.out,cX.out w9,fun b hb=>hb.elim⟩⟩
 obtain⟨k,y,S,rfl,hk,HS⟩:=hrel;by_cases af:k<nx
 ·have ay:k<XS.length:=by rw[bd.out];exact af
  have dd:k<aa.length:=by rw[ep.out];exact af
  have aV:(k:Int)<(nx:Int):=jo;have bZ:(0:Int)≤(k:Int):=jo;have cO:=ax.out.same (Q':=RqK (fun b=>b=X∨b=N) wr) (fun b hb=>sN HS.out.chg aw.out hb jd) (fun x u hq=>hq.kp HS.out.chg.size (fun b hb hn=>HS.out.chg.block b hb (fun e=>hn (.inr e))) (fun b _ h=>h));have cE:=bJ.out.same (Q':=AnK v9 wr) (fun b hb=>sN HS.out.chg aw.out hb jd) (fun x u ⟨cs,e,hp⟩=>⟨cs,e,hp.kp HS.out.chg.size (fun b T hT hn=>sN HS.out.chg aw.out hT (by rcases hn with rfl|rfl|rfl|rfl<;>decide))⟩);obtain⟨b,o,u,cc,eA,hb,hq,hc⟩:=cO.at_ ay;obtain⟨z,S1,rfl,am,hE,bT⟩:=hq.at_;injection eA with eA e2 e3;subst eA;clear e2 e3;obtain⟨J,O,u2,e7,eB,ab,⟨eU,rfl,ap⟩,ah⟩:=cE.at_ dd;injection eB with eB e2 e3;subst eB;clear e2 e3;obtain⟨A3,n3,c3,B3,k3,d3,C3,l3,f3,rfl,_⟩:=ap.o.at_;have bV:=cC.out.2 k ay dd;have bh:gD (iV m0 (XS.take k)) XS[k]=iV m0 (XS.take (k+1)):=by rw[zL ay,Ah]
  have dz:Hid (∀(w2:World) (Y:M) (y':Rz) (S':Nat→Prop),zWW wr w2→RAt w2 S' (130*(k+1)) Y y'→(∀b,S' b→b≠N)→Y=iV m0 (XS.take (k+1))→DocS w9 N m0 XS (k+1) y' S' (w2.setRow N (rmC Y y'))):=zh (fun w2 Y y' S' h1 h2 h3 h4=>HS.out.next h1 h2 h3 h4);have Z:=zh HS.out.blk;have av:=zh HS.out.rt;have dE:=zh HS.out.frb;have eM:=HS.out.blk.lt;generalize XS[k]=r at *;generalize aa[k]=v at *;generalize dh:iV m0 (XS.take k)=mk at *;have eS:=zh dh;obtain⟨Y,ct⟩:∃Y,gD mk r=Y:=⟨_,rfl⟩;rw[ct]at bh;have d2:=zh ct;have dG:=zh bh;have dw:=zh bV
  have aq:Hid (∀d,zWW wr d→d.cell? ⟨N,0,none⟩=some (.int .i64 mk.c.size)∧d.cell? ⟨N,1,none⟩=some (.int .i64 mk.c.age)∧d.cell? ⟨N,2,none⟩=some (.int .i64 mk.c.retain)∧d.cell? ⟨N,3,none⟩=some (.int .i64 mk.c.batch)∧d.cell? ⟨N,4,none⟩=some (.int .i64 mk.c.buckets)∧d.cell? ⟨N,5,none⟩=some (.bool mk.c.bt)∧d.cell? ⟨N,6,none⟩=some (.bool mk.c.bb)∧d.cell? ⟨N,7,none⟩=some (.slice y.A y.n y.c)∧d.cell? ⟨N,8,none⟩=some (.int .i64 mk.floor)∧d.cell? ⟨N,9,none⟩=some (.int .i64 mk.now)∧d.cell? ⟨N,10,none⟩=some (.int .i64 mk.acked)∧d.cell? ⟨N,11,none⟩=some (.slice y.EA y.en y.ec)∧d.cell? ⟨b,o+k*11,none⟩=some (.int .i64 r.op)∧d.cell? ⟨b,o+k*11+1,none⟩=some (.slice z.E z.en z.ec)∧d.cell? ⟨b,o+k*11+2,none⟩=some (.bool r.dur)∧d.cell? ⟨b,o+k*11+3,none⟩=some (.int .i64 r.now)∧d.cell? ⟨b,o+k*11+4,none⟩=some (.string r.q)∧d.cell? ⟨b,o+k*11+5,none⟩=some (.int .i64 r.frm)∧d.cell? ⟨b,o+k*11+6,none⟩=some (.int .i64 r.til)∧d.cell? ⟨b,o+k*11+7,none⟩=some (.int .i64 r.lim)∧d.cell? ⟨b,o+k*11+8,none⟩=some (.int .i64 r.width)∧d.cell? ⟨b,o+k*11+9,none⟩=some (.int .i64 r.after)∧d.cell? ⟨b,o+k*11+10,none⟩=some (.slice z.C z.cn z.cc)):=zh (fun d I=>by
   have D:=Z.out.below I Z.out.lt;have t0:=D.cell 0;have t1:=D.cell 1;have t2:=D.cell 2;have t3:=D.cell 3;have t4:=D.cell 4;have t5:=D.cell 5;have t6:=D.cell 6;have t7:=D.cell 7;have t8:=D.cell 8;have t9:=D.cell 9;have dF:=D.cell 10;have dj:=D.cell 11;simp only[rmC,zA,zB,zC]at t0 t1 t2 t3 t4 t5 t6 t7 t8 t9 dF dj;have s0:d.cell? ⟨b,o+k*11,none⟩=some (.int .i64 r.op):=(I.cell (p:=⟨b,o+k*11,none⟩) hb).trans (hc 0 _ rfl);have s1:d.cell? ⟨b,o+k*11+1,none⟩=some (.slice z.E z.en z.ec):=(I.cell (p:=⟨b,o+k*11+1,none⟩) hb).trans (hc 1 _ rfl);have s2:d.cell? ⟨b,o+k*11+2,none⟩=some (.bool r.dur):=(I.cell (p:=⟨b,o+k*11+2,none⟩) hb).trans (hc 2 _ rfl);have s3:d.cell? ⟨b,o+k*11+3,none⟩=some (.int .i64 r.now):=(I.cell (p:=⟨b,o+k*11+3,none⟩) hb).trans (hc 3 _ rfl);have s4:d.cell? ⟨b,o+k*11+4,none⟩=some (.string r.q):=(I.cell (p:=⟨b,o+k*11+4,none⟩) hb).trans (hc 4 _ rfl);have s5:d.cell? ⟨b,o+k*11+5,none⟩=some (.int .i64 r.frm):=(I.cell (p:=⟨b,o+k*11+5,none⟩) hb).trans (hc 5 _ rfl);have s6:d.cell? ⟨b,o+k*11+6,none⟩=some (.int .i64 r.til):=(I.cell (p:=⟨b,o+k*11+6,none⟩) hb).trans (hc 6 _ rfl);have s7:d.cell? ⟨b,o+k*11+7,none⟩=some (.int .i64 r.lim):=(I.cell (p:=⟨b,o+k*11+7,none⟩) hb).trans (hc 7 _ rfl);have s8:d.cell? ⟨b,o+k*11+8,none⟩=some (.int .i64 r.width):=(I.cell (p:=⟨b,o+k*11+8,none⟩) hb).trans (hc 8 _ rfl);have s9:d.cell? ⟨b,o+k*11+9,none⟩=some (.int .i64 r.after):=(I.cell (p:=⟨b,o+k*11+9,none⟩) hb).trans (hc 9 _ rfl);have bn:d.cell? ⟨b,o+k*11+10,none⟩=some (.slice z.C z.cn z.cc):=(I.cell (p:=⟨b,o+k*11+10,none⟩) hb).trans (hc 10 _ rfl)
   exact⟨t0,t1,t2,t3,t4,t5,t6,t7,t8,t9,dF,dj,s0,s1,s2,s3,s4,s5,s6,s7,s8,s9,bn⟩)
  have b6:=zh ap;have cS:=zh cE.tag;have bX:Hid (∀d,zWW wr d→d.cell? ⟨J,O+k*10,none⟩=some (.int .i64 v.E)∧d.cell? ⟨J,O+k*10+1,none⟩=some (.int .i64 v.seq)∧d.cell? ⟨J,O+k*10+2,none⟩=some (.int .i64 v.fl)∧d.cell? ⟨J,O+k*10+3,none⟩=some (.slice A3 n3 c3)∧d.cell? ⟨J,O+k*10+4,none⟩=some (.slice B3 k3 d3)∧d.cell? ⟨J,O+k*10+5,none⟩=some (.slice C3 l3 f3)∧d.cell? ⟨J,O+k*10+6,none⟩=some (.int .i64 v.ev)∧d.cell? ⟨J,O+k*10+7,none⟩=some (.int .i64 v.nx)∧d.cell? ⟨J,O+k*10+8,none⟩=some (.int .i64 v.nw)∧d.cell? ⟨J,O+k*10+9,none⟩=some (.int .i64 v.ak)):=zh (fun d I=>⟨(I.cell (p:=⟨J,O+k*10,none⟩) ab).trans (ah 0 _ rfl),(I.cell (p:=⟨J,O+k*10+1,none⟩) ab).trans (ah 1 _ rfl),(I.cell (p:=⟨J,O+k*10+2,none⟩) ab).trans (ah 2 _ rfl),(I.cell (p:=⟨J,O+k*10+3,none⟩) ab).trans (ah 3 _ rfl),(I.cell (p:=⟨J,O+k*10+4,none⟩) ab).trans (ah 4 _ rfl),(I.cell (p:=⟨J,O+k*10+5,none⟩) ab).trans (ah 5 _ rfl),(I.cell (p:=⟨J,O+k*10+6,none⟩) ab).trans (ah 6 _ rfl),(I.cell (p:=⟨J,O+k*10+7,none⟩) ab).trans (ah 7 _ rfl),(I.cell (p:=⟨J,O+k*10+8,none⟩) ab).trans (ah 8 _ rfl),(I.cell (p:=⟨J,O+k*10+9,none⟩) ab).trans (ah 9 _ rfl)⟩)
  have CR:Hid (∀d,zWW wr d→Calls prog 19 #[.agg (rmC mk y),.agg (rqC r z)] d (nB d S S1 (130*k) Y (AnsR mk r))):=zh (fun d I=>by
   rw[←d2.out]
   exact MG (av.out.below I) jo r z (am.below I) (hE.same (fun b hb=>⟨hb,I.block b (bT b hb).1⟩)) (fun b hb=>zT (bT b hb).1 I.size))
  have dc:=zh bT;clear cO cE hq hc am hE bT ah ap bV bh ct dh HS;go_wp2_with fail;refine Gx.si 12 (fF [(5,⟨Rz × (Option Addr × Nat × Nat) × (Option Addr × Nat × Nat) × (Option Addr × Nat × Nat),fun x=>.tuple #[.agg (rmC Y x.1),.agg (rsC v.E v.seq v.fl (.slice x.2.1.1 x.2.1.2.1 x.2.1.2.2) (.slice x.2.2.1.1 x.2.2.1.2.1 x.2.2.1.2.2) (.slice x.2.2.2.1 x.2.2.2.2.1 x.2.2.2.2.2) v.ev v.nx v.nw v.ak)],fun x d=>(∃S':Nat→Prop,RAt d S' (130*(k+1)) Y x.1∧∀b,S' b→b≠N)∧AnsO d (rsC v.E v.seq v.fl (.slice x.2.1.1 x.2.1.2.1 x.2.1.2.2) (.slice x.2.2.1.1 x.2.2.1.2.1 x.2.2.1.2.2) (.slice x.2.2.2.1 x.2.2.2.2.1 x.2.2.2.2.2) v.ev v.nx v.nw v.ak) v⟩),(9,⟨Nat,fun x=>.pointer (some ⟨x,0,none⟩),fun g d=>Blk d g 29 zmC∧wr.heap.size≤g⟩),(10,⟨Nat,fun x=>.pointer (some ⟨x,0,none⟩),fun g d=>Blk d g 42 rs0∧wr.heap.size≤g⟩),(11,⟨Unit,fun _=>undef,fun _ _=>True⟩)]) (fun i=>i==11) (fun G=>Below (World.heap wr).size wr G) (fun w1 w2=>zWW w1 w2) jk jk (Gx.uK jk) (fN (fun x wa wb hg h=>⟨h.1.elim (fun S' h=>⟨S',h.1.below hg,h.2⟩),h.2.below hg⟩) (fN (fun x wa wb hg h=>⟨h.1.below hg h.1.lt,h.2⟩) (fN (fun x wa wb hg h=>⟨h.1.below hg h.1.lt,h.2⟩) (fN (fun _ _ _ _ _=>trivial) (fQ))))) ((zy _ _).drew) ?_;simp only[zX,List.take_zero,zo,List.drop_zero]
  iterate 5
   refine Gx.nR _ ?_ rfl jr jr (fun G B hD=>?_) ?_;rotate_left
   ·have U:=aq.out G B;go_simp;all_goals with_reducible rfl
   try simp only[Act.put,zD,zE,zF]
  refine Gx.mZ 6 _ rfl jr jr jr (fun G B hD=>?_) (fun x=>?_)
  ·refine fZ (f:=?_) (args:=?_) ?_ ?_;rotate_left 2
   ·have U:=aq.out G B;go_simp;all_goals first|with_reducible rfl|(refine⟨?_,?_⟩<;>with_reducible rfl)
   refine(CR.out G B).mono ?_;rintro e w7 ⟨y7,e9,a7,rfl,aQ,c4,dH,dU⟩;obtain rfl:a7=v:=c4.det dw.out;obtain⟨A7,n7,c7,B7,k7,d7,C7,l7,f7,rfl,_⟩:=dH.at_;exact⟨_,rfl,aQ,B.trans (aQ.mono B.size),(y7,(A7,n7,c7),(B7,k7,d7),(C7,l7,f7)),rfl,⟨_,dU.more jo,fun b hb=>by rcases hb with hb|hb|hb;exact dE.out b hb;exact fun e=>(dc.out b hb).2 (.inr e);exact fun e=>by have:=B.size;omega⟩,dH⟩
  obtain⟨y5,⟨A5,n5,c5⟩,⟨B5,k5,d5⟩,⟨C5,l5,f5⟩⟩:=x;try simp only[Act.put,zD,zE,zF]
  iterate 3
   refine Gx.nR _ ?_ rfl jr jr (fun G B hD=>?_) ?_;rotate_left
   ·have U:=aq.out G B;go_simp;all_goals with_reducible rfl
   try simp only[Act.put,zD,zE,zF]
  refine Gx.mZ 10 _ rfl jr jr jr (fun G B hD=>?_) (fun x=>?_)
  ·refine kr (u:=?_) (w':=?_) ?_ ?_ ?_;rotate_left 2
   ·have U:=aq.out G B;go_simp;all_goals first|with_reducible rfl|(refine⟨?_,?_⟩<;>with_reducible rfl)
   ·exact(zRR _)
   exact⟨B.alloc B.size _,G.heap.size,rfl,Blk.new _ _ _,B.size⟩
  rename Nat=>g5
  try simp only[Act.put,zD,zE,zF]
  refine Gx.mZ 11 _ rfl jr jr jr (fun G B hD=>?_) (fun x=>?_)
  ·refine kr (u:=?_) (w':=?_) ?_ ?_ ?_;rotate_left 2
   ·have U:=aq.out G B;go_simp;all_goals first|with_reducible rfl|(refine⟨?_,?_⟩<;>with_reducible rfl)
   ·exact(zRR _)
   exact⟨B.alloc B.size _,G.heap.size,rfl,Blk.new _ _ _,B.size⟩
  rename Nat=>h5
  try simp only[Act.put,zD,zE,zF]
  refine Gx.DR 12 _ (⟨Unit,fun _=>undef,fun _ d=>Blk d g5 29 (rmC Y y5)∧Blk d h5 42 rs0∧g5≠h5∧wr.heap.size≤g5∧wr.heap.size≤h5∧(∃S':Nat→Prop,RAt d S' (130*(k+1)) Y y5∧∀b,S' b→b≠N)∧AnsO d (rsC v.E v.seq v.fl (.slice A5 n5 c5) (.slice B5 k5 d5) (.slice C5 l5 f5) v.ev v.nx v.nw v.ak) v⟩) rfl jr (.inr (fun x wa wb hg h=>⟨h.1.below hg h.1.lt,h.2.1.below hg h.2.1.lt,h.2.2.1,h.2.2.2.1,h.2.2.2.2.1,h.2.2.2.2.2.1.elim (fun S' h=>⟨S',h.1.below hg,h.2⟩),h.2.2.2.2.2.2.below hg⟩)) jr jr (fun G B hI hD=>?_) (fun x=>?_)
  ·obtain⟨⟨S',bP,bG⟩,hO⟩:=gZ (nk (nk (kM hD 5 jk) jd) jd) jd;obtain⟨bj,b4⟩:=gZ (nk (kM hD 9 jk) jd) jd;obtain⟨de,cN⟩:=gZ (kM hD 10 jk) jd;have bD:=bj.ne_ de jd;exact xP 29 _ _ rfl g5 (rmC Y y5) rfl rfl 29 zmC bj jk rfl (by simp[rmC,Value.oneCell']) ⟨vI B b4 _,(),rfl,zz G g5 _ _ _ _ bj,(vL G g5 h5 _ (Ne.symm bD)).trans de,bD,b4,cN,⟨S',bP.first bj,bG⟩,hO.row bj ⟨jd,jd,jd⟩ wW _⟩
  obtain⟨⟩:=x;try simp only[Act.put,zD,zE,zF]
  refine Gx.ww (fun w2 B hF hI=>?_);obtain⟨hg,hh,bD,eZ,eK,⟨S',bP,bG⟩,hO⟩:=hI;have c0:Hid (Blk (w2.setRow h5 (rsC v.E v.seq v.fl (.slice A5 n5 c5) (.slice B5 k5 d5) (.slice C5 l5 f5) v.ev v.nx v.nw v.ak)) h5 42 (rsC v.E v.seq v.fl (.slice A5 n5 c5) (.slice B5 k5 d5) (.slice C5 l5 f5) v.ev v.nx v.nw v.ak)):=zh (zz w2 h5 rs0 (rsC v.E v.seq v.fl (.slice A5 n5 c5) (.slice B5 k5 d5) (.slice C5 l5 f5) v.ev v.nx v.nw v.ak) _ _ hh);have d8:Hid (Blk (w2.setRow h5 (rsC v.E v.seq v.fl (.slice A5 n5 c5) (.slice B5 k5 d5) (.slice C5 l5 f5) v.ev v.nx v.nw v.ak)) g5 29 (rmC Y y5)):=zh ((vL w2 h5 g5 _ bD).trans hg);have a5:Hid (zWW wr (w2.setRow h5 (rsC v.E v.seq v.fl (.slice A5 n5 c5) (.slice B5 k5 d5) (.slice C5 l5 f5) v.ev v.nx v.nw v.ak))):=zh (vI B eK _);have b0:Hid (RAt (w2.setRow h5 (rsC v.E v.seq v.fl (.slice A5 n5 c5) (.slice B5 k5 d5) (.slice C5 l5 f5) v.ev v.nx v.nw v.ak)) S' (130*(k+1)) Y y5):=zh (bP.second hh);have aF:=zh (hO.row hh ⟨jd,jd,jd⟩ rf (rsC v.E v.seq v.fl (.slice A5 n5 c5) (.slice B5 k5 d5) (.slice C5 l5 f5) v.ev v.nx v.nw v.ak));have dR:=zh hh;have d0:=zh bG;have eL:@Ne Nat h5 N:=jo;have eT:@Ne Nat g5 N:=jo;clear hg hh bP hO B hF CR bG
  go_upto_region 21 with(first|(refine zx (o:=⟨none,.store 42 _ _,_,_,_,_⟩) rfl 42 _ _ rfl h5 (rsC v.E v.seq v.fl (.slice A5 n5 c5) (.slice B5 k5 d5) (.slice C5 l5 f5) v.ev v.nx v.nw v.ak) rfl rfl 42 rs0 dR.out jk rfl (by simp[rsC,Value.oneCell']) ?_)|fail);generalize w2.setRow h5 (rsC v.E v.seq v.fl (.slice A5 n5 c5) (.slice B5 k5 d5) (.slice C5 l5 f5) v.ev v.nx v.nw v.ak)=w3 at *;have bq:=zh (Z.out.below a5.out Z.out.lt);have cM:=zh (dz.out w3 Y y5 S' a5.out b0.out d0.out dG.out);have cB:Hid (Blk (w3.setRow N (rmC Y y5)) h5 42 (rsC v.E v.seq v.fl (.slice A5 n5 c5) (.slice B5 k5 d5) (.slice C5 l5 f5) v.ev v.nx v.nw v.ak)):=zh ((vL w3 N h5 _ eL).trans c0.out);have db:=zh (aF.out.row bq.out ⟨jd,jd,jd⟩ (NH _ _) (rmC Y y5))
  have ci:Hid (∀b T,Tg wr T b→T≠29→(w3.setRow N (rmC Y y5)).heap[b]?=wr.heap[b]?):=zh (fun b T hT hn=>(vL w3 N b _ (fun e=>by
   subst e
   exact hn (hT.one ⟨_,_,Z.out⟩))).trans (a5.out.block b hT.lt))
  have cL:Hid (AnsP (w3.setRow N (rmC Y y5)) v9 (rsC v.E v.seq v.fl (.slice A3 n3 c3) (.slice B3 k3 d3) (.slice C3 l3 f3) v.ev v.nx v.nw v.ak) v):=zh (b6.out.kp (by simpa using a5.out.size) (fun b T hT hn=>ci.out b T hT (by rcases hn with rfl|rfl|rfl|rfl<;>decide)));have bW:=zh (ci.out J _ cS.out jd)
  have d6:Hid ((w3.setRow N (rmC Y y5)).cell? ⟨J,O+k*10,none⟩=some (.int .i64 v.E)∧(w3.setRow N (rmC Y y5)).cell? ⟨J,O+k*10+1,none⟩=some (.int .i64 v.seq)∧(w3.setRow N (rmC Y y5)).cell? ⟨J,O+k*10+2,none⟩=some (.int .i64 v.fl)∧(w3.setRow N (rmC Y y5)).cell? ⟨J,O+k*10+3,none⟩=some (.slice A3 n3 c3)∧(w3.setRow N (rmC Y y5)).cell? ⟨J,O+k*10+4,none⟩=some (.slice B3 k3 d3)∧(w3.setRow N (rmC Y y5)).cell? ⟨J,O+k*10+5,none⟩=some (.slice C3 l3 f3)∧(w3.setRow N (rmC Y y5)).cell? ⟨J,O+k*10+6,none⟩=some (.int .i64 v.ev)∧(w3.setRow N (rmC Y y5)).cell? ⟨J,O+k*10+7,none⟩=some (.int .i64 v.nx)∧(w3.setRow N (rmC Y y5)).cell? ⟨J,O+k*10+8,none⟩=some (.int .i64 v.nw)∧(w3.setRow N (rmC Y y5)).cell? ⟨J,O+k*10+9,none⟩=some (.int .i64 v.ak)):=zh (by
   have h:=bX.out wr (zy _ _);have e:=fun cg=>vP (a:=⟨J,cg,none⟩) bW.out
   exact⟨(e _).trans h.1,(e _).trans h.2.1,(e _).trans h.2.2.1,(e _).trans h.2.2.2.1,(e _).trans h.2.2.2.2.1,(e _).trans h.2.2.2.2.2.1,(e _).trans h.2.2.2.2.2.2.1,(e _).trans h.2.2.2.2.2.2.2.1,(e _).trans h.2.2.2.2.2.2.2.2.1,(e _).trans h.2.2.2.2.2.2.2.2.2⟩)
  go_upto_region 22 with(first|(refine wpList_load_row (o:=⟨some 104,.load 29 _,_,_,_,_⟩) rfl 29 _ rfl (g5) rfl 29 (rmC Y y5) (0,0) _ d8.out underlying29 rfl jk ?_)|(refine zx (o:=⟨none,.store 29 _ _,_,_,_,_⟩) rfl 29 _ _ rfl N (rmC Y y5) rfl rfl 29 (rmC mk y) bq.out jk rfl (by simp[rmC,Value.oneCell']) ?_)|fail);generalize w3.setRow N (rmC Y y5)=w4 at *
  have aR:Hid (∀d,zWW w4 d→(d.cell? ⟨J,O+k*10,none⟩=some (.int .i64 v.E)∧d.cell? ⟨J,O+k*10+1,none⟩=some (.int .i64 v.seq)∧d.cell? ⟨J,O+k*10+2,none⟩=some (.int .i64 v.fl)∧d.cell? ⟨J,O+k*10+3,none⟩=some (.slice A3 n3 c3)∧d.cell? ⟨J,O+k*10+4,none⟩=some (.slice B3 k3 d3)∧d.cell? ⟨J,O+k*10+5,none⟩=some (.slice C3 l3 f3)∧d.cell? ⟨J,O+k*10+6,none⟩=some (.int .i64 v.ev)∧d.cell? ⟨J,O+k*10+7,none⟩=some (.int .i64 v.nx)∧d.cell? ⟨J,O+k*10+8,none⟩=some (.int .i64 v.nw)∧d.cell? ⟨J,O+k*10+9,none⟩=some (.int .i64 v.ak))∧d.cell? ⟨h5,0,none⟩=some (.int .i64 v.E)∧d.cell? ⟨h5,1,none⟩=some (.int .i64 v.seq)∧d.cell? ⟨h5,2,none⟩=some (.int .i64 v.fl)∧d.cell? ⟨h5,3,none⟩=some (.slice A5 n5 c5)∧d.cell? ⟨h5,4,none⟩=some (.slice B5 k5 d5)∧d.cell? ⟨h5,5,none⟩=some (.slice C5 l5 f5)∧d.cell? ⟨h5,6,none⟩=some (.int .i64 v.ev)∧d.cell? ⟨h5,7,none⟩=some (.int .i64 v.nx)∧d.cell? ⟨h5,8,none⟩=some (.int .i64 v.nw)∧d.cell? ⟨h5,9,none⟩=some (.int .i64 v.ak)):=zh (fun d I=>by
   have D:=cB.out.below I cB.out.lt;have t0:=D.cell 0;have t1:=D.cell 1;have t2:=D.cell 2;have t3:=D.cell 3;have t4:=D.cell 4;have t5:=D.cell 5;have t6:=D.cell 6;have t7:=D.cell 7;have t8:=D.cell 8;have t9:=D.cell 9;simp only[rsC,zA,zB,zC]at t0 t1 t2 t3 t4 t5 t6 t7 t8 t9;obtain⟨dS,em,eq,er,eE,eg,et,ed,ei,ee⟩:=d6.out;have dp:J<w4.heap.size:=World.block_lt_of_cell? w4 _ dS;have e:=fun cg=>I.cell (p:=⟨J,cg,none⟩) dp
   exact⟨⟨(e _).trans dS,(e _).trans em,(e _).trans eq,(e _).trans er,(e _).trans eE,(e _).trans eg,(e _).trans et,(e _).trans ed,(e _).trans ei,(e _).trans ee⟩,t0,t1,t2,t3,t4,t5,t6,t7,t8,t9⟩)
  have CS:Hid (∀d,zWW w4 d→Calls prog 20 #[.agg (rsC v.E v.seq v.fl (.slice A3 n3 c3) (.slice B3 k3 d3) (.slice C3 l3 f3) v.ev v.nx v.nw v.ak),.agg (rsC v.E v.seq v.fl (.slice A5 n5 c5) (.slice B5 k5 d5) (.slice C5 l5 f5) v.ev v.nx v.nw v.ak)] d fun e w'=>e=.returned (.bool true)∧zWW d w'):=zh (fun d I=>by
   have h:=uL _ _ v v d (cL.out.below I).o.at_.big (db.out.below I).at_.big;rw[tY]at h
   exact h)
  clear dz bX aq dw d2 Z av c0 d8 a5 b0 aF dR bq ci b6 d6 bW dE dc;refine iF (fF [(5,⟨Unit,fun _=>(.bool true),fun _ _=>True⟩)]) (fun G=>Below (World.heap w4).size w4 G) (fun w1 w2=>zWW w1 w2) jk jk (fN (fun _ _ _ _ h=>h) (fQ)) (zy _ _).drew ?_
  iterate 5
   refine fG _ ?_ rfl jr jr (fun G B hD=>?_) ?_;rotate_left
   ·have U:=aR.out G B;go_simp;all_goals with_reducible rfl
   try simp only[Act.put,zD,zE,zF]
  refine fo 6 _ rfl jr jr (fun G B hD=>?_) (fun x=>?_)
  ·refine fZ (f:=?_) (args:=?_) ?_ ?_;rotate_left 2
   ·have U:=aR.out G B;go_simp;all_goals first|with_reducible rfl|(refine⟨?_,?_⟩<;>with_reducible rfl)
   exact ia B (CS.out G B)
  obtain⟨⟩:=x;try simp only[Act.put,zD,zE,zF]
  refine fG 7 ?_ rfl jr jr (fun G B hD=>?_) ?_;rotate_left
  ·have U:=aR.out G B;go_simp;all_goals with_reducible rfl
  try simp only[Act.put,zD,zE,zF]
  refine fW (fun eX B hF=>?_);have eh:=zh (cM.out.below B);clear hF B CS aR cM db cL cB;go_wp2;go_roundw
  case rel=>exact⟨k+1,y5,S',ju,jo,eh⟩
  simp[intOf];omega
 obtain rfl:k=nx:=jo;have cv:XS.take k=XS:=zR (by rw[bd.out];exact zG _);have ar:=HS.out.chg;have aL:∀b T,Tg w9 T b→T≠29→wr.heap[b]?=w9.heap[b]?:=fun b T hT hn=>sN ar aw.out hT hn
 obtain⟨mF,bQ⟩:∃m,iV m0 XS=m:=⟨_,rfl⟩;have av:Hid (RAt wr S (130*k) mF y):=zh (by have h:=HS.out.rt;rw[cv,bQ]at h;exact h);have Z:Hid (Blk wr N 29 (rmC mF y)):=zh (by have h:=HS.out.blk;rw[cv,bQ]at h;exact h)
 have bR:Hid (At wr wB.heap.size X (64*k) v9 mF):=zh (by
  rw[←bQ]
  exact d1.out.kp ar.size (fun b hb=>by
   rcases hb with hb|hb|hb
   ·exact aL b _ hb jd
   ·exact aL b _ hb jd
   exact aL b _ hb jd))
 have b8:Hid (RowK 37 11 (RqK (fun b=>b=X∨b=N) wr) wr (.slice YA ny yc) YS):=zh (aP.out.same (fun b hb=>aL b _ hb jd) (fun x u hq=>hq.kp ar.size (fun b hb hn=>ar.block b hb (fun e=>hn (.inr e))) (fun b _ h=>h)));have bm:Hid (Blk wr w.heap.size 42 cs1):=zh ((aL _ _ (ow R.out) jd).trans R.out);have a9:Hid (Blk wr (w.heap.size+1) 42 cs2):=zh ((aL _ _ (ow P.out) jd).trans P.out);have ce:Hid (zWW w wr):=zh (F.out.trans (ar.below F.out.size (fun j e=>jo)));have dx:=ce.out.size;clear cv ar aL bQ HS ax aP bJ cC d1 R P F aw cX af;go_wp2_with fail;refine(KA bR.out jo).mono ?_;rintro e wf ⟨X2,v2,rfl,bE,cJ,aX⟩
 have cT:∀b,v2.ownBlock=some b→wr.heap.size≤b:=fun b hb=>by
  obtain⟨bK,_,g2,_⟩:=cJ.own.ex;exact(g2.lt b hb).1
 have c1:Hid (RowK 37 11 (RqK (fun b=>b=X2∨v2.ownBlock=some b) wf) wf (.slice YA ny yc) YS):=zh (b8.out.below aX (fun x u hq=>hq.kp aX.size (fun b hb _=>aX.block b hb) (fun b hb hn=>by
  rcases hn with hn|hn
  ·omega
  have:=cT b hn;omega)))
 have bM:=zh cJ;have dJ:=zh aX;clear cJ aX cT b8;have CR:=zh (Ce bM.out bE jo YA ny yc YS c1.out cZ.out jo);go_wp2_with fail;refine CR.out.mono ?_;rintro e wg ⟨v3,e4,e0,rfl,cw⟩
 have ba:Hid (At wg wr.heap.size X2 (64*k+64*ny) v3 (iV mF YS)):=zh (by
  have h:=cw.at_;rw[List.take_length,cZ.out]at h
  exact h)
 have dr:=zh (dJ.out.trans ((nu cw.chg bM.out.own bE bM.out.n0).mono (zG _)));clear cw CR c1 bM dJ;have cm:zWW wg (wg.alloc (.cells #[.int .i64 5,.slice none 0 0] 46)):=zRR _;have du:=Rg.CZ (k:=2) wg 46 [.int .i64 5,.slice none 0 0] 1 rfl jo
 have dy:RqAt (wg.alloc (.cells #[.int .i64 5,.slice none 0 0] 46)) { rq0 with op:=1,evs:=[(5,[])] } ⟨some ⟨wg.heap.size,0,none⟩,1,1,none,0,0⟩:=
  ⟨⟨rfl,by show (1:Nat)≤4398046511104;decide,zG _,[[.int .i64 5,.slice none 0 0]],rfl,du,fun i h1 h2=>by
   obtain rfl:i=0:=by have:i<1:=h1;omega
   exact⟨none,0,0,rfl,⟨Reads.none_,rfl,jd,zG _,fun f hf=>(nomatch hf),fun _=>rfl⟩⟩⟩,Reads.none_,⟨by show (0:Nat)≤140737488351232;decide,zG _,fun _=>rfl⟩,fun e he=>by
   have:e=(5,[]):=by simpa using he
   subst this
   exact⟨jd,jd⟩,⟨jd,jd⟩,jd⟩
 have bL:=zh (ba.out.below cm);have dv:=zt dr cm;have CD1:=zh (qO bL.out jo bE _ _ dy);clear cm du dy ba dr;go_wp2_with fail;refine CD1.out.mono ?_;rintro e wh ⟨v4,m4,eY,rfl,_,_,dQ,_⟩;have aN:=zh (dv.out.trans ((nu dQ bL.out.own bE bL.out.n0).mono (zG _)));clear dQ CD1 bL dv;have b3:=zh (av.out.below aN.out);have a1:=zh (Z.out.below aN.out Z.out.lt);have bY:=zh (bR.out.below aN.out);have b9:=zh (bm.out.below aN.out bm.out.lt);have b1:=zh (a9.out.below aN.out a9.out.lt);have dV:=zh (ce.out.trans (aN.out.mono dx));have dP:=zh av.out.docs.ln;have cK:Hid (mF.ds.length≤60000):=zh (by have:=bR.out.few;omega);clear av Z bR bm a9 ce aN;have CDo:Hid (∀d,zWW wh d→Calls prog 22 #[.pointer (some ⟨X,0,none⟩)] d (Dj d mF.ds)):=zh (fun d hb=>Ai (bY.out.below hb) jo)
 have au:Hid (∀d,zWW wh d→d.cell? ⟨N,7,none⟩=some (.slice y.A y.n y.c)):=zh (fun d I=>by
  have h:=(a1.out.below I a1.out.lt).cell 7
  simpa only[rmC,zA,zB,zC]using h)
 have CT:Hid (∀d A9 c9,zWW wh d→DocsAt d d.heap.size A9 mF.ds.length mF.ds→Calls prog 21 #[.slice A9 mF.ds.length c9,.slice y.A y.n y.c] d fun e w'=>e=.returned (.bool true)∧zWW d w'):=zh (fun d A9 c9 hb hD=>by
  have h:=(b3.out.below hb).docs;have hl:=dP.out;have hf:=cK.out;rw[←hl]at h ⊢
  exact IY A9 y.A mF.ds.length c9 y.c mF.ds d hD h jo)
 obtain⟨dl,ch⟩:∃dl,mF.ds.length=dl:=⟨_,rfl⟩;rw[ch]at CT;have bw:=zh ch;clear ch;go_wp2_with fail;refine iF (fF [(1,⟨Option Addr × Nat,fun x=>.slice x.1 dl x.2,fun x d=>DocsAt d d.heap.size x.1 dl mF.ds⟩),(4,⟨Unit,fun _=>(.bool true),fun _ _=>True⟩)]) (fun G=>Below (World.heap wh).size wh G) (fun w1 w2=>zWW w1 w2) jk jk (fN (fun x wa wb hg h=>h.grow hg) (fN (fun _ _ _ _ h=>h) (fQ))) (zy _ _).drew ?_;refine fG 1 ?_ rfl jr jr (fun G B hD=>?_) ?_;rotate_left
 ·have U:=au.out G B;go_simp;all_goals with_reducible rfl
 try simp only[Act.put,zD,zE,zF]
 refine fo 2 _ rfl jr jr (fun G B hD=>?_) (fun x=>?_)
 ·refine fZ (f:=?_) (args:=?_) ?_ ?_;rotate_left 2
  ·have U:=au.out G B;go_simp;all_goals first|with_reducible rfl|(refine⟨?_,?_⟩<;>with_reducible rfl)
  refine(CDo.out G B).mono ?_;rintro e wq ⟨e6,rfl,cY,dm⟩;obtain⟨A9,c9,rfl,_⟩:=cY.read;exact⟨_,rfl,dm,B.trans (dm.mono B.size),(A9,c9),by rw[←bw.out],by have:=CW cY rfl;rw[←bw.out];exact this⟩
 obtain⟨A6,c6⟩:=x;try simp only[Act.put,zD,zE,zF]
 iterate 2
  refine fG _ ?_ rfl jr jr (fun G B hD=>?_) ?_;rotate_left
  ·have U:=au.out G B;go_simp;all_goals with_reducible rfl
  try simp only[Act.put,zD,zE,zF]
 refine fo 5 _ rfl jr jr (fun G B hD=>?_) (fun x=>?_)
 ·refine fZ (f:=?_) (args:=?_) ?_ ?_;rotate_left 2
  ·have U:=au.out G B;go_simp;all_goals first|with_reducible rfl|(refine⟨?_,?_⟩<;>with_reducible rfl)
  have hd:=gZ (kM hD 1 jk) jd;exact ia B (CT.out G A6 c6 B hd)
 obtain⟨⟩:=x;try simp only[Act.put,zD,zE,zF]
 refine fG 6 ?_ rfl jr jr (fun G B hD=>?_) ?_;rotate_left
 ·have U:=au.out G B;go_simp;all_goals with_reducible rfl
 try simp only[Act.put,zD,zE,zF]
 refine fW (fun ai B hF=>?_);have b7:=zb b9 B;have b5:=zb b1 B;have bA:=zt dV B;clear hF B CDo CT au b3 a1 bY b9 b1 dV dP cK bw;have bO:zWW ai ((ai.alloc (.cells #[.int .i64 0,.int .i64 0,.int .i64 0,.int .i64 0,.int .i64 0,.bool false,.bool false,.slice none 0 0,.int .i64 0,.int .i64 0,.int .i64 0,.bool false] 81)).alloc (.cells #[.pointer none,.pointer (some ⟨ai.heap.size,0,none⟩)] 23)):=(zRR _).alloc jz _;have bk:=(Blk.new ai 81 #[.int .i64 0,.int .i64 0,.int .i64 0,.int .i64 0,.int .i64 0,.bool false,.bool false,.slice none 0 0,.int .i64 0,.int .i64 0,.int .i64 0,.bool false]).alloc (.cells #[.pointer none,.pointer (some ⟨ai.heap.size,0,none⟩)] 23);have aT:=Blk.new (ai.alloc (.cells #[.int .i64 0,.int .i64 0,.int .i64 0,.int .i64 0,.int .i64 0,.bool false,.bool false,.slice none 0 0,.int .i64 0,.int .i64 0,.int .i64 0,.bool false] 81)) 23 #[.pointer none,.pointer (some ⟨ai.heap.size,0,none⟩)];rw[show (ai.alloc (.cells #[.int .i64 0,.int .i64 0,.int .i64 0,.int .i64 0,.int .i64 0,.bool false,.bool false,.slice none 0 0,.int .i64 0,.int .i64 0,.int .i64 0,.bool false] 81)).heap.size=ai.heap.size+1 by simp]at aT;have cj:=zh bk;have ck:=zh aT;have co:=zt bA bO;have bp:=zb b7 bO;have a4:=zb b5 bO;clear bO bk aT bA b7 b5
 go_upto_region 33 with(fail);generalize eG:ai.heap.size=zb at *;generalize ((ai.alloc (.cells #[.int .i64 0,.int .i64 0,.int .i64 0,.int .i64 0,.int .i64 0,.bool false,.bool false,.slice none 0 0,.int .i64 0,.int .i64 0,.int .i64 0,.bool false] 81)).alloc (.cells #[.pointer none,.pointer (some ⟨zb,0,none⟩)] 23))=bN at *;clear eG;go_wp2_with fail;go_loopw [24] (fun iv wr=>∃j:Nat,iv=.int .i64 j∧j≤2∧Hid (zWW bN wr)) (fun iv _=>2-(intOf iv).toNat)
 case atStart=>exact⟨0,rfl,jd,zh (zy _ _)⟩
 obtain⟨j,rfl,hj,aK⟩:=hrel;by_cases eI:j<2
 ·have eo:(j:Int)<2:=jo;have eN:(0:Int)≤(j:Int):=jo
  obtain⟨p,bi,ap⟩:∃p:Option Addr,(∀d,zWW bN d→d.cell? ⟨zb+1,j,none⟩=some (.pointer p))∧(∀d,zWW bN d→Nob d p):=by
   have bg:∀d,zWW bN d→Blk d (zb+1) 23 #[.pointer none,.pointer (some ⟨zb,0,none⟩)]:=fun d I=>ck.out.below I ck.out.lt
   rcases(by omega:j=0∨j=1)with rfl|rfl
   ·exact⟨none,fun d I=>(bg d I).cell 0,fun d _=>.inl rfl⟩
   exact⟨_,fun d I=>(bg d I).cell 1,fun d I=>.inr ⟨zb,rfl,cj.out.below I cj.out.lt⟩⟩
  have cA:=zh bi;have cI:=zh ap;clear bi ap;have hc:=cA.out wr aK.out;have C1:=zh (NR (cI.out wr aK.out) xJ ⟨none,0,0,none,0,0⟩);go_wp2_with fail;refine C1.out.mono ?_;rintro e wa ⟨rfl,ao⟩;have df:=zt aK ao;have C2:=zh (uL (rsC 4 0 0 nil nil nil 0 0 0 0) (rsC 4 0 0 nil nil nil 0 0 0 0) _ _ wa (iL wa 4 0 0 0 0 0 0).big (iL wa 4 0 0 0 0 0 0).big);rw[tY]at C2;clear ao C1 hc;go_wp2_with fail;refine C2.out.mono ?_;rintro e wb ⟨rfl,aU⟩;have bF:=zt df aU;have C3:=zh (KC (cI.out wb bF.out));have hc:=cA.out wb bF.out;clear aU C2 df;go_wp2_with fail;refine C3.out.mono ?_;rintro e wc ⟨rfl,dO⟩;have bI:=zt bF dO;have C4:=zh (KD (cI.out wc bI.out));clear hc;have hc:=cA.out wc bI.out;clear dO C3 bF;go_wp2_with fail;refine C4.out.mono ?_;rintro e wd ⟨rfl,dA⟩;have eD:=zt bI dA;clear dA C4 bI hc;go_wp2;go_roundw
  case rel=>exact⟨j+1,ju,jo,eD⟩
  simp[intOf];omega
 have eo:¬(j:Int)<2:=jo;have be:=zh (bp.out.below aK.out bp.out.lt);have aZ:=zh (a4.out.below aK.out a4.out.lt);have F:=zh (co.out.trans (aK.out.mono co.out.size));clear aK bp a4 co cj ck eI;obtain⟨s,hs⟩:∃s,mo a b=s:=⟨_,rfl⟩
 have dK:Hid (∀d,zWW wr d→Calls prog 25 #[.agg cs1,.agg cs2] d fun e w'=>e=.returned (.bool s)∧zWW d w'):=zh (fun d I=>by
  rw[←hs]
  exact BZ _ _ a b d (aW.out.below (F.out.trans (I.mono F.out.size))) (bS.out.below (F.out.trans (I.mono F.out.size))))
 have dT:Hid (∀d,zWW wr d→Calls prog 20 #[.agg cs1,.agg cs2] d fun e w'=>e=.returned (.bool s)∧zWW d w'):=zh (fun d I=>by
  rw[←hs]
  exact uL _ _ a b d (aW.out.below (F.out.trans (I.mono F.out.size))) (bS.out.below (F.out.trans (I.mono F.out.size))))
 have CAA:Hid (∀d,zWW wr d→Calls prog 25 #[.agg cs1,.agg cs1] d fun e w'=>e=.returned (.bool true)∧zWW d w'):=zh (fun d I=>by
  have h:=BZ _ _ a a d (aW.out.below (F.out.trans (I.mono F.out.size))) (aW.out.below (F.out.trans (I.mono F.out.size)));rw[tY]at h
  exact h)
 have dY:=aW;have dZ:=bS;obtain⟨pA,pn,pc,pB,pk,pd,pC,pl,pe,rfl,_⟩:=dY.out;obtain⟨qA,qn,qc,qB,qk,qd,qC,ql,qe,rfl,_⟩:=dZ.out
 have ae:Hid (∀d,zWW wr d→d.cell? ⟨w.heap.size,0,none⟩=some (.int .i64 a.E)∧d.cell? ⟨w.heap.size,1,none⟩=some (.int .i64 a.seq)∧d.cell? ⟨w.heap.size,2,none⟩=some (.int .i64 a.fl)∧d.cell? ⟨w.heap.size,3,none⟩=some (.slice pA pn pc)∧d.cell? ⟨w.heap.size,4,none⟩=some (.slice pB pk pd)∧d.cell? ⟨w.heap.size,5,none⟩=some (.slice pC pl pe)∧d.cell? ⟨w.heap.size,6,none⟩=some (.int .i64 a.ev)∧d.cell? ⟨w.heap.size,7,none⟩=some (.int .i64 a.nx)∧d.cell? ⟨w.heap.size,8,none⟩=some (.int .i64 a.nw)∧d.cell? ⟨w.heap.size,9,none⟩=some (.int .i64 a.ak)∧d.cell? ⟨w.heap.size+1,0,none⟩=some (.int .i64 b.E)∧d.cell? ⟨w.heap.size+1,1,none⟩=some (.int .i64 b.seq)∧d.cell? ⟨w.heap.size+1,2,none⟩=some (.int .i64 b.fl)∧d.cell? ⟨w.heap.size+1,3,none⟩=some (.slice qA qn qc)∧d.cell? ⟨w.heap.size+1,4,none⟩=some (.slice qB qk qd)∧d.cell? ⟨w.heap.size+1,5,none⟩=some (.slice qC ql qe)∧d.cell? ⟨w.heap.size+1,6,none⟩=some (.int .i64 b.ev)∧d.cell? ⟨w.heap.size+1,7,none⟩=some (.int .i64 b.nx)∧d.cell? ⟨w.heap.size+1,8,none⟩=some (.int .i64 b.nw)∧d.cell? ⟨w.heap.size+1,9,none⟩=some (.int .i64 b.ak)):=zh (fun d I=>by
  have h1:=be.out.below I be.out.lt;have h2:=aZ.out.below I aZ.out.lt;have t0:=h1.cell 0;have s0:=h2.cell 0;have t1:=h1.cell 1;have s1:=h2.cell 1;have t2:=h1.cell 2;have s2:=h2.cell 2;have t3:=h1.cell 3;have s3:=h2.cell 3;have t4:=h1.cell 4;have s4:=h2.cell 4;have t5:=h1.cell 5;have s5:=h2.cell 5;have t6:=h1.cell 6;have s6:=h2.cell 6;have t7:=h1.cell 7;have s7:=h2.cell 7;have t8:=h1.cell 8;have s8:=h2.cell 8;have t9:=h1.cell 9;have s9:=h2.cell 9;simp only[rsC,zA,zB,zC]at t0 s0 t1 s1 t2 s2 t3 s3 t4 s4 t5 s5 t6 s6 t7 s7 t8 s8 t9 s9
  exact⟨t0,t1,t2,t3,t4,t5,t6,t7,t8,t9,s0,s1,s2,s3,s4,s5,s6,s7,s8,s9⟩)
 have e8:(s==s)=true:=jz;clear hs dY dZ be aZ aW bS;go_wp2_with fail;refine iF (fF [(2,⟨Unit,fun _=>(.bool s),fun _ _=>True⟩),(5,⟨Unit,fun _=>(.bool s),fun _ _=>True⟩),(10,⟨Unit,fun _=>(.bool true),fun _ _=>True⟩)]) (fun G=>Below (World.heap wr).size wr G) (fun w1 w2=>zWW w1 w2) jk jk (fN (fun _ _ _ _ h=>h) (fN (fun _ _ _ _ h=>h) (fN (fun _ _ _ _ h=>h) (fQ)))) (zy _ _).drew ?_
 iterate 2
  refine fG _ ?_ rfl jr jr (fun G B hD=>?_) ?_;rotate_left
  ·have U:=ae.out G B;go_simp;all_goals with_reducible rfl
  try simp only[Act.put,zD,zE,zF]
 refine fo 3 _ rfl jr jr (fun G B hD=>?_) (fun x=>?_)
 ·refine fZ (f:=?_) (args:=?_) ?_ ?_;rotate_left 2
  ·have U:=ae.out G B;go_simp;all_goals first|with_reducible rfl|(refine⟨?_,?_⟩<;>with_reducible rfl)
  exact ia B (dK.out G B)
 obtain⟨⟩:=x;try simp only[Act.put,zD,zE,zF]
 iterate 2
  refine fG _ ?_ rfl jr jr (fun G B hD=>?_) ?_;rotate_left
  ·have U:=ae.out G B;go_simp;all_goals with_reducible rfl
  try simp only[Act.put,zD,zE,zF]
 refine fo 6 _ rfl jr jr (fun G B hD=>?_) (fun x=>?_)
 ·refine fZ (f:=?_) (args:=?_) ?_ ?_;rotate_left 2
  ·have U:=ae.out G B;go_simp;all_goals first|with_reducible rfl|(refine⟨?_,?_⟩<;>with_reducible rfl)
  exact ia B (dT.out G B)
 obtain⟨⟩:=x;try simp only[Act.put,zD,zE,zF]
 iterate 4
  refine fG _ ?_ rfl jr jr (fun G B hD=>?_) ?_;rotate_left
  ·have U:=ae.out G B;go_simp;all_goals with_reducible rfl
  try simp only[Act.put,zD,zE,zF]
 refine fo 11 _ rfl jr jr (fun G B hD=>?_) (fun x=>?_)
 ·refine fZ (f:=?_) (args:=?_) ?_ ?_;rotate_left 2
  ·have U:=ae.out G B;go_simp;all_goals first|with_reducible rfl|(refine⟨?_,?_⟩<;>with_reducible rfl)
  exact ia B (CAA.out G B)
 obtain⟨⟩:=x;try simp only[Act.put,zD,zE,zF]
 iterate 2
  refine fG _ ?_ rfl jr jr (fun G B hD=>?_) ?_;rotate_left
  ·have U:=ae.out G B;go_simp;all_goals with_reducible rfl
  try simp only[Act.put,zD,zE,zF]
 refine fW (fun eW B hF=>?_);have ey:=zt F B;clear hF B dK dT CAA ae F;go_wp2;go_ret;exact⟨rfl,ey.out⟩
end Md

namespace Md
open Go.RowKit Go.ChangeShapes Go.WideShapes Go.ChangeAt Go.Deep Go.Joins Ut Tk Qy Ev Qp Cu Mx
open Hi (Bk bkC bkV)
section
variable {H:Type} {enc:TypeId × Value→H} {W:World} {base:Nat}
theorem Ak:prog.cellsOf 48=3:=by kernel_rfl
theorem Ia:prog.bytesOf 48=40:=by kernel_rfl
theorem EX:prog.cellsOf 91=2:=by kernel_rfl
theorem EY:prog.bytesOf 91=16:=by kernel_rfl
theorem yh:prog.cellsOf 26=1:=by kernel_rfl
theorem EH:prog.cellsOf 40=1:=by kernel_rfl
theorem FB:prog.cellsOf 39=1:=by kernel_rfl
theorem F8:prog.cellsOf 42=10:=by kernel_rfl
theorem KN{fuel:Nat}{cs:List Value}{x:DataW H × List MemPlace}(h:DataW.trod enc prog W 0 (fun _=>true) true fuel 48 cs=some x)(hw:∀n∈x.1.weights prog 48,n≤140737488351232):∃d:Dc,DcV W W.heap.size d cs:=by
 obtain⟨q,o,m,rfl,a,f,g⟩:=trod_struct2 underlying48 h;rw[Ak]at a
 match cs,a with
 | [u0,u1,u2],_=>
  simp only[pq,tH,List.drop_zero,zo,zX,List.take_zero]at f g;obtain⟨k,l,rfl,p⟩:=DataW.trod_int underlying3 f;simp only[zQ,and_true]at l;subst l;obtain⟨e,⟨F,n,c,i,b⟩,_⟩:=yu g (lj (j:=1) underlying48 hw rfl rfl);simp only[zQ,and_true]at i;obtain⟨rfl,rfl⟩:=i;exact⟨⟨k,e.1,e.2⟩,F,n,c,rfl,b.rd,b.len,b.few,b.cap,b.nl⟩
theorem Ib{fuel:Nat}{v:Value}{x:DataW H × List MemPlace}(h:DataW.trod enc prog W 0 (fun _=>true) true fuel 26 [v]=some x)(hw:∀n∈x.1.weights prog 26,n≤140737488351232) :
  ∃(A:Option Addr) (n c:Nat) (l:List Dc),v=.slice A n c∧DocsAt W W.heap.size A n l∧n≤8796093021952:=by
 obtain⟨A,b,m,a,r,p,rfl,J,k,I,z,L,e,j⟩:=qG underlying26 Ak jo h
 have g:∀i:Nat,∃d:Dc,∀(D:i<a.length),DcV W W.heap.size d a[i]:=fun i=>by
  by_cases s:i<a.length
  ·obtain⟨G,y,t,C⟩:=j i s jo;have w:r[i]'jo∈r:=za _;rcases e with e|⟨u,_⟩
   ·rw[e]at hw;obtain⟨q,F⟩:=KN t (by rw[C];exact qW underlying26 hw w);exact⟨q,fun _=>F⟩
   omega
  exact⟨⟨0,0,[]⟩,fun h=>absurd h s⟩
 obtain⟨f,E⟩:=Classical.skolem.1 g
 have o:b≤8796093021952:=by
  rcases e with e|⟨u,_⟩
  ·rw[e]at hw;have:=pR underlying26 hw;rw[Ia]at this;omega
  omega
 exact⟨A,b,m,(List.range b).map f,rfl,⟨jz,a,k,z,fun i D B=>by simpa using E i B⟩,o⟩
theorem KO{fuel:Nat}{v:Value}{x:DataW H × List MemPlace}(h:DataW.trod enc prog W 0 (fun _=>true) true fuel 40 [v]=some x)(hw:∀n∈x.1.weights prog 40,n≤140737488351232) :
  ∃(A:Option Addr) (n c:Nat) (l:List Bk),v=.slice A n c∧Reads W W.heap.size 2 A n (bkC l)∧l.length=n∧n≤140737488351232:=by
 obtain⟨A,a,m,b,T,p,rfl,P,j,I,B,S,k,g⟩:=qG underlying40 EX jo h
 have d:∀i:Nat,∃q:Bk,∀(D:i<b.length),b[i]=bkV q:=fun i=>by
  by_cases u:i<b.length
  ·obtain⟨M,y,G,X⟩:=g i u jo;obtain⟨N,R,U,_,E,s,t⟩:=trod_struct2 underlying91 G;have r:=I _ (za u);obtain⟨u0,u1,z⟩:=Cg r;rw[z]at s t;simp only[pq,List.drop_zero,zo,zX,List.take_zero]at s t;obtain⟨J,C,_,_⟩:=DataW.trod_int underlying3 s;obtain⟨F,w,_,_⟩:=DataW.trod_int underlying3 t;simp only[zQ,and_true]at C w;subst C w;exact⟨(J,F),fun _=>z⟩
  exact⟨(0,0),fun h=>absurd h u⟩
 obtain⟨f,L⟩:=Classical.skolem.1 d
 have o:a≤140737488351232:=by
  rcases k with k|⟨O,_⟩
  ·rw[k]at hw;have:=pR underlying40 hw;rw[EY]at this;omega
  omega
 refine⟨A,a,m,(List.range a).map f,rfl,?_,jz,o⟩;have e:b=((List.range a).map f).map bkV:=List.ext_getElem (by simp[j]) (fun i D V=>by simpa using L i D);rw[e]at B;exact B
theorem EI{P:Program}{t:TypeId}{f0 f1 f2 f3 f4 f5 f6 f7 f8 f9:Field}{fuel:Nat}{cs:List Value}{x:DataW H × List MemPlace}(ht:P.underlying t=some (.struct #[f0,f1,f2,f3,f4,f5,f6,f7,f8,f9]))(h:DataW.trod enc P W 0 (fun _=>true) true fuel t cs=some x) :
  ∃y0 y1 y2 y3 y4 y5 y6 y7 y8 y9 n,x.1=.agg [y0.1,y1.1,y2.1,y3.1,y4.1,y5.1,y6.1,y7.1,y8.1,y9.1]∧cs.length=P.cellsOf t∧DataW.trod enc P W 0 (fun _=>true) true n f0.type ((cs.drop f0.offset).take (P.cellsOf f0.type))=some y0∧DataW.trod enc P W 0 (fun _=>true) true n f1.type ((cs.drop f1.offset).take (P.cellsOf f1.type))=some y1∧DataW.trod enc P W 0 (fun _=>true) true n f2.type ((cs.drop f2.offset).take (P.cellsOf f2.type))=some y2∧DataW.trod enc P W 0 (fun _=>true) true n f3.type ((cs.drop f3.offset).take (P.cellsOf f3.type))=some y3∧DataW.trod enc P W 0 (fun _=>true) true n f4.type ((cs.drop f4.offset).take (P.cellsOf f4.type))=some y4∧DataW.trod enc P W 0 (fun _=>true) true n f5.type ((cs.drop f5.offset).take (P.cellsOf f5.type))=some y5∧DataW.trod enc P W 0 (fun _=>true) true n f6.type ((cs.drop f6.offset).take (P.cellsOf f6.type))=some y6∧DataW.trod enc P W 0 (fun _=>true) true n f7.type ((cs.drop f7.offset).take (P.cellsOf f7.type))=some y7∧DataW.trod enc P W 0 (fun _=>true) true n f8.type ((cs.drop f8.offset).take (P.cellsOf f8.type))=some y8∧DataW.trod enc P W 0 (fun _=>true) true n f9.type ((cs.drop f9.offset).take (P.cellsOf f9.type))=some y9:=by
 obtain⟨c,n,_,rfl,d,b,a⟩:=DataW.trod_struct ht h
 match c,b with
 | [y0,y1,y2,y3,y4,y5,y6,y7,y8,y9],_=>exact⟨y0,y1,y2,y3,y4,y5,y6,y7,y8,y9,n,jz,d,by simpa using a 0 f0 rfl,by simpa using a 1 f1 rfl,by simpa using a 2 f2 rfl,by simpa using a 3 f3 rfl,by simpa using a 4 f4 rfl,by simpa using a 5 f5 rfl,by simpa using a 6 f6 rfl,by simpa using a 7 f7 rfl,by simpa using a 8 f8 rfl,by simpa using a 9 f9 rfl⟩
theorem Ch{v:Value}{d:DataW H}{p:List MemPlace}(hv:Value.okWide prog W .any base 42 v)(h:DataW.Trod enc prog W 0 (fun _=>true) true 42 v d p)(hw:∀n∈d.weights prog 42,n≤140737488351232):∃cs a,v=.agg cs∧AnsI W cs a:=by
 obtain⟨cs,rfl,_⟩:=okWide_struct underlying42 hv;obtain⟨M,hf⟩:=h;obtain⟨y0,y1,y2,y3,y4,y5,y6,y7,y8,y9,n,o,t,w,y,q,s,f,i,x,z,u,r⟩:=EI underlying42 hf;rw[F8]at t;have o:d=_:=o;rw[o]at hw;obtain⟨l,b⟩:∃l:List Value,(Value.agg cs).cells.toList=l:=⟨_,rfl⟩;rw[b]at t w y q s f i x z u r
 match l,t with
 | [u0,u1,u2,u3,u4,u5,u6,u7,u8,u9],_=>
  simp only[FB,pq,yh,EH,yD,List.drop_zero,zo,zX,List.take_zero]at w y q s f i x z u r;obtain⟨X,O,_⟩:=DataW.trod_int underlying39 w;obtain⟨S,I,_⟩:=DataW.trod_int underlying3 y;obtain⟨U,G,_⟩:=DataW.trod_int underlying3 q;obtain⟨k6,E,_⟩:=DataW.trod_int underlying3 x;obtain⟨k7,N,_⟩:=DataW.trod_int underlying3 z;obtain⟨R,F,_⟩:=DataW.trod_int underlying3 u;obtain⟨Z,J,_⟩:=DataW.trod_int underlying3 r;simp only[zQ,and_true]at O I G E N F J;subst O I G E N F J;obtain⟨A,n,c,D,rfl,hD,hn⟩:=Ib s (lj (j:=3) underlying42 hw rfl rfl);obtain⟨B,k,d',T,rfl,Y,hk,g⟩:=KO f (lj (j:=4) underlying42 hw rfl rfl);obtain⟨C,m,e,L,rfl,P,V,_⟩:=Ba i (lj (j:=5) underlying42 hw rfl rfl);exact⟨cs,⟨X,S,U,D,T,L,k6,k7,R,Z⟩,rfl,A,n,c,B,k,d',C,m,e,Array.toList_inj.1 b,hD,hn,Y,hk,g,P,by have:=P.1;rw[ij,Nat.mul_one]at this;exact this,V⟩
end
end Md

section

end
end Go.Proofs.YtmomjpolkkbhnaaGreat
