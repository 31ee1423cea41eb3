/- loggialaw26.Few: the walk (printed by gen_mdp.py). -/
import Derived.Deep.CutRange
import Derived.Test.YtmomjpolkkbhnaaGreatQModelRunsRow33
set_option linter.unusedSimpArgs false
set_option linter.unusedVariables false
set_option maxRecDepth 20000
set_option maxHeartbeats 100000000
open Go.Proofs.Tryz
namespace Go.Proofs.YtmomjpolkkbhnaaGreat
namespace Md
open Go.RowKit Ut Tk Qy Qp Ev Cu
def kg(f:Fl):Fl:=(f.1,if 200<f.2.size then f.2.extract 0 200 else f.2)
def iR(e:Evn):Evn:=(e.1,(e.2.take 5).map kg)
def Du(q:ByteArray):ByteArray:=if 1100<q.size then q.extract 0 1100 else q
def lg(r:Rq):Rq:={ r with evs:=(r.evs.take 10).map iR,q:=Du r.q,cur:=r.cur.take 1200 }
theorem Lg(f:Fl)(h:f.1.size≤140737488351232∧f.2.size≤140737488351232):(kg f).1.size≤140737488351232∧(kg f).2.size≤140737488351232:=by
 unfold kg;refine⟨h.1,?_⟩;show (if 200<f.2.size then f.2.extract 0 200 else f.2).size≤_
 split
 ·rw[ByteArray.size_extract];omega
 exact h.2
theorem Fx(fs:List Fl)(f:Fl):fJ (fs ++ [f])=fJ fs ++ [.string f.1,.string f.2]:=by simp[fJ]
structure EvS (w:World) (S:Nat→Prop) (e:Evn) (u:List Value):Prop where
 ex:∃F fn fc,u=[.int .i64 e.1,.slice F fn fc]∧ReadsS w S 2 F fn (fJ e.2)∧e.2.length=fn∧fn≤8796093021952∧fn≤fc∧(F=none→fc=0)
theorem EvS.same{w w':World}{S S':Nat→Prop}{e:Evn}{u:List Value}(h:EvS w S e u)(hS:∀b,S b→S' b∧w'.heap[b]?=w.heap[b]?):EvS w' S' e u:=by
 obtain⟨F,g,f,c,d,a⟩:=h.ex;exact⟨F,g,f,c,d.same hS,a⟩
structure EOwn (w:World) (base:Nat) (v:Value) (l:List Evn):Prop where
 ex:∃vss:List (List Value),vss.length=l.length∧w.ownsRow base 46 2 v l.length vss.flatten∧∀i (h:i<l.length) (h':i<vss.length),EvS w (Go.Proofs.YtmomjpolkkbhnaaGreat.Ev.Fd w base) l[i] vss[i]
theorem EOwn.start(w:World)(base:Nat):EOwn w base (.slice none 0 0) []:=⟨[],rfl,vO _ _ _ _,fun i h=>absurd h (by simp)⟩
theorem EOwn.kp{w w':World}{base:Nat}{v:Value}{l:List Evn}(h:EOwn w base v l)(hk:∀b,(Tg w 46 b∨Tg w 85 b)→w'.heap[b]?=w.heap[b]?):EOwn w' base v l:=by
 obtain⟨d,g,e,f⟩:=h.ex;exact⟨d,g,gz e (fun b j=>hk b (.inl (fO e j))),fun i a b=>(f i a b).same (fun b c=>⟨⟨c.1,c.2.same (hk b (.inr c.2))⟩,hk b (.inr c.2)⟩)⟩
theorem EOwn.below{w w':World}{base:Nat}{v:Value}{l:List Evn}(h:EOwn w base v l)(hb:zWW w w'):EOwn w' base v l:=h.kp (fun b hT=>hb.block b (by rcases hT with hT|hT<;>exact hT.lt))
theorem EOwn.put{w w5:World}{base:Nat}{v v':Value}{l:List Evn}{e:Evn}{u:List Value}{vss:List (List Value)}(h1:vss.length=l.length)(h2:w.ownsRow base 46 2 v l.length vss.flatten)(h3:∀i (h:i<l.length) (h':i<vss.length),EvS w (Go.Proofs.YtmomjpolkkbhnaaGreat.Ev.Fd w base) l[i] vss[i])
  (hp:w5.ownsRow base 46 2 v' (l.length+1) (vss.flatten++u)) (hg:w.grownBy w5 v.ownBlock) (hd:EvS w (Go.Proofs.YtmomjpolkkbhnaaGreat.Ev.Fd w base) e u):EOwn w5 base v' (l ++ [e]):=by
 have c:∀b,Go.Proofs.YtmomjpolkkbhnaaGreat.Ev.Fd w base b→Go.Proofs.YtmomjpolkkbhnaaGreat.Ev.Fd w5 base b∧w5.heap[b]?=w.heap[b]?:=fun b d=>by
  have e:w5.heap[b]?=w.heap[b]?:=hg.block b d.2.lt (fun e=>absurd ((fO h2 e.symm).one d.2) jd);exact⟨⟨d.1,d.2.same e⟩,e⟩
 refine⟨vss ++ [u],by simp[h1],?_,fun i a b=>?_⟩
 ·rw[List.flatten_append,zJ]
  simpa using hp
 by_cases g:i<l.length
 ·rw[zl g,zl jo];exact(h3 i g jo).same c
 have f:i=l.length:=by simp at a;omega
 subst f;rw[zn jo,zn jo];simp only[Nat.sub_self,h1,List.getElem_cons_zero];exact hd.same c
theorem EOwn.at_{w:World}{base:Nat}{v:Value}{l:List Evn}(h:EOwn w base v l)(hl:l.length≤4398046511104)(hs:∀e∈l,∀f∈e.2,f.1.size≤140737488351232∧f.2.size≤140737488351232):∃A c,v=.slice A l.length c∧EvsAt w w.heap.size A l.length c l:=by
 obtain⟨d,o,k,g⟩:=h.ex;obtain⟨A,c,rfl,j,p,_⟩:=Ev.fP k;refine⟨A,c,rfl,rfl,hl,p,d,o,j,fun i a b=>?_⟩;obtain⟨F,x,r,e,q,m,n,u,s⟩:=(g i a b).ex;exact⟨F,x,r,e,⟨q.mono (fun b t=>t.2.lt),m,n,u,hs _ (za a),s⟩⟩
structure EvsS (w:World) (S:Nat→Prop) (A:Option Addr) (n c:Nat) (l:List Evn):Prop where
 ln:l.length=n
 cap:n≤c
 ex:∃vss:List (List Value),vss.length=n∧ReadsS w S 2 A n vss.flatten∧∀i (h:i<l.length) (h':i<vss.length),EvS w S l[i] vss[i]
theorem EvsS.same{w w':World}{S S':Nat→Prop}{A:Option Addr}{n c:Nat}{l:List Evn}(h:EvsS w S A n c l)(hS:∀b,S b→S' b∧w'.heap[b]?=w.heap[b]?):EvsS w' S' A n c l:=by
 obtain⟨d,f,g,e⟩:=h.ex;exact⟨h.ln,h.cap,d,f,g.same hS,fun i a b=>(e i a b).same hS⟩
theorem EOwn.s{w:World}{base b0:Nat}{A:Option Addr}{c:Nat}{l:List Evn}(h:EOwn w base (.slice A l.length c) l)(hb:b0≤base):EvsS w (fun b=>b0≤b∧b<w.heap.size) A l.length c l:=by
 obtain⟨f,m,g,k⟩:=h.ex;obtain⟨o,p,e,_,n,_⟩:=Ev.fP g
 cases e;exact⟨rfl,n,f,m,(ReadsS.of_own g).mono (fun b d=>⟨zY hb d.1,d.2.1⟩),fun i a b=>(k i a b).same (fun b j=>⟨⟨zY hb j.1,j.2.lt⟩,rfl⟩)⟩
theorem Jr:(prog.info? 46).map (fun i=>(i.zero,i.size,i.bytes))=some (some (.agg #[.int .i64 0,.slice none 0 0]),2,32):=by kernel_rfl
def OB(r:Rq)(z0:Rw)(w:World)(e:Ending)(w':World):Prop:=∃z,e=.returned (.agg (rqC (lg r) z))∧RqAt w' (lg r) z∧zWW w w'∧EvsS w' (fun b=>w.heap.size≤b∧b<w'.heap.size) z.E z.en z.ec (lg r).evs∧∀(wx:World) (B:Nat),Reads wx B 1 z0.C z0.cn (bv r.cur)→Reads wx B 1 z.C z.cn (bv (lg r).cur)
theorem Lh{w:World}{B n cn:Nat}{C:Option Addr}{L:List UInt8}(h:Reads w B 1 C n (bv L))(hc:min 1200 n=cn):Reads w B 1 C cn (bv (L.take 1200)):=by
 have d:=h.1;rw[ij]at d;refine⟨by rw[ij,zK];omega,fun i=>?_⟩;obtain⟨g,f,e,b,c⟩:=h.2 jo;refine⟨g,f,e,b,fun j u a=>c j u ?_⟩;unfold bv at a ⊢;rw[List.map_take,List.getElem?_take]at a
 split at a
 ·exact a
 cases a
theorem NC{r:Rq}{w:World}{z:Rw}(h:RqAt w r z):(∀e∈(r.evs.take 10).map iR,∀f∈e.2,f.1.size≤140737488351232∧f.2.size≤140737488351232)∧(∀e∈(r.evs.take 10).map iR,I64 e.1):=by
 refine⟨fun e a f m=>?_,fun e a=>?_⟩
 ·obtain⟨j,c,rfl⟩:=List.mem_map.1 a;have l:=List.mem_of_mem_take c;obtain⟨d,b,rfl⟩:=List.mem_map.1 m;have k:=List.mem_of_mem_take b;obtain⟨i,n,rfl⟩:=zu.1 l;obtain⟨_,_,_,_,_,_,_,_,_,g⟩:=h.ev.at_ n;exact Lg d (g.sz d k)
 obtain⟨j,c,rfl⟩:=List.mem_map.1 a;exact h.ti j (List.mem_of_mem_take c)
theorem Li(r:Rq)(z:Rw)(w:World)(hr:RqAt w r z):Calls prog 10 #[.agg (rqC r z)] w (OB r z w):=by
 obtain⟨i0,bp,br,bx,bg⟩:=info_parts Ev.uS;obtain⟨j0,aW,a5,aO,aJ⟩:=info_parts Jr;have hb:zWW w ((w.alloc (.cells (rqC r z) 37)).alloc (.cells (rqC ⟨0,[],false,0,⟨#[]⟩,0,0,0,0,0,[]⟩ ⟨none,0,0,none,0,0⟩) 37)):=(zRR _).alloc jz _;have hq:=(Blk.new w 37 (rqC r z)).alloc (.cells (rqC ⟨0,[],false,0,⟨#[]⟩,0,0,0,0,0,[]⟩ ⟨none,0,0,none,0,0⟩) 37);have y:=Blk.new (w.alloc (.cells (rqC r z) 37)) 37 (rqC ⟨0,[],false,0,⟨#[]⟩,0,0,0,0,0,[]⟩ ⟨none,0,0,none,0,0⟩);have z1:(w.alloc (.cells (rqC r z) 37)).heap.size=w.heap.size+1:=jz;rw[z1]at y;have HB:=zh hb;have HQ:=zh hq;have HR:=zh y;have ae:=zh (hr.below hb);have aF:=zh hr.cur;have af:=zh hr.cn;have au:=zh (NC hr);have bd:w.heap.size+2≤(World.heap ((w.alloc (.cells (rqC r z) 37)).alloc (.cells (rqC ⟨0,[],false,0,⟨#[]⟩,0,0,0,0,0,[]⟩ ⟨none,0,0,none,0,0⟩) 37))).size:=jz;clear hb hq y z1 hr;go_enter func10,ntmps10
 go_upto_region 1 with(fail);generalize ((w.alloc (.cells (rqC r z) 37)).alloc (.cells (rqC ⟨0,[],false,0,⟨#[]⟩,0,0,0,0,0,[]⟩ ⟨none,0,0,none,0,0⟩) 37))=W at *;have bq:=ae.out.ev.ln;have b0:=zh bq;go_wp2_with fail;go_loopw [3,4] (fun v i wr=>∃(u:Value) (k:Nat),u=v∧k≤z.en∧k≤10∧i=.int .i64 k∧Hid (EOwn wr W.heap.size u ((r.evs.take k).map iR))∧Hid (zWW W wr)) (fun _ i _=>10-(intOf i).toNat)
 case atStart=>exact⟨_,0,rfl,zS _,zS _,rfl,zh (EOwn.start _ _),zh (zy _ _)⟩
 obtain⟨u,k,rfl,hk,bL,rfl,hO,hB⟩:=hrel;have bw:=hB.out.size;have q1:=(HQ.out.below hB.out HQ.out.lt).cell 1;simp only[rqC,zA,zB,zC]at q1;by_cases J:k<z.en∧k<10
 ·obtain⟨J,bN⟩:=J;have bX:(k:Int)<(z.en:Int):=jo;have bK:(k:Int)<10:=jo;have bM:(0:Int)≤(k:Int):=jo;have aY:k<r.evs.length:=jo;obtain⟨eb,eo,F,fn,fc,az,aE,a0,a1,ai⟩:=(ae.out.ev.grow hB.out).at_ aY;have aP:Hid ((r.evs.take (k+1)).map iR=(r.evs.take k).map iR ++ [(r.evs[k].1,(r.evs[k].2.take 5).map kg)]):=zh (by rw[zL aY,List.map_append];rfl);have bf:=zh ai;have bJ:=ai.len;have bP:=ai.few;have bR:=ai.cap;have bU:((r.evs.take k).map iR).length≤10:=by rw[List.length_map,zK];omega
  generalize (r.evs.take k).map iR=L at *;generalize r.evs[k].1=D at *;generalize r.evs[k].2=H at *;rw[az]at q1;have hX:=Blk.new wr 46 #[.int .i64 D,.slice none 0 0];have aV:zWW wr (wr.alloc (.cells #[.int .i64 D,.slice none 0 0] 46)):=zRR _;have HX:=zh hX;have bD:=zh aV
  have Hc:Hid (∀A,zWW wr A→A.cell? ⟨w.heap.size,1,none⟩=some (.slice (some ⟨eb,eo,none⟩) z.en z.ec)∧A.cell? ⟨eb,eo+k*2+1,none⟩=some (.slice F fn fc)):=zh (fun A hb=>by
   have r1:=(HQ.out.below (hB.out.trans (hb.mono hB.out.size)) HQ.out.lt).cell 1;simp only[rqC,zA,zB,zC]at r1;rw[az]at r1
   exact⟨r1,(hb.cell (p:=⟨eb,eo+k*2+1,none⟩) aE).trans a1⟩)
  clear hX aV az;obtain⟨S,rfl⟩:∃S:World,S=wr:=⟨_,rfl⟩
  go_upto_region 6 with(fail);generalize bE:S.alloc (.cells #[.int .i64 D,.slice none 0 0] 46)=bV at *;clear bE a0 a1 q1;go_wp2_with fail;go_loopw [6] (fun i wr=>∃(fv:Value) (j:Nat),j≤fn∧j≤5∧i=.int .i64 j∧Hid (Blk wr S.heap.size 46 #[.int .i64 D,fv])∧Hid (wr.ownsRow S.heap.size 85 2 fv j (fJ ((H.take j).map kg)))∧Hid (zWW S wr)) (fun i _=>5-(intOf i).toNat)
  case atStart=>exact⟨_,0,zS _,zS _,rfl,HX,zh (vO _ _ _ _),bD⟩
  obtain⟨fv,j,hj,bs,rfl,hE,hF,l⟩:=hrel;have bA:=l.out.size;obtain⟨y1,y2⟩:=Hc.out wr l.out;by_cases ag:j<fn∧j<5
  ·obtain⟨ag,bs⟩:=ag;have bZ:(j:Int)<(fn:Int):=jo;have bQ:(j:Int)<5:=jo;have bO:(0:Int)≤(j:Int):=jo;have aX:j<H.length:=jo;obtain⟨tb,tq,rfl,aN,d0,d1⟩:=lq bf.out.rd (k:=j) aX;have e0:=(l.out.cell (p:=⟨tb,tq+j*2,none⟩) aN).trans d0;have e1:=(l.out.cell (p:=⟨tb,tq+j*2+1,none⟩) aN).trans d1;have aR:Hid (fJ ((H.take (j+1)).map kg)=fJ ((H.take j).map kg) ++ [.string H[j].1,.string (if 200<H[j].2.size then H[j].2.extract 0 200 else H[j].2)]):=zh (by rw[zL aX,List.map_append];exact Fx _ _);obtain⟨P,O,rfl,_⟩:=Ev.fP hF.out;generalize bz:H[j].1=X at *;generalize bn:H[j].2=V at *;clear bz bn;generalize be:fJ ((H.take j).map kg)=zs at *;clear be;have x1:=(Blk.new wr 85 #[.string X,.string V]).cell 1;have bu:=(Blk.new wr 85 #[.string X,.string V]).frozen 1;simp only[zA,zB,zC]at x1;have a3:=zh (Blk.new wr 85 #[.string X,.string V]);have aB:=zh (Blk.new wr 85 #[.string X,.string (V.extract 0 200)]);have aK:Hid (zWW wr (wr.alloc (.cells #[.string X,.string V] 85))):=zh (zRR _);have aU:Hid (zWW wr (wr.alloc (.cells #[.string X,.string (V.extract 0 200)] 85))):=zh (zRR _);obtain⟨wi,rfl⟩:∃wi:World,wi=wr:=⟨_,rfl⟩
   go_upto_if 53 with(fail);go_cut []from 41 to 57 (fun A=>∃t2:ByteArray,Hid ((if 200<V.size then V.extract 0 200 else V)=t2)∧Hid (Blk A wi.heap.size 85 #[.string X,.string t2])∧Hid (zWW wi A))
   case first=>
    by_cases ht:200<V.size
    ·have Y:(200:Int)<(V.size:Int):=jo;go_wp2_with fail;go_meet;exact⟨_,zh (zI ht),aB,aU⟩
    have Y:¬(200:Int)<(V.size:Int):=jo;go_wp2_with fail;go_meet;exact⟨_,zh (zH ht),a3,aK⟩
   case rest=>
   obtain⟨t2,bl,a4,av⟩:=hcut;rw[bl.out]at aR;have ab:=hE.out.below av.out hE.out.lt;have T:=zh (hF.out.kept (fH av.out none) (by cases hv:(Value.slice P j O).ownBlock<;>simp));have ak:=zh (l.out.trans (av.out.mono bA));have a8:=ab.cell 1;have bh:=ab.frozen 1;have f0:=a4.out.cell 0;have f1:=a4.out.cell 1;simp only[zA,zB,zC]at a8 f0 f1;have a9:=zh ab;have bm:=ak.out.size;clear hE hF l e0 e1 d0 d1 y1 y2 x1 bu a3 aB aK aU ab bh
   go_wp2_with (first
    | (at_builtin;refine wpList_append_own_at _ rfl _ _ 44 rfl S.heap.size 85 i0 _ 2 32 underlying44 bp br bx bg rfl jd _ j zs rfl (T.out.alloc _) ⟨wc.heap.size,0,none⟩ 1 1 [.string X,.string t2] rfl rfl (vH (cs:=#[.string X,.string t2]) (t:=85) (fr:=(0,0)) (vK wc _)) jt ?k1 ?k2 ?k3 ?_)
    | fail)
   case k1=>unfold maxLen;omega
   case k2=>omega
   try(case k3=>first|omega|(rw[vM];omega))
   intro v4 w6 n d _ _;obtain⟨A4,c4,rfl,_⟩:=Ev.fP n;have x:=zh n;have aj:=zh ((a9.out.alloc (.cells #[.string X,.string t2] 85)).grown d (fun e=>absurd ((fO T.out e.symm).one ⟨_,_,a9.out⟩) jd));have G:=zh ((ak.out.alloc bm (.cells #[.string X,.string t2] 85)).grown d (by rw[vM];omega) (fun j hj=>(T.out.lt j hj).1));have b1:=aj.out.cell 1;have bT:=aj.out.frozen 1;simp only[zA,zB,zC]at b1
   have bt:Hid (Blk (w6.setCell ⟨S.heap.size,1,none⟩ (.slice A4 (j+1) c4)) S.heap.size 46 #[.int .i64 D,(.slice A4 (j+1) c4)]):=zh (by
    have:=aj.out.set_ 1 (.slice A4 (j+1) c4)
    simpa using this)
   have ao:Hid ((w6.setCell ⟨S.heap.size,1,none⟩ (.slice A4 (j+1) c4)).ownsRow S.heap.size 85 2 (.slice A4 (j+1) c4) (j+1) (fJ ((H.take (j+1)).map kg))):=zh (by
    rw[aR.out]
    exact gz x.out (fun b hb=>vN _ _ _ _ (fun e=>by
     have e:b=S.heap.size:=e;subst e
     exact absurd ((fO x.out hb).one ⟨_,_,aj.out⟩) jd)))
   have am:=zh (G.out.setCell (p:=⟨S.heap.size,1,none⟩) (zG _) (.slice A4 (j+1) c4));clear n d a8 f0 f1;go_wp2_with fail;go_roundw
   case rel=>exact⟨_,j+1,jo,jo,ju,bt,ao,am⟩
   simp[intOf];omega
  have HJ:Hid ((H.take j).map kg=(H.take 5).map kg):=zh (by
   rcases(by omega:j=5∨H.length≤j)with h|h
   ·rw[h]
   rw[zR h,zR jo])
  obtain⟨P,O,rfl,_,aD,aG,_⟩:=Ev.fP hF.out
  have bF:Hid (EvS wr (Go.Proofs.YtmomjpolkkbhnaaGreat.Ev.Fd wr W.heap.size) (D,(H.take 5).map kg) [.int .i64 D,.slice P j O]):=zh ⟨P,j,O,rfl,by
   rw[←HJ.out]
   exact(ReadsS.of_own hF.out).mono (fun b hb=>⟨by have:=hb.1;omega,fO hF.out hb.2.2⟩),by rw[←HJ.out,List.length_map,zK];omega,jo,aD,aG⟩
  have M:=hO.out.below l.out;obtain⟨ay,g1,g2,g3⟩:=M.ex;have G2:=zh (g2.alloc (.cells #[.int .i64 D,.slice P j O] 46));have kA:∀(b:Nat),b<wr.heap.size→(wr.alloc (.cells #[.int .i64 D,.slice P j O] 46)).heap[b]?=wr.heap[b]?:=fun b hb=>((zy wr.heap.size wr).alloc (zG _) (.cells #[.int .i64 D,.slice P j O] 46)).block b hb
  have a6:Hid (∀v' w5,w5.ownsRow W.heap.size 46 2 v' (L.length+1) (ay.flatten ++ [.int .i64 D,.slice P j O])→(wr.alloc (.cells #[.int .i64 D,.slice P j O] 46)).grownBy w5 u.ownBlock→EOwn w5 W.heap.size v' ((r.evs.take (k+1)).map iR)):=zh (fun v' w5 p1 p2=>by
   rw[aP.out]
   exact EOwn.put g1 (g2.alloc _) (fun i a b=>(g3 i a b).same (fun b hS=>⟨⟨hS.1,hS.2.same (kA b hS.2.lt)⟩,kA b hS.2.lt⟩)) p1 p2 (bF.out.same (fun b hS=>⟨⟨hS.1,hS.2.same (kA b hS.2.lt)⟩,kA b hS.2.lt⟩)))
  have R:=zh ((hB.out.trans (l.out.mono bw)).alloc (by have:=l.out.size;omega) (.cells #[.int .i64 D,.slice P j O] 46));have c0:=hE.out.cell 0;have c1:=hE.out.cell 1;simp only[zA,zB,zC]at c0 c1;have bS:ay.flatten.length=L.length*2:=G2.out.1;clear M g1 g2 g3 kA hE hF l aD aG aP;generalize ay.flatten=zs at *;by_cases aM:j<fn
  ·have a1:(j:Int)<(fn:Int):=jo;have a2:¬(j:Int)<5:=jo;clear aM ag
   go_wp2_with (first
    | (at_builtin;refine wpList_append_own_at _ rfl _ _ 35 rfl W.heap.size 46 j0 _ 2 32 underlying35 aW a5 aO aJ rfl jd _ L.length zs rfl G2.out ⟨wr.heap.size,0,none⟩ 1 1 [.int .i64 D,.slice P j O] rfl rfl (vH (cs:=#[.int .i64 D,.slice P j O]) (t:=46) (fr:=(0,0)) (vK wr _)) jt ?k1 ?k2 ?k3 ?_)
    | fail)
   case k1=>unfold maxLen;omega
   case k2=>omega
   try(case k3=>have:=R.out.size;first|omega|(rw[vM]at *;omega))
   intro v4 w6 n d _ _;have x:=zh (a6.out v4 w6 n d);have G:=zh (R.out.grown d R.out.size (fun j hj=>(G2.out.lt j hj).1));clear n d c0 c1 y1 y2;go_wp2_with fail;go_roundw
   case rel=>exact⟨_,k+1,rfl,jo,jo,ju,x,G⟩
   simp[intOf];omega
  have a1:¬(j:Int)<(fn:Int):=jo;clear aM ag
  go_wp2_with (first
   | (at_builtin;refine wpList_append_own_at _ rfl _ _ 35 rfl W.heap.size 46 j0 _ 2 32 underlying35 aW a5 aO aJ rfl jd _ L.length zs rfl G2.out ⟨wr.heap.size,0,none⟩ 1 1 [.int .i64 D,.slice P j O] rfl rfl (vH (cs:=#[.int .i64 D,.slice P j O]) (t:=46) (fr:=(0,0)) (vK wr _)) jt ?k1 ?k2 ?k3 ?_)
   | fail)
  case k1=>unfold maxLen;omega
  case k2=>omega
  try(case k3=>have:=R.out.size;first|omega|(rw[vM]at *;omega))
  intro v4 w6 n d _ _;have x:=zh (a6.out v4 w6 n d);have G:=zh (R.out.grown d R.out.size (fun j hj=>(G2.out.lt j hj).1));clear n d c0 c1 y1 y2;go_wp2_with fail;go_roundw
  case rel=>exact⟨_,k+1,rfl,jo,jo,ju,x,G⟩
  simp[intOf];omega
 have bk:Hid ((r.evs.take k).map iR=(r.evs.take 10).map iR):=zh (by
  rcases(by omega:k=10∨r.evs.length≤k)with h|h
  ·rw[h]
  rw[zR h,zR jo])
 have M:=hO.out;rw[bk.out]at M;obtain⟨g,m,rfl,_⟩:=M.at_ (by rw[List.length_map,zK];omega) au.out.1;have T:=zh M;have y:=HQ.out.below hB.out HQ.out.lt;have ba:=HR.out.below hB.out HR.out.lt;have bH:=y.frozen 1
 have I:Hid (Blk (wr.setCell ⟨w.heap.size,1,none⟩ (.slice g ((r.evs.take 10).map iR).length m)) w.heap.size 37 (rqC { r with evs:=(r.evs.take 10).map iR } { z with E:=g,en:=((r.evs.take 10).map iR).length,ec:=m })):=zh (by
  have:=y.set_ 1 (.slice g ((r.evs.take 10).map iR).length m)
  simpa[rqC]using this)
 have aq:w.heap.size+1≠w.heap.size:=jo;have al:=zh (ba.far (p:=⟨w.heap.size,1,none⟩) aq (.slice g ((r.evs.take 10).map iR).length m))
 have ax:Hid (EOwn (wr.setCell ⟨w.heap.size,1,none⟩ (.slice g ((r.evs.take 10).map iR).length m)) W.heap.size (.slice g ((r.evs.take 10).map iR).length m) ((r.evs.take 10).map iR)):=zh (T.out.kp (fun b hb=>vN _ _ _ _ (fun e=>by
  have e:b=w.heap.size:=e;subst e;rcases hb with hb|hb
  ·exact absurd (hb.one ⟨_,_,y⟩) jd
  exact absurd (hb.one ⟨_,_,y⟩) jd)))
 have aw:=zh ((HB.out.trans (hB.out.mono HB.out.size)).setCell (p:=⟨w.heap.size,1,none⟩) (zG _) (.slice g ((r.evs.take 10).map iR).length m));clear hO M hB y ba T;generalize ad:(r.evs.take 10).map iR=c at *;by_cases aT:k<z.en
 case' pos=>
  have a1:(k:Int)<(z.en:Int):=jo;have a2:¬(k:Int)<10:=jo;clear aT J
 case' neg=>
  have a1:¬(k:Int)<(z.en:Int):=jo;clear aT J
 all_goals
  go_upto_region 15 with(fail);generalize wr.setCell ⟨w.heap.size,1,none⟩ (.slice g c.length m)=w3 at *;clear bH;have p4:=I.out.cell 4;have bG:=I.out.frozen 4;simp only[rqC,zA,zB,zC]at p4
  have aL:Hid (Blk (w3.setCell ⟨w.heap.size,4,none⟩ (.string (r.q.extract 0 1100))) w.heap.size 37 (rqC { r with evs:=c,q:=r.q.extract 0 1100 } { z with E:=g,en:=c.length,ec:=m })):=zh (by
   have:=I.out.set_ 4 (.string (r.q.extract 0 1100))
   simpa[rqC]using this)
  have aZ:=zh (al.out.far (p:=⟨w.heap.size,4,none⟩) aq (.string (r.q.extract 0 1100)))
  have aH:Hid (EOwn (w3.setCell ⟨w.heap.size,4,none⟩ (.string (r.q.extract 0 1100))) W.heap.size (.slice g c.length m) c):=zh (ax.out.kp (fun b hb=>vN _ _ _ _ (fun e=>by
   have e:b=w.heap.size:=e;subst e;rcases hb with hb|hb
   ·exact absurd (hb.one ⟨_,_,I.out⟩) jd
   exact absurd (hb.one ⟨_,_,I.out⟩) jd)))
  have a7:=zh (aw.out.setCell (p:=⟨w.heap.size,4,none⟩) (zG _) (.string (r.q.extract 0 1100)))
  go_upto_if 73 with(fail);go_cut []from 70 to 77 (fun A=>∃q2:ByteArray,Hid (Du r.q=q2)∧Hid (Blk A w.heap.size 37 (rqC { r with evs:=c,q:=q2 } { z with E:=g,en:=c.length,ec:=m }))∧Hid (Blk A (w.heap.size+1) 37 (rqC ⟨0,[],false,0,⟨#[]⟩,0,0,0,0,0,[]⟩ ⟨none,0,0,none,0,0⟩))∧Hid (EOwn A W.heap.size (.slice g c.length m) c)∧Hid (zWW w A))
  case first=>
   by_cases ht:1100<r.q.size
   ·have Y:(1100:Int)<(r.q.size:Int):=jo;go_wp2_with fail;go_meet;exact⟨_,zh (zI ht),aL,aZ,aH,a7⟩
   have Y:¬(1100:Int)<(r.q.size:Int):=jo;go_wp2_with fail;go_meet;exact⟨_,zh (zH ht),I,al,ax,aw⟩
  case rest=>
  obtain⟨q2,bj,N,ar,ap,an⟩:=hcut;clear aL aZ aH a7 I al ax aw p4 bG;obtain⟨w4,rfl⟩:∃w4:World,w4=wc:=⟨_,rfl⟩;have bc:=N.out.cell 10;have aC:=N.out.frozen 10;simp only[rqC,zA,zB,zC]at bc;have bI:=af.out.2.1
  have aQ:Hid (Blk (w4.setCell ⟨w.heap.size,10,none⟩ (.slice z.C 1200 z.cc)) w.heap.size 37 (rqC { r with evs:=c,q:=q2 } ⟨g,c.length,m,z.C,1200,z.cc⟩)):=zh (by
   have:=N.out.set_ 10 (.slice z.C 1200 z.cc)
   simpa[rqC]using this)
  have aI:=zh (ar.out.far (p:=⟨w.heap.size,10,none⟩) aq (.slice z.C 1200 z.cc))
  have x:Hid (EOwn (w4.setCell ⟨w.heap.size,10,none⟩ (.slice z.C 1200 z.cc)) W.heap.size (.slice g c.length m) c):=zh (ap.out.kp (fun b hb=>vN _ _ _ _ (fun e=>by
   have e:b=w.heap.size:=e;subst e;rcases hb with hb|hb
   ·exact absurd (hb.one ⟨_,_,N.out⟩) jd
   exact absurd (hb.one ⟨_,_,N.out⟩) jd)))
  have G:=zh (an.out.setCell (p:=⟨w.heap.size,10,none⟩) (zG _) (.slice z.C 1200 z.cc))
  go_upto_if 81 with(fail);go_cut []from 78 to 85 (fun A=>∃U:Nat,Hid (min 1200 z.cn=U)∧Hid (Blk A w.heap.size 37 (rqC { r with evs:=c,q:=q2 } ⟨g,c.length,m,z.C,U,z.cc⟩))∧Hid (Blk A (w.heap.size+1) 37 (rqC ⟨0,[],false,0,⟨#[]⟩,0,0,0,0,0,[]⟩ ⟨none,0,0,none,0,0⟩))∧Hid (EOwn A W.heap.size (.slice g c.length m) c)∧Hid (zWW w A))
  case first=>
   by_cases ht:1200<z.cn
   ·have Y:(1200:Int)<(z.cn:Int):=jo;have bW:(1200:Int)≤(z.cc:Int):=jo;go_wp2_with fail;go_meet;exact⟨_,zh jo,aQ,aI,x,G⟩
   have Y:¬(1200:Int)<(z.cn:Int):=jo;go_wp2_with fail;go_meet;exact⟨z.cn,zh jo,N,ar,ap,an⟩
  case rest=>
  obtain⟨U,aa,f,ac,ao,am⟩:=hcut;clear aQ aI x G N ar ap an bc aC bI;have m0:=f.out.cell 0;have m1:=f.out.cell 1;have m2:=f.out.cell 2;have m3:=f.out.cell 3;have m4:=f.out.cell 4;have m5:=f.out.cell 5;have m6:=f.out.cell 6;have m7:=f.out.cell 7;have m8:=f.out.cell 8;have m9:=f.out.cell 9;have bi:=f.out.cell 10;simp only[rqC,zA,zB,zC]at m0 m1 m2 m3 m4 m5 m6 m7 m8 m9 bi;have bo:=zh (zz _ (w.heap.size+1) _ (rqC { r with evs:=c,q:=q2 } ⟨g,c.length,m,z.C,U,z.cc⟩) _ _ ac.out);go_wp2_with (refine zx (o:=⟨none,.store 37 _ _,_,_,_,_⟩) rfl 37 _ _ rfl (w.heap.size+1) (rqC { r with evs:=c,q:=q2 } ⟨g,c.length,m,z.C,U,z.cc⟩) rfl rfl 37 (rqC ⟨0,[],false,0,⟨#[]⟩,0,0,0,0,0,[]⟩ ⟨none,0,0,none,0,0⟩) ac.out jk rfl (by simp[rqC,Value.oneCell']) ?_);refine zw (fA rfl rfl (zv _ (w.heap.size+1) 37 37 _ (0,0) _ bo.out underlying37 rfl jk)) rfl ?_;have aA:=vI am.out (zZ w.heap.size) (rqC { r with evs:=c,q:=q2 } ⟨g,c.length,m,z.C,U,z.cc⟩)
  have aS:=ao.out.kp (w':=wc.setRow (w.heap.size+1) (rqC { r with evs:=c,q:=q2 } ⟨g,c.length,m,z.C,U,z.cc⟩)) (fun b hb=>vL _ _ b _ (fun e=>by
   subst e;rcases hb with hb|hb
   ·exact absurd (hb.one ⟨_,_,ac.out⟩) jd
   exact absurd (hb.one ⟨_,_,ac.out⟩) jd))
  have ah:lg r={ r with evs:=c,q:=q2,cur:=r.cur.take 1200 }:=by unfold lg;rw[ad,bj.out]
  refine⟨⟨g,c.length,m,z.C,U,z.cc⟩,by rw[ah],?_,aA,by rw[ah];exact aS.s (zY (Nat.le_add_right _ 2) bd),fun A B h=>by rw[ah];exact Lh h (by have:=aa.out;omega)⟩;rw[ah];obtain⟨A6,c6,e6,bC⟩:=aS.at_ (by rw[←ad,List.length_map,zK];omega) (by rw[←ad];rw[ad];exact au.out.1);injection e6 with e7 _ e8;subst e7 e8;refine⟨bC,⟨?_,fun hn=>?_⟩,⟨by have:=af.out.1;have:=aa.out;show U≤_;omega,by have:=af.out.2.1;have:=aa.out;show U≤z.cc;omega,af.out.2.2⟩,au.out.2,ae.out.nw,ae.out.wd⟩
  ·have h1:=aF.out.1;rw[ij]at h1;show (bv (r.cur.take 1200)).length=U*1;rw[ij,zK];have:=aa.out;omega
  have bY:0<U:=hn;obtain⟨bb,oo,e9,J,bB⟩:=aF.out.2 (by have:=aa.out;omega);refine⟨bb,oo,e9,zT J aA.size,fun j u hj=>(aA.cell (p:=⟨bb,oo+j,none⟩) J).trans (bB j u ?_)⟩;have Z:(bv (r.cur.take 1200))[j]?=some u:=hj;unfold bv at Z ⊢;rw[List.map_take,List.getElem?_take]at Z
  split at Z
  ·exact Z
  cases Z
end Md

namespace Md
open Go.RowKit Ut Tk Qy Qp Ev Cu
open Hi (Bk bkC ofF OwnB)
structure Ans where
 E:Int
 seq:Int
 fl:Int
 docs:List Dc
 bk:List Bk
 cur:List UInt8
 ev:Int
 nx:Int
 nw:Int
 ak:Int
abbrev an0(e s f:Int):Ans:=⟨e,s,f,[],[],[],0,0,0,0⟩
def AnsAt(w:World)(cs:Array Value)(a:Ans):Prop:=∃A n c B k d C l e,cs=rsC a.E a.seq a.fl (.slice A n c) (.slice B k d) (.slice C l e) a.ev a.nx a.nw a.ak∧DocsAt w w.heap.size A n a.docs∧n≤1048576 ∧
 Reads w w.heap.size 2 B k (bkC a.bk)∧a.bk.length=k∧k≤1048576∧Reads w w.heap.size 1 C l (bv a.cur)∧a.cur.length=l∧l≤1048576
theorem iL(w:World)(e s f v n u k:Int):AnsAt w (rsC e s f nil nil nil v n u k) ⟨e,s,f,[],[],[],v,n,u,k⟩:=
 ⟨none,0,0,none,0,0,none,0,0,rfl,DocsAt.nil,jd,Reads.none_,rfl,jd,Reads.none_,rfl,jd⟩
theorem AnsAt.below{w w':World}{cs:Array Value}{a:Ans}(h:AnsAt w cs a)(hb:zWW w w'):AnsAt w' cs a:=by
 obtain⟨A,n,c,B,k,d,C,l,e,j,i,b,f,q,o,g,p⟩:=h;exact⟨A,n,c,B,k,d,C,l,e,j,i.grow hb,b,(f.below hb).more hb.size,q,o,(g.below hb).more hb.size,p⟩
theorem Ae{w:World}{B k n j:Nat}{A:Option Addr}{xs:List Value}(h:Reads w B k A n xs)(hj:j≤n):Reads w B k A j (xs.take (j*k)):=by
 have f:=h.1;refine⟨by rw[zK,f];exact Nat.min_eq_left (Nat.mul_le_mul_right k hj),fun g=>?_⟩;obtain⟨b,o,e,d,c⟩:=h.2 jo;refine⟨b,o,e,d,fun i u a=>c i u ?_⟩;rw[List.getElem?_take]at a
 split at a
 ·exact a
 cases a
theorem oU{k:Nat}:∀ {vss:List (List Value)} (_:∀v∈vss,v.length=k) (j:Nat),(vss.take j).flatten=vss.flatten.take (j*k)
 | [],_,j=>by simp
 | v::vss,h,0=>by simp
 | v::vss,h,j+1=>by
  have a:=h v jz;rw[zX,List.flatten_cons,oU (fun x b=>h x (by simp[b])) j,List.flatten_cons,show (j+1)*k=k+j*k by rw[Nat.add_mul,Nat.one_mul,Nat.add_comm],List.take_append,a];rw[zR (by omega:v.length≤k+j*k),Nat.add_sub_cancel_left]
theorem J0{w:World}{B n j:Nat}{A:Option Addr}{ds:List Dc}(h:DocsAt w B A n ds)(hj:j≤n):DocsAt w B A j (ds.take j):=by
 obtain⟨c,o,f,d⟩:=h.ex;have g:=h.ln
 have e:∀v∈c,v.length=3:=fun v l=>by
  obtain⟨i,k,rfl⟩:=zu.1 l;exact(d i jo k).len
 refine⟨jw,c.take j,jw,by rw[oU e];exact Ae f hj,fun i a b=>?_⟩;rw[List.getElem_take,List.getElem_take];exact d i (by rw[zK]at a;omega) (by rw[zK]at b;omega)
theorem CW{w:World}{base:Nat}{A:Option Addr}{n c:Nat}{ds:List Dc}(h:DOwn w base (.slice A n c) ds)(hn:ds.length=n):DocsAt w w.heap.size A n ds:=by
 obtain⟨d,l,j,f⟩:=h.ex;obtain⟨t,u,e,g,_⟩:=Ev.fP j;injection e with e1 e2 e3;subst e1 e3;subst e2
 exact⟨rfl,d,l,g,fun i a b=>by
  obtain⟨F,s,p,e,o,k⟩:=(f i a b).ex
  exact⟨F,s,p,e,o.reads (fun b q=>q.2.lt),k⟩⟩
def SeA(m:M)(r:Rq)(a:Ans):Prop:=∃E o,PrsR r.q.data.toList E o∧((E≠0∧a=an0 E 0 0)∨(E=0∧iO r.lim=false∧a=an0 1 0 0) ∨
 (∃q D,E=0∧o=some q∧iO r.lim=true∧ByT (upL m (inB r.frm r.til q)) D∧a={ an0 0 0 0 with docs:=D.take (min D.length r.lim.toNat) }))
def HgA(m:M)(r:Rq)(a:Ans):Prop:=∃E o,PrsR r.q.data.toList E o∧((E≠0∧a=an0 E 0 0)∨(E=0∧r.width<1∧a=an0 1 0 0) ∨
 (∃q D,E=0∧o=some q∧1≤r.width∧ByT (upL m (inB r.frm r.til q)) D∧((m.c.buckets<((ofF r.width (D.map (·.at_))).length:Nat)∧a=an0 241 0 0) ∨
  (((ofF r.width (D.map (·.at_))).length:Nat)≤m.c.buckets∧a={ an0 0 0 0 with bk:=ofF r.width (D.map (·.at_)) }))))
def OpA(r:Rq)(a:Ans):Prop:=∃E o,PrsR r.q.data.toList E o∧((E≠0∧a=an0 E 0 0)∨(E=0∧fE r.after r.q≠0∧a=an0 (fE r.after r.q) 0 0)∨(E=0∧fE r.after r.q=0∧a={ an0 0 0 0 with cur:=gJ r.after r.q }))
def TlA(m:M)(r:Rq)(a:Ans):Prop:=∃x q E,DecR r.cur x q E∧((E≠0∧a=an0 E 0 0)∨(E=0∧iO r.lim=false∧a=an0 1 0 0) ∨
 (∃qq p,E=0∧iO r.lim=true∧PrsR q.data.toList 0 (some qq)∧p=gV x m.acked r.lim (upL m (fun d=>fC d.fs qq))∧((fE p.2 q≠0∧a=an0 (fE p.2 q) 0 0)∨(fE p.2 q=0∧a={ an0 0 0 0 with docs:=p.1,cur:=gJ p.2 q }))))
def ko(m:M)(r:Rq):Ans:=
 if r.evs.length=0 then an0 1 0 0 else if m.c.batch<(r.evs.length:Nat)then an0 3 0 0 else if gQ ((m.ds.length:Nat)+1) r.evs≠0 then an0 (gQ ((m.ds.length:Nat)+1) r.evs) 0 0 else an0 0 ((m.ds.length:Nat)+1) 0
def oN(m:M):Ans:=if m.now=-9223372036854775808 then an0 271 0 0 else an0 0 0 (lK m)
def sK(m:M):Ans:=⟨0,0,m.floor,[],[],[],(upL m (fun _=>true)).length,(m.ds.length:Nat)+1,m.now,m.acked⟩
def AnsR(m:M)(r:Rq)(a:Ans):Prop:=
 (r.op=1∧a=ko m r)∨(r.op=2∧a=an0 0 0 0)∨(r.op=3∧a=an0 (mE m r.now) 0 0)∨((r.op=4∨r.op=5)∧a=an0 0 0 0)∨(r.op=6∧a=oN m)∨(r.op=7∧SeA m r a)∨(r.op=8∧HgA m r a)∨(r.op=9∧OpA r a)∨(r.op=10∧TlA m r a)∨(r.op=11∧a=sK m) ∨
 (¬(1≤r.op∧r.op≤11)∧a=an0 272 0 0)
def gD(m:M)(r:Rq):M:=if r.op=1 then(ing m r).1 else if r.op=2 then { m with acked:=(m.ds.length:Nat) }else if r.op=3 then nP m r.now else if r.op=6 then nS m else m
theorem ND{x y:Dc}(h1:ltD x y)(h2:ltD y x):x=y:=by
 unfold ltD at *;omega
theorem ByT.det{L D D':List Dc}(h:ByT L D)(h':ByT L D'):D=D':=
 (h.perm.trans h'.perm.symm).eq_of_pairwise (le:=ltD) (fun _ _ _ _=>ND) h.up h'.up
theorem SeA.det{m:M}{r:Rq}{a a':Ans}(h:SeA m r a)(h':SeA m r a'):a=a':=by
 obtain⟨E,o,l,h⟩:=h;obtain⟨t,s,i,h'⟩:=h';obtain⟨rfl,rfl⟩:=l.det i;rcases h with⟨c,e⟩|⟨c,e,f⟩|⟨q,D,c,e,f,k,j⟩<;>rcases h' with⟨d,b⟩|⟨d,b,g⟩|⟨u,v,d,b,g,p,n⟩
 ·rw[e,b]
 ·exact absurd d c
 ·exact absurd d c
 ·exact absurd c d
 ·rw[f,g]
 ·rw[e]at g;cases g
 ·exact absurd c d
 ·rw[b]at f;cases f
 rw[e]at b
 cases b;rw[k.det p]at j;rw[j,n]
theorem HgA.det{m:M}{r:Rq}{a a':Ans}(h:HgA m r a)(h':HgA m r a'):a=a':=by
 obtain⟨E,o,s,h⟩:=h;obtain⟨v,u,i,h'⟩:=h';obtain⟨rfl,rfl⟩:=s.det i;rcases h with⟨b,e⟩|⟨b,e,l⟩|⟨q,D,b,e,l,p,f⟩<;>rcases h' with⟨c,d⟩|⟨c,d,n⟩|⟨x,y,c,d,n,t,k⟩
 ·rw[e,d]
 ·exact absurd c b
 ·exact absurd c b
 ·exact absurd b c
 ·rw[l,n]
 ·omega
 ·exact absurd b c
 ·omega
 rw[e]at d
 cases d;rw[p.det t]at f;rcases f with⟨f,j⟩|⟨f,j⟩<;>rcases k with⟨k,g⟩|⟨k,g⟩
 ·rw[j,g]
 ·omega
 ·omega
 rw[j,g]
theorem OpA.det{r:Rq}{a a':Ans}(h:OpA r a)(h':OpA r a'):a=a':=by
 obtain⟨E,o,j,h⟩:=h;obtain⟨l,k,f,h'⟩:=h';obtain⟨rfl,rfl⟩:=j.det f;rcases h with⟨d,b⟩|⟨d,b,g⟩|⟨d,b,g⟩<;>rcases h' with⟨e,c⟩|⟨e,c,i⟩|⟨e,c,i⟩<;>first|exact b.trans c.symm|exact g.trans i.symm|exact absurd e d|exact absurd d e|exact absurd c b|exact absurd b c
theorem TlA.det{m:M}{r:Rq}{a a':Ans}(h:TlA m r a)(h':TlA m r a'):a=a':=by
 obtain⟨x,q,E,s,h⟩:=h;obtain⟨D,C,A,o,h'⟩:=h';obtain⟨rfl,rfl,rfl⟩:=s.det o;rcases h with⟨d,g⟩|⟨d,g,j⟩|⟨B,p,d,g,j,t,f⟩<;>rcases h' with⟨c,b⟩|⟨c,b,l⟩|⟨v,y,c,b,l,u,i⟩
 ·rw[g,b]
 ·exact absurd c d
 ·exact absurd c d
 ·exact absurd d c
 ·rw[j,l]
 ·rw[g]at b;cases b
 ·exact absurd d c
 ·rw[g]at b;cases b
 obtain⟨_,e⟩:=j.det l
 cases e;subst t u;rcases f with⟨f,n⟩|⟨f,n⟩<;>rcases i with⟨i,k⟩|⟨i,k⟩
 ·rw[n,k]
 ·exact absurd i f
 ·exact absurd f i
 rw[n,k]
theorem AnsR.det{m:M}{r:Rq}{a a':Ans}(h:AnsR m r a)(h':AnsR m r a'):a=a':=by
 rcases h with⟨e,h⟩|⟨e,h⟩|⟨e,h⟩|⟨e,h⟩|⟨e,h⟩|⟨e,h⟩|⟨e,h⟩|⟨e,h⟩|⟨e,h⟩|⟨e,h⟩|⟨e,h⟩ <;>
 rcases h' with⟨g,h'⟩|⟨g,h'⟩|⟨g,h'⟩|⟨g,h'⟩|⟨g,h'⟩|⟨g,h'⟩|⟨g,h'⟩|⟨g,h'⟩|⟨g,h'⟩|⟨g,h'⟩|⟨g,h'⟩ <;>
 first|(exfalso;omega)|exact h.trans h'.symm|exact h.det h'
theorem rM(m:M)(p:Dc→Bool):(upL m p).length≤m.ds.length:=List.length_filter_le ..
theorem wF(a k l:Int)(ds:List Dc):(gV a k l ds).1.length≤ds.length:=by
 unfold gV iY sel
 split
 ·exact zS _
 show (List.take _ _).length≤_;rw[zK];have:=List.length_filter_le (fun d:Dc=>decide (a<d.seq)&&decide (d.seq≤k)) ds;omega
theorem og(a:Int)(q:ByteArray):(gJ a q).length≤2000:=by
 by_cases h:IsC a q
 ·have e:gJ a q=Cu.enc a.toNat q.data.toList:=by unfold gJ;rw[zI h]
  rw[e,Cu.nI,fB];have:=h.short;omega
 unfold gJ;rw[zH h];exact zS _
section
variable {w':World} {m m':M} {r:Rq} {base:Nat} {cs:Array Value}
theorem SeR.ans(h:SeR base w' m r cs)(hk:m.ds.length≤1048576):∃a,SeA m r a∧AnsAt w' cs a:=by
 obtain⟨E,o,e,⟨b,rfl⟩|⟨b,d,rfl⟩|⟨q,D,A,c,b,d,g,f,j,rfl⟩⟩:=h
 ·exact⟨_,⟨E,o,e,.inl ⟨b,rfl⟩⟩,iL ..⟩
 ·exact⟨_,⟨E,o,e,.inr (.inl ⟨b,d,rfl⟩)⟩,iL ..⟩
 have k:=f.perm.length_eq;have l:=rM m (inB r.frm r.til q);have i:=J0 (CW j rfl) (Nat.min_le_left D.length r.lim.toNat);exact⟨{ an0 0 0 0 with docs:=D.take (min D.length r.lim.toNat) },⟨E,o,e,.inr (.inr ⟨q,D,b,d,g,f,rfl⟩)⟩,A,_,c,none,0,0,none,0,0,rfl,i,jo,Reads.none_,rfl,jd,Reads.none_,rfl,jd⟩
theorem HgR.ans(h:HgR w' m r base cs)(hk:m.ds.length≤1048576)(hb:m.c.buckets≤10000):∃a,HgA m r a∧AnsAt w' cs a:=by
 obtain⟨E,o,e,⟨b,rfl⟩|⟨b,d,rfl⟩|⟨q,D,b,d,g,i,⟨f,rfl⟩|⟨f,v,k,rfl⟩⟩⟩:=h
 ·exact⟨_,⟨E,o,e,.inl ⟨b,rfl⟩⟩,iL ..⟩
 ·exact⟨_,⟨E,o,e,.inr (.inl ⟨b,d,rfl⟩)⟩,iL ..⟩
 ·exact⟨_,⟨E,o,e,.inr (.inr ⟨q,D,b,d,g,i,.inl ⟨f,rfl⟩⟩)⟩,iL ..⟩
 obtain⟨A,c,rfl,j,_⟩:=Ev.fP k;exact⟨{ an0 0 0 0 with bk:=ofF r.width (D.map (·.at_)) },⟨E,o,e,.inr (.inr ⟨q,D,b,d,g,i,.inr ⟨f,rfl⟩⟩)⟩,none,0,0,A,_,c,none,0,0,rfl,DocsAt.nil,jd,j,rfl,jo,Reads.none_,rfl,jd⟩
theorem OpR.ans(h:OpR base w' r cs):∃a,OpA r a∧AnsAt w' cs a:=by
 obtain⟨E,o,e,⟨b,rfl⟩|⟨b,d,rfl⟩|⟨v,b,d,f,rfl⟩⟩:=h
 ·exact⟨_,⟨E,o,e,.inl ⟨b,rfl⟩⟩,iL ..⟩
 ·exact⟨_,⟨E,o,e,.inr (.inl ⟨b,d,rfl⟩)⟩,iL ..⟩
 obtain⟨A,c,rfl,g,_⟩:=Ev.fP f;have:=og r.after r.q;exact⟨{ an0 0 0 0 with cur:=gJ r.after r.q },⟨E,o,e,.inr (.inr ⟨b,d,rfl⟩)⟩,none,0,0,none,0,0,A,_,c,rfl,DocsAt.nil,jd,Reads.none_,rfl,jd,g,rfl,jo⟩
theorem TlR.ans(h:TlR w' m r base cs)(hk:m.ds.length≤1048576):∃a,TlA m r a∧AnsAt w' cs a:=by
 obtain⟨x,q,E,e,⟨b,rfl⟩|⟨b,d,rfl⟩|⟨j,p,b,d,i,f,⟨g,rfl⟩|⟨g,A,c,v,o,n,rfl⟩⟩⟩:=h
 ·exact⟨_,⟨x,q,E,e,.inl ⟨b,rfl⟩⟩,iL ..⟩
 ·exact⟨_,⟨x,q,E,e,.inr (.inl ⟨b,d,rfl⟩)⟩,iL ..⟩
 ·exact⟨_,⟨x,q,E,e,.inr (.inr ⟨j,p,b,d,i,f,.inl ⟨g,rfl⟩⟩)⟩,iL ..⟩
 obtain⟨k,t,rfl,l,_⟩:=Ev.fP n;have s:=M7 o;have:=og p.2 q;have u:p.1.length≤m.ds.length:=by rw[f];exact zY (wF ..) (rM ..)
 exact⟨{ an0 0 0 0 with docs:=p.1,cur:=gJ p.2 q },⟨x,q,E,e,.inr (.inr ⟨j,p,b,d,i,f,.inr ⟨g,rfl⟩⟩)⟩,A,_,c,none,0,0,k,_,t,rfl,s,jo,Reads.none_,rfl,jd,l,rfl,jo⟩
theorem Ll(m:M)(r:Rq)(w:World):AnsAt w (ing m r).2 (ko m r):=by
 unfold ing ko
 split
 ·exact iL ..
 split
 ·exact iL ..
 split
 ·exact iL ..
 exact iL ..
theorem Lm(m:M)(w:World):AnsAt w (kz m) (oN m):=by
 unfold kz oN
 split
 ·exact iL ..
 exact iL ..
theorem DoR.ans(h:DoR base w' m r m' cs)(hk:m.ds.length≤1048576)(ho:Ok m):m'=gD m r∧∃a,AnsR m r a∧AnsAt w' cs a:=by
 have f:=ho.c.2.2.2.2.2.2.2;unfold gD;rcases h with⟨e,rfl,rfl⟩|⟨e,rfl,rfl⟩|⟨e,rfl,rfl⟩|⟨e,rfl,rfl⟩|⟨e,rfl,rfl⟩|⟨e,rfl,h⟩|⟨e,rfl,h⟩|⟨e,rfl,h⟩|⟨e,rfl,h⟩|⟨e,rfl,rfl⟩|⟨e,rfl,rfl⟩
 ·exact⟨by rw[zI e],_,.inl ⟨e,rfl⟩,Ll m r w'⟩
 ·exact⟨by rw[zH jo,zI e],_,.inr (.inl ⟨e,rfl⟩),iL ..⟩
 ·exact⟨by rw[zH jo,zH jo,zI e],_,.inr (.inr (.inl ⟨e,rfl⟩)),iL ..⟩
 ·exact⟨by rw[zH jo,zH jo,zH jo,zH jo],_,.inr (.inr (.inr (.inl ⟨e,rfl⟩))),iL ..⟩
 ·exact⟨by rw[zH jo,zH jo,zH jo,zI e],_,.inr (.inr (.inr (.inr (.inl ⟨e,rfl⟩)))),Lm m w'⟩
 ·obtain⟨a,b,d⟩:=h.ans hk;exact⟨by rw[zH jo,zH jo,zH jo,zH jo],a,.inr (.inr (.inr (.inr (.inr (.inl ⟨e,b⟩))))),d⟩
 ·obtain⟨a,b,d⟩:=h.ans hk f;exact⟨by rw[zH jo,zH jo,zH jo,zH jo],a,.inr (.inr (.inr (.inr (.inr (.inr (.inl ⟨e,b⟩)))))),d⟩
 ·obtain⟨a,b,d⟩:=h.ans;exact⟨by rw[zH jo,zH jo,zH jo,zH jo],a,.inr (.inr (.inr (.inr (.inr (.inr (.inr (.inl ⟨e,b⟩))))))),d⟩
 ·obtain⟨a,b,d⟩:=h.ans hk;exact⟨by rw[zH jo,zH jo,zH jo,zH jo],a,.inr (.inr (.inr (.inr (.inr (.inr (.inr (.inr (.inl ⟨e,b⟩)))))))),d⟩
 ·exact⟨by rw[zH jo,zH jo,zH jo,zH jo],_,.inr (.inr (.inr (.inr (.inr (.inr (.inr (.inr (.inr (.inl ⟨e,rfl⟩))))))))),iL ..⟩
 exact⟨by rw[zH jo,zH jo,zH jo,zH jo],_,.inr (.inr (.inr (.inr (.inr (.inr (.inr (.inr (.inr (.inr ⟨e,rfl⟩))))))))),iL ..⟩
end
structure Rz where
 A:Option Addr
 n:Nat
 c:Nat
 EA:Option Addr
 en:Nat
 ec:Nat
abbrev rmC(m:M)(z:Rz):Array Value:=#[.int .i64 m.c.size,.int .i64 m.c.age,.int .i64 m.c.retain,.int .i64 m.c.batch,.int .i64 m.c.buckets,.bool m.c.bt,.bool m.c.bb,.slice z.A z.n z.c,.int .i64 m.floor,.int .i64 m.now,.int .i64 m.acked,.slice z.EA z.en z.ec]
structure RAt (w:World) (S:Nat→Prop) (K:Nat) (m:M) (z:Rz):Prop where
 ds:DocsS w S S z.A z.n m.ds
 cap:z.n≤z.c
 nl:z.A=none→z.c=0
 en:∃es:List Int,ReadsS w S 1 z.EA z.en (es.map (Value.int .i64))
 ek:z.en≤K∧z.en≤z.ec∧(z.EA=none→z.ec=0)
 ok:Ok m
 few:m.ds.length≤K
 lt:∀b,S b→b<w.heap.size
section
variable {w w':World} {S S':Nat→Prop} {K K':Nat} {m:M} {z:Rz}
theorem RAt.same(h:RAt w S K m z)(hS:∀b,S b→S' b∧w'.heap[b]?=w.heap[b]?)(hl:∀b,S' b→b<w'.heap.size):RAt w' S' K m z:=by
 obtain⟨c,a⟩:=h.en;exact⟨h.ds.same hS hS,h.cap,h.nl,⟨c,a.same hS⟩,h.ek,h.ok,h.few,hl⟩
theorem RAt.below(h:RAt w S K m z)(hb:zWW w w'):RAt w' S K m z:=h.same (fun b a=>⟨a,hb.block b (h.lt b a)⟩) (fun b a=>zT (h.lt b a) hb.size)
theorem RAt.mono(h:RAt w S K m z)(hS:∀b,S b→S' b)(hl:∀b,S' b→b<w.heap.size):RAt w S' K m z:=h.same (fun b a=>⟨hS b a,rfl⟩) hl
theorem RAt.more(h:RAt w S K m z)(hK:K≤K'):RAt w S K' m z:=⟨h.ds,h.cap,h.nl,h.en,⟨zY h.ek.1 hK,h.ek.2⟩,h.ok,zY h.few hK,h.lt⟩
theorem RAt.set{m':M}(h:RAt w S K m z)(hd:m'.ds=m.ds)(ok:Ok m'):RAt w S K m' z:=⟨by rw[hd];exact h.ds,h.cap,h.nl,h.en,h.ek,ok,by rw[hd];exact h.few,h.lt⟩
theorem RAt.docs(h:RAt w S K m z):DocsAt w w.heap.size z.A z.n m.ds:=by
 obtain⟨c,j,f,d⟩:=h.ds.ex
 exact⟨h.ds.ln,c,j,f.reads h.lt,fun i a b=>by
  obtain⟨F,o,l,e,k,g⟩:=(d i a b).ex
  exact⟨F,o,l,e,k.reads h.lt,g⟩⟩
end
def up(S:Nat→Prop)(n:Nat)(w':World):Nat→Prop:=fun b=>S b∨(n≤b∧b<w'.heap.size)
theorem Ns{S:Nat→Prop}{n:Nat}{w w':World}(h:∀b,S b→b<w.heap.size)(hs:w.heap.size≤w'.heap.size):∀b,up S n w' b→b<w'.heap.size:=fun b a=>a.elim (fun a=>zT (h b a) hs) (·.2)
theorem RAt.up{w w':World}{S:Nat→Prop}{K:Nat}{m:M}{z:Rz}(h:RAt w S K m z)(hb:zWW w w'):RAt w' (up S w.heap.size w') K m z:=(h.below hb).mono (fun b a=>.inl a) (Ns h.lt hb.size)
end Md

namespace Md
open Go.RowKit Qy Ev Cu
theorem NE{x y z:Dc}(h1:ltD x y)(h2:ltD y z):ltD x z:=by
 unfold ltD at *;omega
theorem NF{x y:Dc}(h:¬ltD x y)(hs:x.seq≠y.seq):ltD y x:=by
 unfold ltD at *;omega
theorem Ls{L out:List Dc}{d:Dc}{k:Nat}(h:ByT L out)(hk:k≤out.length)(hlt:∀x∈out.drop k,ltD d x)(hge:∀x,out[k-1]?=some x→0<k→¬ltD d x)(hs:∀x∈L,x.seq<d.seq):ByT (L ++ [d]) (out.take k ++ [d]++out.drop k):=by
 have n:∀x∈out,x.seq<d.seq:=fun x g=>hs x (h.perm.mem_iff.1 g)
 have c:=h.up;have f:=List.take_append_drop k out;rw[←f]at c;obtain⟨u1,u2,u3⟩:=List.pairwise_append.1 c
 have e:∀x∈out.take k,ltD x d:=fun x g=>by
  by_cases q:k=0
  ·subst q;simp at g
  have hlt:k-1<out.length:=jo;have l:=NF (hge _ (zU hlt) jo) (by have:=n _ (za hlt);omega);obtain⟨i,o,rfl⟩:=zu.1 g;rw[zK]at o;rw[List.getElem_take];by_cases p:i=k-1
  ·subst p;exact l
  exact NE (List.pairwise_iff_getElem.1 h.up i (k-1) jo hlt jo) l
 refine⟨?_,?_⟩
 ·have m:(out.take k ++ [d]++out.drop k).Perm (out.take k++out.drop k ++ [d]):=by
   rw[List.append_assoc,List.append_assoc];exact(List.perm_append_comm (l₁:=[d])).append_left _
  rw[f]at m;exact m.trans (h.perm.append_right _)
 rw[List.append_assoc,List.pairwise_append];refine⟨u1,List.pairwise_cons.2 ⟨hlt,u2⟩,fun a j b hb=>?_⟩;rcases List.mem_cons.1 hb with rfl|hb
 ·exact e a j
 exact u3 a j b hb
theorem Lt:ByT [] []:=⟨.refl _,.nil⟩
def lh(m:M)(p:Dc→Bool)(a k:Int):List Dc:=m.ds.filter (fun d=>decide (m.floor≤d.at_)&&(decide (a<d.seq)&&(decide (d.seq≤k)&&p d)))
theorem Lu(m:M)(p:Dc→Bool)(a k:Int):sel a k (lh m p a k)=sel a k (upL m p):=by
 unfold sel lh upL;rw[List.filter_filter,List.filter_filter];refine List.filter_congr (fun d _=>?_)
 cases decide (a<d.seq)<;>cases decide (d.seq≤k)<;>cases decide (m.floor≤d.at_)<;>cases p d<;>rfl
theorem Lv(m:M)(p:Dc→Bool)(a k l:Int):gV a k l (lh m p a k)=gV a k l (upL m p):=by
 unfold gV iY;rw[Lu]
theorem Lx(m:M)(p:Dc→Bool)(a k:Int):(lh m p a k).length≤m.ds.length:=List.length_filter_le ..
end Md

namespace Md
open Go.RowKit Ut Tk Qy Qp Ev Cu
section
variable {P:Program} {o:Oper} {a:Act} {w:World} {R:Value→World→Prop}
theorem BW{w w':World}(h:w.grownBy w' none):zWW w w':=⟨h.os,h.tape,h.output,h.size,fun k b=>h.block k b (fun e=>nomatch e)⟩
theorem J1(w:World)(b o:Nat):w.setCells b o []=w:=by simp[World.setCells]
theorem xL(s x:Operand)(t:TypeId)(ho:o.op=.call { callee:=.builtin .append,args:=#[s,x],argTypes:=#[t,t] })
  (base:Nat) (e:TypeId) (i:TypeInfo) (z:Value) (size bytes:Nat) (ht:P.underlying t=some (.slice e)) (hi:P.info? e=some i) (hz:i.zero=some z)
  (hsize:i.size=size) (hby:i.bytes=bytes) (hzs:z.cells.size=size) (hsz:0<size)
  (g:Nat) (hs:a.eval s=.slice (some ⟨g,0,none⟩) 0 0) (hown:w.ownsRow base e size (.slice (some ⟨g,0,none⟩) 0 0) 0 [])
  {Bd:Nat} (A:Option Addr) (m c:Nat) (news:List Value) (hx:a.eval x=.slice A m c) (hR:Reads w Bd size A m news) (hnil:A=none→c=0) (h1:∀u∈news,u.oneCell'=true)
  (h63:m≤maxLen) (hbytes:m*bytes≤140737488355328) (hbase:base≤w.heap.size)
  (h:∀v' w',w'.ownsRow base e size v' m news→zWW w w'→R v' w'):gT P (fun w1 w2=>zWW w1 w2) w R ((execOp a.eval o).run P w):=by
 have f:m=0→news=[]:=fun p=>List.eq_nil_of_length_eq_zero (by have:=hR.1;rw[p]at this;omega)
 cases A with
 | none=>
  have y:m=0:=by
   rcases Nat.eq_zero_or_pos m with h|h
   ·exact h
   obtain⟨b,o,e,_⟩:=hR.2 h
   cases e
  subst y;obtain rfl:=hnil rfl;obtain rfl:=f rfl;have d:=run_append_owned_none (P:=P) (w:=w) base t o.type e i size ht hi _ 0 [] hown;unfold execOp;simp only[ho,resolve,invoke,builtin,Sem.run_bind,Sem.run_pure,Result.andThen_ok,List.map_toArray,List.map_cons,List.map_nil,hs,hx,d];exact⟨zy _ _,h _ w hown (zy _ _)⟩
 | some ad=>
  have k:∀j u,news[j]?=some u→w.cell? (ad.add j)=some u:=fun j u l=>by
   have hp:0<m:=by
    have:=(List.getElem?_eq_some_iff.1 l).1;have:=hR.1;rcases Nat.eq_zero_or_pos m with h|h
    ·subst h;omega
    exact h
   obtain⟨b,B,q,_,k⟩:=hR.2 hp;injection q with q;subst q;rw[Addr.add_lit];exact k j u l
  rcases Nat.eq_zero_or_pos m with p|hp
  ·subst p;obtain rfl:=f rfl;subst hsize;have d:=run_append_room_cells (P:=P) w t o.type e i ht hi g 0 0 0 ad 0 c [] jz k h1 (zG 0) (fun j n=>absurd n jz) (fun j n=>absurd n jz);rw[J1]at d;unfold execOp;simp only[ho,resolve,invoke,builtin,Sem.run_bind,Sem.run_pure,Result.andThen_ok,List.map_toArray,List.map_cons,List.map_nil,hs,hx,d];exact⟨zy _ _,h _ w hown (zy _ _)⟩
  obtain⟨v',w',d,v,r⟩:=run_append_arg_grows (P:=P) w t o.type e i z size bytes ht hi hz hsize hby hzs hsz ⟨g,0,none⟩ 0 0 [] jz (fun j u l=>by simp at l) ad m c news hR.1 k jo (by rw[zi];exact h63) (by rw[zi];exact hbytes);unfold execOp;simp only[ho,resolve,invoke,builtin,Sem.run_bind,Sem.run_pure,Result.andThen_ok,List.map_toArray,List.map_cons,List.map_nil,hs,hx,d];exact⟨BW r,h v' w' (lH (by simpa using v) hbase) (BW r)⟩
end
theorem D6{P:Program}{ops:Array Oper}{rest:List Oper}{o:Oper}{a:Act}{w:World}{Q:Exit→Act→World→Prop}(hg:o.guard=none)
  (s x:Operand) (t:TypeId) (ho:o.op=.call { callee:=.builtin .append,args:=#[s,x],argTypes:=#[t,t] })
  (base:Nat) (e:TypeId) (i:TypeInfo) (z:Value) (size bytes:Nat) (ht:P.underlying t=some (.slice e)) (hi:P.info? e=some i) (hz:i.zero=some z)
  (hsize:i.size=size) (hby:i.bytes=bytes) (hzs:z.cells.size=size) (hsz:0<size)
  (v:Value) (n:Nat) (xs:List Value) (hs:a.eval s=v) (hown:w.ownsRow base e size v n xs)
  {Bd:Nat} (A:Option Addr) (m c:Nat) (news:List Value) (hx:a.eval x=.slice A m c) (hR:Reads w Bd size A m news) (hnil:A=none→c=0) (h1:∀u∈news,u.oneCell'=true)
  (h63:n+m≤maxLen) (hbytes:(n+m)*bytes≤140737488355328) (hbase:base≤w.heap.size)
  (h:∀v' w',w'.ownsRow base e size v' (n+m) (xs++news)→w.grownBy w' v.ownBlock→wpList P ops Q rest (a.put o.dst v') w'):wpList P ops Q (o::rest) a w:=by
 refine wpList_plain hg fun K d=>?_
 cases A with
 | none=>
  have r:m=0:=by
   rcases Nat.eq_zero_or_pos m with h|h
   ·exact h
   obtain⟨b,o,e,_⟩:=hR.2 h
   cases e
  subst r;obtain rfl:=hnil rfl;obtain rfl:news=[]:=List.eq_nil_of_length_eq_zero (by have:=hR.1;omega);have g:=run_append_owned_none (P:=P) (w:=w) base t o.type e i size ht hi v n xs hown;unfold Oper.wp;simp[execOp,ho,resolve,invoke,builtin,hs,hx,g,Result.andThen];exact d _ _ (h v w (by simpa using hown) (World.grownBy.refl w _))
 | some ad=>
  obtain⟨v',w',g,p,l,_,_⟩:=run_append_own_at (P:=P) w base t o.type e i z size bytes ht hi hz hsize hby hzs hsz v n xs hown ad m c news hR.1 (fun j u k=>by
   have q:0<m:=by
    have:=(List.getElem?_eq_some_iff.1 k).1;have:=hR.1;rcases Nat.eq_zero_or_pos m with h|h
    ·subst h;omega
    exact h
   obtain⟨b,B,f,_,y⟩:=hR.2 q;injection f with f;subst f;rw[Addr.add_lit]
   exact y j u k) h1 h63 hbytes hbase
  unfold Oper.wp;simp[execOp,ho,resolve,invoke,builtin,hs,hx,g,Result.andThen];exact d _ _ (h v' w' p l)
theorem NG{w:World}{B k n c p:Nat}{A:Option Addr}{xs:List Value}(h:Reads w B k A n xs)(hp:p≤n)(hc:n≤c):Reads w B k (if c=p then A else A.map (·.add (p*k))) (n-p) (xs.drop (p*k)):=by
 have g:=h.1;refine⟨by rw[zP,g,Nat.sub_mul],fun i=>?_⟩;rw[zH jo];obtain⟨b,o,rfl,f,d⟩:=h.2 jo;refine⟨b,o+p*k,?_,f,fun j u e=>?_⟩
 ·show some ((⟨b,o,none⟩:Addr).add (p*k))=_;rw[Addr.add_lit]
 rw[List.getElem?_drop]at e;have:=d _ _ e
 rwa[←Nat.add_assoc]at this
theorem IK{k:Nat}{vss:List (List Value)}(h:∀v∈vss,v.length=k)(j:Nat):(vss.drop j).flatten=vss.flatten.drop (j*k):=by
 have d:=oU h j;have p:(vss.take j).flatten++(vss.drop j).flatten=vss.flatten:=by rw[←List.flatten_append,List.take_append_drop]
 by_cases n:j≤vss.length
 ·have m:∀(l:List (List Value)),(∀v∈l,v.length=k)→l.flatten.length=l.length*k:=by
   intro l
   induction l with
   | nil=>intro _;simp
   | cons v l ih=>
    intro b;rw[List.flatten_cons,zJ,ih (fun x f=>b x (by simp[f])),b v jz,zV,Nat.add_mul,Nat.one_mul,Nat.add_comm]
  have c:=m (vss.take j) (fun v b=>h v (List.mem_of_mem_take b));rw[zK,Nat.min_eq_left n]at c;rw[←p,←c,List.drop_left]
 have e:vss.drop j=[]:=List.drop_eq_nil_of_le jo;rw[e,List.flatten_nil];have q:vss.take j=vss:=zR jo;rw[q]at d;have g:=zK (i:=j*k) (l:=vss.flatten);rw[←d]at g;exact(List.drop_eq_nil_of_le jo).symm
end Md

namespace Md
open Go.RowKit Ut Tk Qy Qp Ev Cu
theorem lW(e:Int)(w:World):Calls prog 48 #[.int .i64 e] w fun r w'=>r=.returned (bad e)∧zWW w w':=by
 have a:zWW w (w.alloc (.cells (rsC e 0 0 nil nil nil 0 0 0 0) 42)):=zRR _;have H:=zh (And.intro (Blk.new w 42 (rsC e 0 0 nil nil nil 0 0 0 0)) a);clear a;go_enter func48,ntmps48;go_wp2_with fail;refine zw (fA rfl rfl (zv _ w.heap.size 42 42 (rsC e 0 0 nil nil nil 0 0 0 0) (0,0) _ H.out.1 underlying42 rfl jk)) rfl ⟨rfl,H.out.2⟩
theorem yj(n:Int)(w:World):Calls prog 84 #[.int .i64 n] w fun r w'=>r=.returned (.bool (iO n))∧w=w':=by
 have e:iO n=(decide (1≤n)&&decide (n≤10000)):=rfl;rw[e];clear e;by_cases a:1≤n
 ·by_cases b:n≤10000
  ·rw[zO a,zO b];go_enter func84,ntmps84;go_wp2;go_ret;exact⟨rfl,rfl⟩
  rw[zO a,zN b];go_enter func84,ntmps84;go_wp2;go_ret;exact⟨rfl,rfl⟩
 rw[zN a];go_enter func84,ntmps84;go_wp2;go_ret;exact⟨rfl,rfl⟩
theorem MB(c:Cf)(w:World):Calls prog 45 #[c.v] w fun e w'=>e=.returned (.bool (decide (okC c)))∧zWW w w':=by
 have a:=zh (Blk.new w 25 #[.int .i64 c.size,.int .i64 c.age,.int .i64 c.retain,.int .i64 c.batch,.int .i64 c.buckets,.bool c.bt,.bool c.bb]);have g:=zh ((zy w.heap.size w).alloc (zG _) (.cells #[.int .i64 c.size,.int .i64 c.age,.int .i64 c.retain,.int .i64 c.batch,.int .i64 c.buckets,.bool c.bt,.bool c.bb] 25));show Calls prog 45 #[.agg #[.int .i64 c.size,.int .i64 c.age,.int .i64 c.retain,.int .i64 c.batch,.int .i64 c.buckets,.bool c.bt,.bool c.bb]] w _
 have j:∀b:Bool,(b=true↔okC c)→b=decide (okC c):=fun b h=>by
  by_cases d:okC c
  ·rw[zO d,h.2 d]
  rw[zN d];exact Bool.eq_false_iff.2 (fun e=>d (h.1 e))
 go_enter func45,ntmps45
 go_upto_region 1 with(fail);generalize w.alloc (.cells #[.int .i64 c.size,.int .i64 c.age,.int .i64 c.retain,.int .i64 c.batch,.int .i64 c.buckets,.bool c.bt,.bool c.bb] 25)=r at *;have k:=a.out.cell 0;have f:=a.out.cell 1;have l:=a.out.cell 2;have i:=a.out.cell 3;have m:=a.out.cell 4;simp only[zA,zB,zC]at k f l i m;obtain⟨s,p,t,o,u,q,n⟩:=c;simp only at *;go_wp2;all_goals go_ret
 all_goals(refine⟨?_,g.out⟩;refine congrArg (fun b:Bool=>Ending.returned (.bool b)) (j _ ?_);unfold okC;simp only[Bool.false_eq_true,false_iff,true_iff,zg];try omega)
abbrev zmC:Array Value:=#[.int .i64 0,.int .i64 0,.int .i64 0,.int .i64 0,.int .i64 0,.bool false,.bool false,nil,.int .i64 0,.int .i64 0,.int .i64 0,nil]
theorem Fz(c:Cf)(w:World):Calls prog 46 #[c.v] w fun e w'=>e=.returned (.agg (rmC (⟨c,[],-9223372036854775808,-9223372036854775808,0⟩:M) (⟨none,0,0,none,0,0⟩:Rz)))∧zWW w w':=by
 have d:=(Blk.new w 25 #[.int .i64 c.size,.int .i64 c.age,.int .i64 c.retain,.int .i64 c.batch,.int .i64 c.buckets,.bool c.bt,.bool c.bb]).alloc (.cells (rmC (⟨c,[],-9223372036854775808,-9223372036854775808,0⟩:M) (⟨none,0,0,none,0,0⟩:Rz)) 29);have a:=Blk.new (w.alloc (.cells #[.int .i64 c.size,.int .i64 c.age,.int .i64 c.retain,.int .i64 c.batch,.int .i64 c.buckets,.bool c.bt,.bool c.bb] 25)) 29 (rmC (⟨c,[],-9223372036854775808,-9223372036854775808,0⟩:M) (⟨none,0,0,none,0,0⟩:Rz));have b:(w.alloc (.cells #[.int .i64 c.size,.int .i64 c.age,.int .i64 c.retain,.int .i64 c.batch,.int .i64 c.buckets,.bool c.bt,.bool c.bb] 25)).heap.size=w.heap.size+1:=jz;rw[b]at a;have h:=zh (Blk.new w 25 #[.int .i64 c.size,.int .i64 c.age,.int .i64 c.retain,.int .i64 c.batch,.int .i64 c.buckets,.bool c.bt,.bool c.bb]);have g:=zh a;have f:=zh (((zy w.heap.size w).alloc (zG _) (.cells #[.int .i64 c.size,.int .i64 c.age,.int .i64 c.retain,.int .i64 c.batch,.int .i64 c.buckets,.bool c.bt,.bool c.bb] 25)).alloc jz (.cells (rmC (⟨c,[],-9223372036854775808,-9223372036854775808,0⟩:M) (⟨none,0,0,none,0,0⟩:Rz)) 29));show Calls prog 46 #[.agg #[.int .i64 c.size,.int .i64 c.age,.int .i64 c.retain,.int .i64 c.batch,.int .i64 c.buckets,.bool c.bt,.bool c.bb]] w _;clear d a b;go_enter func46,ntmps46;go_wp2_with fail;refine zw (fA rfl rfl (zv _ (w.heap.size+1) 29 29 _ (0,0) _ g.out underlying29 rfl jk)) rfl ⟨rfl,f.out⟩
end Md

namespace Md
open Go.RowKit Ut Tk Qy Ev Qp
def Dj(w:World)(ds:List Dc)(e:Ending)(w':World):Prop:=∃v,e=.returned v∧DOwn w' w.heap.size v ds∧zWW w w'
theorem Ai{w:World}{n0 X K:Nat}{v:Value}{m:M}(h:At w n0 X K v m)(hK:K≤60000) :
  Calls prog 22 #[.pointer (some ⟨X,0,none⟩)] w (Dj w m.ds):=by
 obtain⟨i0,ae,af,ah,ac⟩:=info_parts Ev.lU;have c1:=zh (qz h.blk);obtain⟨A8,c8,rfl,an,ap,S⟩:=h.docs;have k7:=h.blk.cell 7;simp only[mdC,zA,zB,zC]at k7
 have HG:Hid (∀A,zWW w A→∀i (Y:i<m.ds.length),∃g o r y,A8=some ⟨g,o,none⟩∧g<A.heap.size∧A.cell? ⟨g,o+i*3,none⟩=some (.int .i64 m.ds[i].seq)∧A.cell? ⟨g,o+i*3+1,none⟩=some (.int .i64 m.ds[i].at_)∧A.cell? ⟨g,o+i*3+2,none⟩=some (.slice r m.ds[i].fs.length y) ∧
   Reads A A.heap.size 2 r m.ds[i].fs.length (fJ m.ds[i].fs)∧(r=none→y=0)):=zh (fun A x i Y=>by
  obtain⟨g,o,r,y,e,O,q0,q1,q2,P⟩:=S i Y
  exact⟨g,o,r,y,e,zT O x.size,(x.cell O).trans q0,(x.cell O).trans q1,(x.cell O).trans q2,(P.rd.below x).more x.size,P.nl⟩)
 have ak:m.ds.length≤65536:=zY h.few jo;have OK:=zh (wM h.ok);obtain⟨mc,c,mf,mn,ma⟩:=m;simp only at *;clear h S;go_enter func22,ntmps22;go_wp2_with fail;refine c1.out.mono ?_;rintro e w' ⟨rfl,rfl⟩;go_wp2_with fail;go_loopw [3,13] (fun v i wr=>∃k:Nat,k≤c.length∧i=.int .i64 (k:Nat)∧Hid (DOwn wr w.heap.size v (c.take k))∧Hid (zWW w wr)) (fun _ i _=>c.length-(intOf i).toNat)
 case atStart=>exact⟨0,zS _,rfl,zh (DOwn.start _ _),zh (zy _ _)⟩
 obtain⟨k,hk,rfl,hO,V⟩:=hrel;by_cases E:k<c.length
 ·have am:(k:Int)<(c.length:Int):=jo;have aq:(0:Int)≤(k:Int):=jo;obtain⟨g,go,r,y,rfl,O,q0,q1,q2,P,T⟩:=HG.out wr V.out k E;have R:c.take (k+1)=c.take k ++ [c[k]]:=zL E;have C:(c.take k).length=k:=jw;have ab:=OK.out _ (za E);have al:=(mQ ab).1;have ag:=zh R;have L:=zh C;clear R C;generalize c[k]=d at *;have s:zWW wr (wr.alloc (.cells #[.int .i64 d.seq,.int .i64 d.at_,.slice r d.fs.length y] 48)):=zRR _;have u:=Blk.new wr 48 #[.int .i64 d.seq,.int .i64 d.at_,.slice r d.fs.length y];have b0:=u.cell 0;have b1:=u.cell 1;have b2:=u.cell 2;simp only[zA,zB,zC]at b0 b1 b2;have C2:=zh (yQ d r d.fs.length y _ ((P.below s).more s.size) rfl jo T);have G:=zh s;have hw:=V.out.size;clear P T u s;go_wp2_with fail;refine C2.out.mono ?_;rintro e N ⟨p,q,rfl,B,z,l,ai⟩;have D:zWW wr N:=G.out.trans (ai.mono G.out.size);have n:zWW wr (N.alloc (.cells #[.int .i64 d.seq,.int .i64 d.at_,.slice p d.fs.length q] 48)):=D.alloc D.size _;have J:=hO.out.below n;obtain⟨W,g1,Z,g3⟩:=J.ex;have a:=l.alloc (.cells #[.int .i64 d.seq,.int .i64 d.at_,.slice p d.fs.length q] 48)
  have U:DcS (N.alloc (.cells #[.int .i64 d.seq,.int .i64 d.at_,.slice p d.fs.length q] 48)) (Go.Proofs.YtmomjpolkkbhnaaGreat.Ev.Fd _ w.heap.size) d [.int .i64 d.seq,.int .i64 d.at_,.slice p d.fs.length q]:=
   ⟨p,_,q,rfl,(ReadsS.of_own a).mono (fun b x=>⟨by have:=x.1;have:=G.out.size;omega,fO a x.2.2⟩),rfl,jo,B,z⟩
  have Put:Hid (∀I H,H.ownsRow w.heap.size 48 3 I (k+1) (W.flatten ++ [.int .i64 d.seq,.int .i64 d.at_,.slice p d.fs.length q])→_→DOwn H w.heap.size I (c.take (k+1))):=zh (fun I H p1 p2=>by
   rw[ag.out]
   exact DOwn.put ⟨W,g1,Z,g3,rfl⟩ (by rw[L.out];exact p1) p2 U)
  rw[L.out]at Z;have G2:=zh Z;have ao:=n.size;have ad:=zh n;clear a n J g1 Z g3 U l B z D q0 q1 q2 b0 b1 b2;go_wp2_with (at_builtin;refine vJ _ rfl _ _ 26 rfl w.heap.size 48 i0 _ 3 40 underlying26 ae af ah ac rfl jd _ _ _ rfl G2.out ⟨N.heap.size,0,none⟩ 1 1 [.int .i64 d.seq,.int .i64 d.at_,.slice p d.fs.length q] rfl rfl ?d1 ?d2 ?d3 ?d4 ?d5 ?_)
  case d1=>exact vH (cs:=#[.int .i64 d.seq,.int .i64 d.at_,.slice p d.fs.length q]) (t:=48) (fr:=(0,0)) (vK N (.cells #[.int .i64 d.seq,.int .i64 d.at_,.slice p d.fs.length q] 48))
  case d2=>simp[Value.oneCell']
  case d3=>unfold maxLen;omega
  case d4=>omega
  case d5=>first|omega|(simp;omega)
  intro I H f F _;have aa:=zh (Put.out I H f F);have aj:Hid (zWW w H):=zh ((V.out.trans (ad.out.mono V.out.size)).grown F jo (fun j hj=>(G2.out.lt j hj).1));clear f F;go_wp2;go_roundw
  case rel=>exact⟨k+1,jo,ju,aa,aj⟩
  simp[intOf];omega
 obtain rfl:k=c.length:=jo;rw[List.take_length]at hO;go_wp2;go_ret;exact⟨_,rfl,hO.out,V.out⟩
end Md
end Go.Proofs.YtmomjpolkkbhnaaGreat
