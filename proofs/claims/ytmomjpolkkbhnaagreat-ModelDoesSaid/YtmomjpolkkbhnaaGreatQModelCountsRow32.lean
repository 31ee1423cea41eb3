/- The model: ingest (printed by gen_mdm.py). -/
import Derived.Test.YtmomjpolkkbhnaaGreatQModelCountsRow29
set_option linter.unusedSimpArgs false
set_option linter.unusedVariables false
set_option maxRecDepth 20000
set_option maxHeartbeats 100000000
open Go.Proofs.Tryz
namespace Go.Proofs.YtmomjpolkkbhnaaGreat
namespace Md
open Go.RowKit Ut Tk Qy Qp Ev Ph
def ing(m:M)(r:Rq):M × Array Value:=
 if r.evs.length=0 then(m,rsC 1 0 0 nil nil nil 0 0 0 0)else if m.c.batch<(r.evs.length:Nat)then(m,rsC 3 0 0 nil nil nil 0 0 0 0)else if bI ((m.ds.length:Nat)+1) r.evs≠0 then(m,rsC (bI ((m.ds.length:Nat)+1) r.evs) 0 0 nil nil nil 0 0 0 0)else
  ({ m with ds:=m.ds++Ev.mkD ((m.ds.length:Nat)+1) r.evs,acked:=if r.dur then((m.ds.length+r.evs.length:Nat):Int)else m.acked },rsC 0 ((m.ds.length:Nat)+1) 0 nil nil nil 0 0 0 0)
theorem Ik{w w5:World}{base b2:Nat}{v v':Value}{ds D:List Dc}{vss vs2:List (List Value)}(g1:vss.length=ds.length)(g2:w.ownsRow base 48 3 v ds.length vss.flatten)(g3:∀i (h:i<ds.length) (h':i<vss.length),DcS w (Go.Proofs.YtmomjpolkkbhnaaGreat.Ev.Fd w base) ds[i] vss[i])
  (e1:vs2.length=D.length) (e3:∀i (h:i<D.length) (h':i<vs2.length),DcS w (Go.Proofs.YtmomjpolkkbhnaaGreat.Ev.Fd w b2) D[i] vs2[i]) (hb:base≤b2)
  (hp:w5.ownsRow base 48 3 v' (ds.length+D.length) (vss.flatten++vs2.flatten)) (hg:w.grownBy w5 v.ownBlock):DOwn w5 base v' (ds++D):=by
 have keep:∀(B:Nat),base≤B→∀b,Go.Proofs.YtmomjpolkkbhnaaGreat.Ev.Fd w B b→Go.Proofs.YtmomjpolkkbhnaaGreat.Ev.Fd w5 base b∧w5.heap[b]?=w.heap[b]?:=fun B hB b hS=>by
  have e:w5.heap[b]?=w.heap[b]?:=hg.block b hS.2.lt (fun e=>absurd ((aY g2 e.symm).one hS.2) jd);exact⟨⟨zY hB hS.1,hS.2.same e⟩,e⟩
 refine⟨vss++vs2,by simp[g1,e1],by rw[List.flatten_append,zJ];exact hp,fun i a b=>?_⟩;by_cases hi:i<ds.length
 ·rw[zi hi,zi jo];exact(g3 i hi jo).same (keep base (zG _))
 rw[zl jo,zl jo];have hl:i-ds.length<D.length:=by simp at a;omega
 have:=(e3 (i-ds.length) hl jo).same (keep b2 hb)
 simpa[g1]using this
theorem p7{w:World}{S:Nat→Prop}{D:List Dc}{vs2:List (List Value)}(e1:vs2.length=D.length)(e3:∀i (h:i<D.length) (h':i<vs2.length),DcS w S D[i] vs2[i]):∀u∈vs2.flatten,u.oneCell'=true:=fun u hu=>by
 obtain⟨l,hl,hul⟩:=List.mem_flatten.1 hu;obtain⟨i,hi,rfl⟩:=zp.1 hl;obtain⟨F,fn,fc,e,_⟩:=(e3 i jo hi).ex;rw[e]at hul;simp only[List.mem_cons,List.mem_nil_iff,or_false]at hul;rcases hul with rfl|rfl|rfl<;>rfl
def OwnN(w:World)(v v':Value):Prop:=v'.ownBlock=v.ownBlock∨∀b,v'.ownBlock=some b→w.heap.size≤b
theorem OwnN.of{w0 w:World}{v v':Value}(h:OwnN w v v')(hs:w0.heap.size≤w.heap.size):OwnN w0 v v':=h.elim .inl (fun h=>.inr (fun b hb=>zY hs (h b hb)))
section
variable {P:Program} {o:Oper} {a:Act} {w:World} {R:Value→World→Prop}
theorem kU(s x:Operand)(t:TypeId)(ho:o.op=.call { callee:=.builtin .append,args:=#[s,x],argTypes:=#[t,t] })
  (base:Nat) (e:TypeId) (i:TypeInfo) (z:Value) (size bytes:Nat) (ht:P.underlying t=some (.slice e)) (hi:P.info? e=some i) (hz:i.zero=some z)
  (hsize:i.size=size) (hby:i.bytes=bytes) (hzs:z.cells.size=size) (hsz:0<size)
  (v:Value) (n:Nat) (xs:List Value) (hs:a.eval s=v) (hown:w.ownsRow base e size v n xs)
  {Bd:Nat} (A:Option Addr) (m c:Nat) (news:List Value) (hx:a.eval x=.slice A m c) (hR:Reads w Bd size A m news) (hnil:A=none→c=0) (h1:∀u∈news,u.oneCell'=true)
  (h63:n+m≤maxLen) (hbytes:(n+m)*bytes≤140737488355328) (hbase:base≤w.heap.size)
  (h:∀v' w',w'.ownsRow base e size v' (n+m) (xs++news)→w.grownBy w' v.ownBlock→OwnN w v v'→R v' w'):bM P Tr w R ((execOp a.eval o).run P w):=by
 cases A with
 | none=>
  have hm:m=0:=by
   rcases Nat.eq_zero_or_pos m with h|h
   ·exact h
   obtain⟨b,o,e,_⟩:=hR.2 h
   cases e
  subst hm;obtain rfl:=hnil rfl;obtain rfl:news=[]:=List.eq_nil_of_length_eq_zero (by have:=hR.1;omega);have hr:=run_append_owned_none (P:=P) (w:=w) base t o.type e i size ht hi v n xs hown;unfold execOp;simp only[ho,resolve,invoke,builtin,Sem.run_bind,Sem.run_pure,Result.andThen_ok,List.map_toArray,List.map_cons,List.map_nil,hs,hx,hr];exact⟨trivial,h v w (by simpa using hown) (World.grownBy.refl w _) (.inl rfl)⟩
 | some ad=>
  obtain⟨v',w',hr,h2,h3,_,h5⟩:=run_append_own_at (P:=P) w base t o.type e i z size bytes ht hi hz hsize hby hzs hsz v n xs hown ad m c news hR.1 (fun j u hu=>by
   have hp:0<m:=by
    have:=(List.getElem?_eq_some_iff.1 hu).1;have:=hR.1;rcases Nat.eq_zero_or_pos m with h|h
    ·subst h;omega
    exact h
   obtain⟨b,o',e',_,hc⟩:=hR.2 hp;injection e' with e';subst e';rw[Addr.add_lit]
   exact hc j u hu) h1 h63 hbytes hbase
  unfold execOp;simp only[ho,resolve,invoke,builtin,Sem.run_bind,Sem.run_pure,Result.andThen_ok,List.map_toArray,List.map_cons,List.map_nil,hs,hx,hr];exact⟨trivial,h v' w' h2 h3 (h5.elim .inl (fun h5=>.inr (fun b hb=>by rw[h5]at hb;injection hb with hb;omega)))⟩
end
def yt(n0 X K:Nat)(v:Value)(m:M)(r:Rq)(w:World)(e:Ending)(w':World):Prop:=∃v',e=.returned (.agg (ing m r).2)∧At w' n0 X (K+64) v' (ing m r).1∧Chg (fun b=>b=X∨v.ownBlock=some b) w w'∧OwnN w v v'
theorem nH{m:M}(h:Ok m)(evs:List Evn)(hc:bI ((m.ds.length:Nat)+1) evs=0)(ht:∀e∈evs,I64 e.1)(ak:Int)(hak:0≤ak∧ak≤((m.ds.length+evs.length:Nat):Int)):Ok { m with ds:=m.ds++Ev.mkD ((m.ds.length:Nat)+1) evs,acked:=ak }:=by
 refine⟨h.c,h.ret,fun i hi=>?_,h.fl,h.nw,by simpa[kD]using hak⟩;by_cases hl:i<m.ds.length
 ·simp only[zi hl];exact h.doc i hl
 have hi2:i<m.ds.length+evs.length:=by simpa[kD]using hi
 have hj:i-m.ds.length<evs.length:=jo;simp only[zl (by omega:m.ds.length≤i),Ev.mkD,List.getElem_mapIdx];refine⟨(mR hc).2.2.1 _ (za hj),jo,ht _ (za hj)⟩
section
variable {w:World} {n0 X K:Nat} {v:Value} {m:M}
theorem CW(h:At w n0 X K v m)(hK:K≤60000)(r:Rq)(z:Rw)(hE:EvsAt w w.heap.size z.E z.en z.ec r.evs)(ht:∀e∈r.evs,I64 e.1)(hn0X:n0≤X) :
  Calls prog 28 #[.pointer (some ⟨X,0,none⟩),.agg (rqC r z)] w (yt n0 X K v m r w):=by
 obtain⟨i0,hi0,hz0,hz1,hz2⟩:=info_parts Ev.fR;obtain⟨A8,c8,hv,_,_,_⟩:=h.docs;subst hv;have hb:zWW w ((w.alloc (.cells (rqC r z) 37)).alloc (.cells rs0 42)):=(zRR _).alloc jz _;have hq:=(Blk.new w 37 (rqC r z)).alloc (.cells rs0 42);have hr:=Blk.new (w.alloc (.cells (rqC r z) 37)) 42 rs0;have z1:(w.alloc (.cells (rqC r z) 37)).heap.size=w.heap.size+1:=jz;rw[z1]at hr;have H1:=zh (h.below hb);have HQ:=zh hq;have HR:=zh hr;have HB:=zh hb;have hsw:w.heap.size+2≤(World.heap ((w.alloc (.cells (rqC r z) 37)).alloc (.cells rs0 42))).size:=jz;have hxl:=h.blk.lt;have HEV:Hid (∀wx,zWW w wx→EvsAt wx wx.heap.size z.E z.en z.ec r.evs):=zh (fun wx hb=>hE.grow hb);have hen:=hE.ln;have HEL:=zh hen;have hef:=hE.few;have hfew:=h.few;have hn0w:=h.n0;have HOK:=zh h.ok;have HT:=zh ht;have hbt:=h.ok.c;unfold okC at hbt;have hwr:IntKind.i64.wrap (((m.ds.length:Nat):Int)+1)=((m.ds.length:Nat):Int)+1:=by rw[IntKind.wrap_i64];omega
 clear h hb hq hr z1 hE ht;go_enter func28,ntmps28
 go_upto_region 1 with(fail);generalize ((w.alloc (.cells (rqC r z) 37)).alloc (.cells rs0 42))=w1 at *
 have Hc1:Hid (∀wx,zWW w1 wx→wx.cell? ⟨X,7,none⟩=some (.slice A8 m.ds.length c8)∧wx.cell? ⟨w.heap.size,1,none⟩=some (.slice z.E z.en z.ec)):=zh (fun wx hb=>by
  have r0:=(H1.out.below hb).blk.cell 7;have r1:=(HQ.out.below hb HQ.out.lt).cell 1;simp only[mdC,rqC,zA,zB,zC]at r0 r1
  exact⟨r0,r1⟩)
 refine dm 10 (aI [(9,⟨Nat,fun x=>.pointer (some ⟨x,0,none⟩),fun g wx=>Blk wx g 111 #[.int .i64 0,.slice none 0 0]∧w1.heap.size≤g⟩)]) (fun wx=>zWW w1 wx) (fun w1 w2=>zWW w1 w2) jk jk (aN (fun x wa wb hg h=>⟨h.1.below hg h.1.lt,h.2⟩) (aX)) ((zw _ _).drew) ?_;simp only[zX,List.take_zero,zm,List.drop_zero]
 iterate 9
  refine aH _ ?_ rfl jr jr (fun wx hC hD=>?_) ?_;rotate_left
  ·have hSw:=Hc1.out wx hC;go_simp;all_goals with_reducible rfl
  try simp only[Act.put,zD,zE,zF]
 refine ae 10 _ rfl jr jr (fun wx hC hD=>?_) (fun x=>?_)
 ·refine fQ (u:=?_) (w':=?_) ?_ ?_ ?_;rotate_left 2
  ·have hSw:=Hc1.out wx hC;go_simp;all_goals first|with_reducible rfl|(refine⟨?_,?_⟩<;>with_reducible rfl)
  ·exact(zRR _)
  exact⟨hC.alloc hC.size _,wx.heap.size,rfl,Blk.new _ _ _,hC.size⟩
 rename Nat=>x9
 try simp only[Act.put,zD,zE,zF]
 refine ah (fun w2 hC hF=>?_);have hbl:=(bf (hF 9) jd).1;have hgw:w1.heap.size≤x9:=(bf (hF 9) jd).2;have HB2:=zt HB hC;have H2:=zh (H1.out.below hC);have HR2:=zb HR hC;have HQ2:=zb HQ hC;clear hF hC Hc1 H1 HR HQ;have y0:=hbl.cell 0;have y1:=hbl.cell 1;have y0f:=hbl.frozen 0;have y1f:=hbl.frozen 1;simp only[zA,zB,zC]at y0 y1;obtain⟨sq,hsq⟩:∃sq,((m.ds.length:Nat):Int)+1=sq:=⟨_,rfl⟩;have HSQ:=zh hsq;have hx9:w.heap.size+1<x9:=jo;have hne1:w.heap.size+1≠x9:=jo;have hne0:w.heap.size≠x9:=jo;have hnX:X≠x9:=jo;have hgw':w.heap.size≤x9:=jo;rw[hsq]at hwr ⊢
 have HBT3:Hid (Blk ((w2.setCell ⟨x9,0,none⟩ (.int .i64 sq)).setCell ⟨x9,1,none⟩ (.slice z.E z.en z.ec)) x9 111 #[.int .i64 sq,.slice z.E z.en z.ec]):=zh (by
  have:=(hbl.set_ 0 (.int .i64 sq)).set_ 1 (.slice z.E z.en z.ec)
  simpa using this)
 have HR3:=zh ((HR2.out.far (p:=⟨x9,0,none⟩) hne1 (.int .i64 sq)).far (p:=⟨x9,1,none⟩) hne1 (.slice z.E z.en z.ec));have HQ3:=zh ((HQ2.out.far (p:=⟨x9,0,none⟩) hne0 (.int .i64 sq)).far (p:=⟨x9,1,none⟩) hne0 (.slice z.E z.en z.ec));have HB3:=zh ((HB2.out.setCell (p:=⟨x9,0,none⟩) hgw' (.int .i64 sq)).setCell (p:=⟨x9,1,none⟩) hgw' (.slice z.E z.en z.ec))
 have H3:Hid (At ((w2.setCell ⟨x9,0,none⟩ (.int .i64 sq)).setCell ⟨x9,1,none⟩ (.slice z.E z.en z.ec)) n0 X K (.slice A8 m.ds.length c8) m):=zh (H2.out.kp (by simp[World.setCell]) (fun b hb=>by
  have hne:b≠x9:=fun e=>by
   subst e;rcases hb with hb|hb|hb
   ·exact absurd (hb.one ⟨_,_,hbl⟩) jd
   ·exact absurd (hb.one ⟨_,_,hbl⟩) jd
   exact absurd (hb.one ⟨_,_,hbl⟩) jd
  exact(vL _ _ _ _ hne).trans (vL _ _ _ _ hne)))
 clear hsq H2 HR2 HQ2 HB2 hbl
 go_upto_region 2 with(fail);generalize (w2.setCell ⟨x9,0,none⟩ (.int .i64 sq)).setCell ⟨x9,1,none⟩ (.slice z.E z.en z.ec)=w3 at *;clear y0 y1 y0f y1f;have HIP:Hid (∀(e:Ending) (w':World),(∃v',e=.returned (.agg (ing m r).2)∧At w' n0 X (K+64) v' (ing m r).1∧Chg (fun b=>b=X∨(Value.slice A8 m.ds.length c8).ownBlock=some b) w w'∧OwnN w (.slice A8 m.ds.length c8) v')→yt n0 X K (.slice A8 m.ds.length c8) m r w e w'):=zh (fun e w' h=>h);have q1:=HQ3.out.cell 1;have k3:=H3.out.blk.cell 3;have z0:=HBT3.out.cell 0;have z1:=HBT3.out.cell 1;simp only[mdC,rqC,zA,zB,zC]at q1 k3 z0 z1;by_cases hn0:z.en=0
 ·have hnb:((z.en:Int)==0)=true:=by rw[beq_iff_eq];omega
  have hing:ing m r=(m,rsC 1 0 0 nil nil nil 0 0 0 0):=zI (by rw[HEL.out];exact hn0);rw[hing]at HIP;clear hn0 hing z0 z1;go_wp2_with fail;refine(dK 1 _).mono ?_;rintro e w9 ⟨rfl,hb9⟩;have HB9:=zt HB3 hb9;have HR9:=zb HR3 hb9;have hb9':=hb9;clear hb9;have HX9:=zh (zx _ (w.heap.size+1) _ (rsC 1 0 0 nil nil nil 0 0 0 0) _ _ HR9.out);go_wp2_with (refine zv (o:=⟨none,.store 42 _ _,_,_,_,_⟩) rfl 42 _ _ rfl (w.heap.size+1) (rsC 1 0 0 nil nil nil 0 0 0 0) rfl rfl 42 rs0 HR9.out jk rfl (by simp[rsC,Value.oneCell']) ?_);refine zu (aA rfl rfl (zr _ (w.heap.size+1) 42 42 _ (0,0) _ HX9.out underlying42 rfl jk)) rfl ?_;exact HIP.out _ _ ⟨_,rfl,(((H3.out.below hb9').row HR9.out _).more (Nat.le_add_right _ _)),bW (bh HB9.out) (zZ _) _,.inl rfl⟩
 have hnb:((z.en:Int)==0)=false:=by rw[zM];omega
 by_cases hbg:m.c.batch<(z.en:Int)
 ·have hing:ing m r=(m,rsC 3 0 0 nil nil nil 0 0 0 0):=by
   unfold ing;rw[zH (by rw[HEL.out];exact hn0),zI (by rw[HEL.out];exact hbg)]
  rw[hing]at HIP;clear hn0 hing z0 z1;go_wp2_with fail;refine(dK 3 _).mono ?_;rintro e w9 ⟨rfl,hb9⟩;have HB9:=zt HB3 hb9;have HR9:=zb HR3 hb9;have hb9':=hb9;clear hb9;have HX9:=zh (zx _ (w.heap.size+1) _ (rsC 3 0 0 nil nil nil 0 0 0 0) _ _ HR9.out);go_wp2_with (refine zv (o:=⟨none,.store 42 _ _,_,_,_,_⟩) rfl 42 _ _ rfl (w.heap.size+1) (rsC 3 0 0 nil nil nil 0 0 0 0) rfl rfl 42 rs0 HR9.out jk rfl (by simp[rsC,Value.oneCell']) ?_);refine zu (aA rfl rfl (zr _ (w.heap.size+1) 42 42 _ (0,0) _ HX9.out underlying42 rfl jk)) rfl ?_;exact HIP.out _ _ ⟨_,rfl,(((H3.out.below hb9').row HR9.out _).more (Nat.le_add_right _ _)),bW (bh HB9.out) (zZ _) _,.inl rfl⟩
 have CC:=zh (rO sq z.E z.en z.ec r.evs w3 (HEV.out w3 HB3.out));obtain⟨cc,hcc⟩:∃cc,bI sq r.evs=cc:=⟨_,rfl⟩;rw[hcc]at CC;have HCC:=zh hcc;clear hcc;go_wp2_with fail;refine CC.out.mono ?_;rintro e w4 ⟨rfl,hb4⟩;have HB4:=zt HB3 hb4;have H4:=zh (H3.out.below hb4);have HR4:=zb HR3 hb4;have HQ4:=zb HQ3 hb4;have HBT4:=zb HBT3 hb4;clear hb4 CC q1 k3 z0 z1 H3 HR3 HQ3 HBT3 HB3;by_cases hc0:cc=0
 ·subst hc0;obtain⟨D,hD⟩:∃D,Ev.mkD sq r.evs=D:=⟨_,rfl⟩;have CD:Hid (∀wx,zWW w4 wx→Calls prog 64 #[.agg #[.int .i64 sq,.slice z.E z.en z.ec]] wx (kw wx D)):=zh (fun wx hb=>by rw[←hD];exact Ev.mI sq z.E z.en z.ec r.evs wx (HEV.out wx (HB4.out.trans (hb.mono HB4.out.size))) HCC.out);have hDl:D.length=z.en:=by rw[←hD,kD];exact HEL.out
  have h64:z.en≤64:=by rw[←HEL.out];exact(mR HCC.out).2.1
  have hing:ing m r=({ m with ds:=m.ds++D,acked:=if r.dur then((m.ds.length+D.length:Nat):Int)else m.acked },rsC 0 sq 0 nil nil nil 0 0 0 0):=by
   unfold ing;rw[zH (by rw[HEL.out];exact hn0),zH (by rw[HEL.out];omega),HSQ.out,HCC.out,zH jd,hD,hDl,HEL.out]
  rw[hing]at HIP;have HDL:=zh hDl
  have HOKI:Hid (∀ak:Int,0≤ak∧ak≤((m.ds.length+D.length:Nat):Int)→Ok { m with ds:=m.ds++D,acked:=ak }):=zh (fun ak hak=>by
   have:=nH HOK.out r.evs (by rw[HSQ.out];exact HCC.out) HT.out ak (by rw[HEL.out,←HDL.out];exact hak);rw[HSQ.out,hD]at this
   exact this)
  obtain⟨vss,g1,g2,g3⟩:=H4.out.own.ex;have G2:=zh g2;have G3:=zh g3;have G1:=zh g1;have hs4:=HB4.out.size;have hDlen:D.length≤64:=jo;have C0:Hid (Blk w4 X 81 (mdC m (.slice A8 m.ds.length c8))∧Blk w4 x9 111 #[.int .i64 sq,.slice z.E z.en z.ec]∧Blk w4 (w.heap.size+1) 42 rs0∧Blk w4 w.heap.size 37 (rqC r z)):=zh ⟨H4.out.blk,HBT4.out,HR4.out,HQ4.out⟩;clear hD hing hDl g1 g2 g3 hn0 hbg HCC
  go_upto_region 10 with(fail)
  refine dN 10 (aI [(6,⟨Option Addr × Nat,fun x=>.slice x.1 D.length x.2,fun x wx=>zWW w4 wx∧DOwn wx w4.heap.size (.slice x.1 D.length x.2) D⟩),(7,⟨Value,fun v'=>v',fun v' wx=>DOwn wx n0 v' (m.ds++D)∧Chg (fun b=>(Value.slice A8 m.ds.length c8).ownBlock=some b) w4 wx∧OwnN w4 (.slice A8 m.ds.length c8) v'⟩)])
   (fun wx=>Blk wx X 81 (mdC m (.slice A8 m.ds.length c8))∧Blk wx x9 111 #[.int .i64 sq,.slice z.E z.en z.ec]∧Blk wx (w.heap.size+1) 42 rs0∧Blk wx w.heap.size 37 (rqC r z)) (fun wx=>wx=w4.drew) jk jk (dS jk) C0.out rfl ?_
  refine aD 1 ?_ rfl jr jr (fun wx hC=>?_) ?_;rotate_left
  ·have f0:=hC.1.cell 7;have f1:=hC.2.1.cell 0;have f2:=hC.2.1.cell 1;simp only[mdC,zA,zB,zC]at f0 f1 f2;go_simp;all_goals with_reducible rfl
  try simp only[Act.put,zD,zE,zF]
  refine aD 2 ?_ rfl jr jr (fun wx hC=>?_) ?_;rotate_left
  ·have f0:=hC.1.cell 7;have f1:=hC.2.1.cell 0;have f2:=hC.2.1.cell 1;simp only[mdC,zA,zB,zC]at f0 f1 f2;go_simp;all_goals with_reducible rfl
  try simp only[Act.put,zD,zE,zF]
  refine aD 3 ?_ rfl jr jr (fun wx hC=>?_) ?_;rotate_left
  ·have f0:=hC.1.cell 7;have f1:=hC.2.1.cell 0;have f2:=hC.2.1.cell 1;simp only[mdC,zA,zB,zC]at f0 f1 f2;go_simp;all_goals with_reducible rfl
  try simp only[Act.put,zD,zE,zF]
  refine aD 4 ?_ rfl jr jr (fun wx hC=>?_) ?_;rotate_left
  ·have f0:=hC.1.cell 7;have f1:=hC.2.1.cell 0;have f2:=hC.2.1.cell 1;simp only[mdC,zA,zB,zC]at f0 f1 f2;go_simp;all_goals with_reducible rfl
  try simp only[Act.put,zD,zE,zF]
  refine aD 5 ?_ rfl jr jr (fun wx hC=>?_) ?_;rotate_left
  ·have f0:=hC.1.cell 7;have f1:=hC.2.1.cell 0;have f2:=hC.2.1.cell 1;simp only[mdC,zA,zB,zC]at f0 f1 f2;go_simp;all_goals with_reducible rfl
  try simp only[Act.put,zD,zE,zF]
  refine aD 6 ?_ rfl jr jr (fun wx hC=>?_) ?_;rotate_left
  ·have f0:=hC.1.cell 7;have f1:=hC.2.1.cell 0;have f2:=hC.2.1.cell 1;simp only[mdC,zA,zB,zC]at f0 f1 f2;go_simp;all_goals with_reducible rfl
  try simp only[Act.put,zD,zE,zF]
  refine dz 7 _ rfl jr jr (fun wx hC hI=>?_) (fun x=>?_)
  ·subst hI;refine aZ (f:=?_) (args:=?_) ?_ ?_;rotate_left 2
   ·go_simp;all_goals first|with_reducible rfl|(refine⟨?_,?_⟩<;>with_reducible rfl)
   refine(CD.out _ (zw _ _).drew).mono ?_;rintro e w9 ⟨v9,rfl,hD9,hb9⟩;obtain⟨A9,c9,rfl,_⟩:=hD9.read;have hbb:zWW w4 w9:=((zw _ _).drew:zWW w4 w4.drew).trans hb9;exact⟨_,rfl,trivial,⟨hC.1.below hb9 hC.1.lt,hC.2.1.below hb9 hC.2.1.lt,hC.2.2.1.below hb9 hC.2.2.1.lt,hC.2.2.2.below hb9 hC.2.2.2.lt⟩,(A9,c9),rfl,hbb,hD9⟩
  obtain⟨A6,c6⟩:=x;try simp only[Act.put,zD,zE,zF]
  refine dz 8 _ rfl jr jr (fun wx hC hI=>?_) (fun x=>?_)
  ·obtain⟨hb,hD⟩:=hI;obtain⟨vs2,e1,e2,e3⟩:=hD.ex;obtain⟨A',c',e4,hR,hc',hn',_⟩:=Ev.aP e2;injection e4 with e5 _ e6;subst e5 e6;have hown:=G2.out.kept (aJ hb none) (by cases hv:(Value.slice A8 m.ds.length c8).ownBlock<;>simp);have hg3:∀i (h:i<m.ds.length) (h':i<vss.length),DcS wx (Go.Proofs.YtmomjpolkkbhnaaGreat.Ev.Fd wx n0) m.ds[i] vss[i]:=fun i a b=>(G3.out i a b).same (fun b hS=>⟨⟨hS.1,hS.2.new hb⟩,hb.block b hS.2.lt⟩)
   have hbs:=hb.size;refine kU _ _ 26 rfl n0 48 i0 _ 3 40 underlying26 hi0 hz0 hz1 hz2 rfl jd (.slice A8 m.ds.length c8) m.ds.length vss.flatten rfl hown A6 D.length c6 vs2.flatten rfl hR hn' (p7 e1 e3) jx jo jo ?_;intro v' w' ho hg hon;exact⟨⟨hC.1.grown hg (fun e=>absurd ((aY hown e.symm).one ⟨_,_,hC.1⟩) jd),hC.2.1.grown hg (fun e=>absurd ((aY hown e.symm).one ⟨_,_,hC.2.1⟩) jd),hC.2.2.1.grown hg (fun e=>absurd ((aY hown e.symm).one ⟨_,_,hC.2.2.1⟩) jd),hC.2.2.2.grown hg (fun e=>absurd ((aY hown e.symm).one ⟨_,_,hC.2.2.2⟩) jd)⟩,v',rfl,Ik G1.out hown hg3 e1 e3 jo ho hg,(Chg.of_new hb).trans (Chg.of_grown hg (fun k hk=>hk)) (fun x hx=>.inl hx),hon.of hbs⟩
  rename Value=>x6
  try simp only[Act.put,zD,zE,zF]
  refine aD 9 ?_ rfl jr jr (fun wx hC=>?_) ?_;rotate_left
  ·have f0:=hC.1.cell 7;have f1:=hC.2.1.cell 0;have f2:=hC.2.1.cell 1;simp only[mdC,zA,zB,zC]at f0 f1 f2;go_simp;all_goals with_reducible rfl
  try simp only[Act.put,zD,zE,zF]
  refine aD 10 ?_ rfl jr jr (fun wx hC=>?_) ?_;rotate_left
  ·have f0:=hC.1.cell 7;have f1:=hC.2.1.cell 0;have f2:=hC.2.1.cell 1;simp only[mdC,zA,zB,zC]at f0 f1 f2;go_simp;all_goals with_reducible rfl
  try simp only[Act.put,zD,zE,zF]
  refine dZ (fun w7 hC hI=>?_);obtain⟨hI1,hI2,hI3⟩:=hI;obtain⟨A7,c7,rfl,_⟩:=hI1.read;have HCC7:=zh hC;have HI1:=zh hI1;have HON:=zh (hI3.of HB4.out.size);have HC7:=zh ((bh (O:=fun b=>(Value.slice A8 m.ds.length c8).ownBlock=some b) HB4.out).trans hI2 (fun x hx=>.inl hx));have hs47:=hI2.size;have g0:=hC.1.cell 7;have g0f:=hC.1.frozen 7;simp only[mdC,zA,zB,zC]at g0;clear hC hI1 hI2 hI3 CD C0 H4 HR4 HQ4 HBT4 G1 G2 G3;generalize hdl:(m.ds++D).length=dl at *;have HDLL:=zh hdl;clear hdl;have hne8:w.heap.size+1≠X:=jo;have hne9:w.heap.size≠X:=jo
  have HX8:Hid (Blk (w7.setCell ⟨X,7,none⟩ (.slice A7 dl c7)) X 81 (mdC { m with ds:=m.ds++D } (.slice A7 dl c7))):=zh (by
   have:=HCC7.out.1.set_ 7 (.slice A7 dl c7)
   simpa[mdC]using this)
  have HBT8:=zh (HCC7.out.2.1.far (p:=⟨X,7,none⟩) hnX.symm (.slice A7 dl c7));have HR8:=zh (HCC7.out.2.2.1.far (p:=⟨X,7,none⟩) hne8 (.slice A7 dl c7));have HQ8:=zh (HCC7.out.2.2.2.far (p:=⟨X,7,none⟩) hne9 (.slice A7 dl c7))
  have HO8:Hid (DOwn (w7.setCell ⟨X,7,none⟩ (.slice A7 dl c7)) n0 (.slice A7 dl c7) (m.ds++D)):=zh (lM HI1.out (fun b hb=>vL _ _ _ _ (fun e=>by
   have e:b=X:=e;subst e;rcases hb with hb|hb
   ·exact absurd (hb.one ⟨_,_,HCC7.out.1⟩) jd
   exact absurd (hb.one ⟨_,_,HCC7.out.1⟩) jd)))
  have HC8:Hid (Chg (fun b=>b=X∨(Value.slice A8 m.ds.length c8).ownBlock=some b) w (w7.setCell ⟨X,7,none⟩ (.slice A7 dl c7))):=zh ((HC7.out.mono (fun x _ hx=>.inr hx)).trans (lI w7 X 7 (.slice A7 dl c7)) (fun x hx=>.inl (.inl hx)));have hsz8:n0≤(w7.setCell ⟨X,7,none⟩ (.slice A7 dl c7)).heap.size:=by simp[World.setCell];omega
  go_upto_region 11 with(fail);generalize w7.setCell ⟨X,7,none⟩ (.slice A7 dl c7)=w8 at *;clear g0 g0f HCC7 HI1 HC7;have q2:=HQ8.out.cell 2;have b0:=HBT8.out.cell 0;have k7:=HX8.out.cell 7;have k10:=HX8.out.cell 10;have k10f:=HX8.out.frozen 10;simp only[mdC,rqC,zA,zB,zC]at q2 b0 k7 k10;have hdl2:dl=m.ds.length+D.length:=by rw[←HDLL.out,zJ]
  have hak:=HOK.out.ak;obtain⟨du,hdu⟩:∃du,r.dur=du:=⟨_,rfl⟩;rw[hdu]at q2 HIP;clear hdu
  cases du with
  | true=>
   have HA9:Hid (At (w8.setCell ⟨X,10,none⟩ (.int .i64 (dl:Nat))) n0 X (K+64) (.slice A7 dl c7) { m with ds:=m.ds++D,acked:=((m.ds.length+D.length:Nat):Int) }):=zh (by
    have hAt:At w8 n0 X (K+64) (.slice A7 dl c7) { m with ds:=m.ds++D }:=⟨HX8.out,HO8.out,hsz8,HOKI.out m.acked jo,by show (m.ds++D).length≤_;rw[zJ];omega⟩
    exact hAt.set (by have:=HX8.out.set_ 10 (.int .i64 (dl:Nat));rw[hdl2]at this ⊢;simpa[mdC]using this) rfl (HOKI.out _ jo))
   have HR9:=zh (HR8.out.far (p:=⟨X,10,none⟩) hne8 (.int .i64 (dl:Nat)));have HBT9:=zh (HBT8.out.far (p:=⟨X,10,none⟩) hnX.symm (.int .i64 (dl:Nat)));have HC9:=zh (HC8.out.trans (lI w8 X 10 (.int .i64 (dl:Nat))) (fun x hx=>.inl (.inl hx)));clear hdl2 hak HDLL HX8 HO8 HBT8 HR8 HQ8 HC8
   go_upto_region 13 with(fail);generalize w8.setCell ⟨X,10,none⟩ (.int .i64 (dl:Nat))=w9 at *;clear q2 b0 k7 k10 k10f;have b0:=HBT9.out.cell 0;simp only[zA,zB,zC]at b0;have HX5:=zh (zx _ (w.heap.size+1) _ (rsC 0 sq 0 nil nil nil 0 0 0 0) _ _ HR9.out);go_wp2_with (refine zv (o:=⟨none,.store 42 _ _,_,_,_,_⟩) rfl 42 _ _ rfl (w.heap.size+1) (rsC 0 sq 0 nil nil nil 0 0 0 0) rfl rfl 42 rs0 HR9.out jk rfl (by simp[rsC,Value.oneCell']) ?_);refine zu (aA rfl rfl (zr _ (w.heap.size+1) 42 42 _ (0,0) _ HX5.out underlying42 rfl jk)) rfl ?_;exact HIP.out _ _ ⟨_,rfl,HA9.out.row HR9.out _,bW HC9.out (zZ _) _,HON.out⟩
  | false=>
   have HA9:Hid (At w8 n0 X (K+64) (.slice A7 dl c7) { m with ds:=m.ds++D,acked:=m.acked }):=zh ⟨HX8.out,HO8.out,hsz8,HOKI.out m.acked jo,by show (m.ds++D).length≤_;rw[zJ];omega⟩;clear hdl2 hak HDLL HX8 HO8 HBT8 HQ8;have HX5:=zh (zx _ (w.heap.size+1) _ (rsC 0 sq 0 nil nil nil 0 0 0 0) _ _ HR8.out);go_wp2_with (refine zv (o:=⟨none,.store 42 _ _,_,_,_,_⟩) rfl 42 _ _ rfl (w.heap.size+1) (rsC 0 sq 0 nil nil nil 0 0 0 0) rfl rfl 42 rs0 HR8.out jk rfl (by simp[rsC,Value.oneCell']) ?_);refine zu (aA rfl rfl (zr _ (w.heap.size+1) 42 42 _ (0,0) _ HX5.out underlying42 rfl jk)) rfl ?_;exact HIP.out _ _ ⟨_,rfl,HA9.out.row HR8.out _,bW HC8.out (zZ _) _,HON.out⟩
 have hcb:(cc != 0)=true:=by simpa using hc0
 have hing:ing m r=(m,rsC cc 0 0 nil nil nil 0 0 0 0):=by
  unfold ing;rw[zH (by rw[HEL.out];exact hn0),zH (by rw[HEL.out];omega),HSQ.out,HCC.out,zI hc0]
 rw[hing]at HIP;clear hn0 hing hc0;go_wp2_with fail;refine(dK cc _).mono ?_;rintro e w9 ⟨rfl,hb9⟩;have HB9:=zt HB4 hb9;have HR9:=zb HR4 hb9;have hb9':=hb9;clear hb9;have HX9:=zh (zx _ (w.heap.size+1) _ (rsC cc 0 0 nil nil nil 0 0 0 0) _ _ HR9.out);go_wp2_with (refine zv (o:=⟨none,.store 42 _ _,_,_,_,_⟩) rfl 42 _ _ rfl (w.heap.size+1) (rsC cc 0 0 nil nil nil 0 0 0 0) rfl rfl 42 rs0 HR9.out jk rfl (by simp[rsC,Value.oneCell']) ?_);refine zu (aA rfl rfl (zr _ (w.heap.size+1) 42 42 _ (0,0) _ HX9.out underlying42 rfl jk)) rfl ?_;exact HIP.out _ _ ⟨_,rfl,(((H4.out.below hb9').row HR9.out _).more (Nat.le_add_right _ _)),bW (bh HB9.out) (zZ _) _,.inl rfl⟩
end
end Md
end Go.Proofs.YtmomjpolkkbhnaaGreat
