/- loggialaw26.Few: the walk (printed by gen_mdp.py). -/
import Derived.Deep.CutRange
import Derived.Test.YtmomjpolkkbhnaaGreatQModelPagesRow40
import Derived.Test.YtmomjpolkkbhnaaGreatQModelPagesRow0
set_option linter.unusedSimpArgs false
set_option linter.unusedVariables false
set_option maxRecDepth 20000
namespace Go.Proofs.YtmomjpolkkbhnaaGreat.Md
open Go.RowKit Ut Tk Qy Qp Ev Cu
def cutF (f:Fl):Fl:=(f.1,if 200<f.2.size then f.2.extract 0 200 else f.2)
def cutE (e:Evn):Evn:=(e.1,(e.2.take 5).map cutF)
def cutQ (q:ByteArray):ByteArray:=if 1100<q.size then q.extract 0 1100 else q
def fewR (r:Rq):Rq:={ r with evs:=(r.evs.take 10).map cutE,q:=cutQ r.q,cur:=r.cur.take 1200 }
theorem cutF_sz (f:Fl) (h:f.1.size≤140737488351232∧f.2.size≤140737488351232):(cutF f).1.size≤140737488351232∧(cutF f).2.size≤140737488351232:=by
 unfold cutF
 refine ⟨h.1,?_⟩
 show (if 200<f.2.size then f.2.extract 0 200 else f.2).size≤_
 split
 ·rw [ByteArray.size_extract]; omega
 ·exact h.2
theorem fldC_snoc' (fs:List Fl) (f:Fl):fldC (fs ++ [f])=fldC fs ++ [.string f.1,.string f.2]:=by simp [fldC]
structure EvS (w:World) (S:Nat→Prop) (e:Evn) (u:List Value):Prop where
 ex:∃ F fn fc,u=[.int .i64 e.1,.slice F fn fc]∧ReadsS w S 2 F fn (fldC e.2)∧e.2.length=fn∧fn≤8796093021952∧fn≤fc∧(F=none→fc=0)
theorem EvS.same {w w':World} {S S':Nat→Prop} {e:Evn} {u:List Value} (h:EvS w S e u) (hS:∀ b,S b→S' b∧w'.heap[b]?=w.heap[b]?):EvS w' S' e u:=by
 obtain ⟨F,fn,fc,e1,h1,h2⟩:=h.ex
 exact ⟨F,fn,fc,e1,h1.same hS,h2⟩
structure EOwn (w:World) (base:Nat) (v:Value) (l:List Evn):Prop where
 ex:∃ vss:List (List Value),vss.length=l.length∧w.ownsRow base 46 2 v l.length vss.flatten∧∀ i (h:i<l.length) (h':i<vss.length),EvS w (Go.Proofs.YtmomjpolkkbhnaaGreat.Ev.Fd w base) l[i] vss[i]
theorem EOwn.start (w:World) (base:Nat):EOwn w base (.slice none 0 0) []:=⟨[],rfl,World.ownsRow_nil _ _ _ _,fun i h=>absurd h (by simp)⟩
theorem EOwn.kp {w w':World} {base:Nat} {v:Value} {l:List Evn} (h:EOwn w base v l) (hk:∀ b,(Tg w 46 b∨Tg w 85 b)→w'.heap[b]?=w.heap[b]?):EOwn w' base v l:=by
 obtain ⟨vss,g1,g2,g3⟩:=h.ex
 exact ⟨vss,g1,own_same g2 (fun b hb=>hk b (.inl (tg_own g2 hb))),fun i a b=>(g3 i a b).same (fun b hS=>⟨⟨hS.1,hS.2.same (hk b (.inr hS.2))⟩,hk b (.inr hS.2)⟩)⟩
theorem EOwn.below {w w':World} {base:Nat} {v:Value} {l:List Evn} (h:EOwn w base v l) (hb:Below w.heap.size w w'):EOwn w' base v l:=h.kp (fun b hT=>hb.block b (by rcases hT with hT | hT <;> exact hT.lt))
theorem EOwn.put {w w5:World} {base:Nat} {v v':Value} {l:List Evn} {e:Evn} {u:List Value} {vss:List (List Value)} (h1:vss.length=l.length) (h2:w.ownsRow base 46 2 v l.length vss.flatten) (h3:∀ i (h:i<l.length) (h':i<vss.length),EvS w (Go.Proofs.YtmomjpolkkbhnaaGreat.Ev.Fd w base) l[i] vss[i])
  (hp:w5.ownsRow base 46 2 v' (l.length+1) (vss.flatten ++ u)) (hg:w.grownBy w5 v.ownBlock) (hd:EvS w (Go.Proofs.YtmomjpolkkbhnaaGreat.Ev.Fd w base) e u):EOwn w5 base v' (l ++ [e]):=by
 have keep:∀ b,Go.Proofs.YtmomjpolkkbhnaaGreat.Ev.Fd w base b→Go.Proofs.YtmomjpolkkbhnaaGreat.Ev.Fd w5 base b∧w5.heap[b]?=w.heap[b]?:=fun b hS=>by
  have e:w5.heap[b]?=w.heap[b]?:=hg.block b hS.2.lt (fun e=>absurd ((tg_own h2 e.symm).one hS.2) (by decide))
  exact ⟨⟨hS.1,hS.2.same e⟩,e⟩
 refine ⟨vss ++ [u],by simp [h1],?_,fun i a b=>?_⟩
 ·rw [List.flatten_append,List.length_append]
  simpa using hp
 ·by_cases hi:i<l.length
  ·rw [List.getElem_append_left hi,List.getElem_append_left (by omega)]
   exact (h3 i hi (by omega)).same keep
  ·have hi':i=l.length:=by simp at a; omega
   subst hi'
   rw [List.getElem_append_right (by omega),List.getElem_append_right (by omega)]
   simp only [Nat.sub_self,h1,List.getElem_cons_zero]
   exact hd.same keep
theorem EOwn.at_ {w:World} {base:Nat} {v:Value} {l:List Evn} (h:EOwn w base v l) (hl:l.length≤4398046511104) (hs:∀ e∈l,∀ f∈e.2,f.1.size≤140737488351232∧f.2.size≤140737488351232):∃ A c,v=.slice A l.length c∧EvsAt w w.heap.size A l.length c l:=by
 obtain ⟨vss,h1,h2,h3⟩:=h.ex
 obtain ⟨A,c,rfl,hR,hc,_⟩:=Ev.own_shape2 h2
 refine ⟨A,c,rfl,rfl,hl,hc,vss,h1,hR,fun i a b=>?_⟩
 obtain ⟨F,fn,fc,e,g1,g2,g3,g4,g5⟩:=(h3 i a b).ex
 exact ⟨F,fn,fc,e,⟨g1.mono (fun b hb=>hb.2.lt),g2,g3,g4,hs _ (List.getElem_mem a),g5⟩⟩
structure EvsS (w:World) (S:Nat→Prop) (A:Option Addr) (n c:Nat) (l:List Evn):Prop where
 ln:l.length=n
 cap:n≤c
 ex:∃ vss:List (List Value),vss.length=n∧ReadsS w S 2 A n vss.flatten∧∀ i (h:i<l.length) (h':i<vss.length),EvS w S l[i] vss[i]
theorem EvsS.same {w w':World} {S S':Nat→Prop} {A:Option Addr} {n c:Nat} {l:List Evn} (h:EvsS w S A n c l) (hS:∀ b,S b→S' b∧w'.heap[b]?=w.heap[b]?):EvsS w' S' A n c l:=by
 obtain ⟨vss,h1,h2,h3⟩:=h.ex
 exact ⟨h.ln,h.cap,vss,h1,h2.same hS,fun i a b=>(h3 i a b).same hS⟩
theorem EOwn.s {w:World} {base b0:Nat} {A:Option Addr} {c:Nat} {l:List Evn} (h:EOwn w base (.slice A l.length c) l) (hb:b0≤base):EvsS w (fun b=>b0≤b∧b<w.heap.size) A l.length c l:=by
 obtain ⟨vss,h1,h2,h3⟩:=h.ex
 obtain ⟨A',c',e,_,hc,_⟩:=Ev.own_shape2 h2
 cases e
 exact ⟨rfl,hc,vss,h1,(ReadsS.of_own h2).mono (fun b hb'=>⟨Nat.le_trans hb hb'.1,hb'.2.1⟩),fun i a b=>(h3 i a b).same (fun b hS=>⟨⟨Nat.le_trans hb hS.1,hS.2.lt⟩,rfl⟩)⟩
theorem evt_info:(Tryz.prog.info? 46).map (fun i=>(i.zero,i.size,i.bytes))=some (some (.agg #[.int .i64 0,.slice none 0 0]),2,32):=by kernel_rfl
def FewP (r:Rq) (w:World) (e:Ending) (w':World):Prop:=∃ z,e=.returned (.agg (rqC (fewR r) z))∧RqAt w' (fewR r) z∧Below w.heap.size w w'∧EvsS w' (fun b=>w.heap.size≤b∧b<w'.heap.size) z.E z.en z.ec (fewR r).evs
theorem few_ok {r:Rq} {w:World} {z:Rw} (h:RqAt w r z):(∀ e∈(r.evs.take 10).map cutE,∀ f∈e.2,f.1.size≤140737488351232∧f.2.size≤140737488351232)∧(∀ e∈(r.evs.take 10).map cutE,I64 e.1):=by
 refine ⟨fun e he f hf=>?_,fun e he=>?_⟩
 ·obtain ⟨e0,h0,rfl⟩:=List.mem_map.1 he
  have h1:=List.mem_of_mem_take h0
  obtain ⟨f0,hf0,rfl⟩:=List.mem_map.1 hf
  have h2:=List.mem_of_mem_take hf0
  obtain ⟨i,hi,rfl⟩:=List.mem_iff_getElem.1 h1
  obtain ⟨_,_,_,_,_,_,_,_,_,g⟩:=h.ev.at_ hi
  exact cutF_sz f0 (g.sz f0 h2)
 ·obtain ⟨e0,h0,rfl⟩:=List.mem_map.1 he
  exact h.ti e0 (List.mem_of_mem_take h0)
set_option maxHeartbeats 12800000 in
theorem few_any (r:Rq) (z:Rw) (w:World) (hr:RqAt w r z):Calls Tryz.prog 10 #[.agg (rqC r z)] w (FewP r w):=by
 obtain ⟨i0,hi0,hz0,hz1,hz2⟩:=info_parts Ev.fld_info
 obtain ⟨j0,hj0,hw0,hw1,hw2⟩:=info_parts evt_info
 have hb:Below w.heap.size w ((w.alloc (.cells (rqC r z) 37)).alloc (.cells (rqC ⟨0,[],false,0,⟨#[]⟩,0,0,0,0,0,[]⟩ ⟨none,0,0,none,0,0⟩) 37)):=((Below.refl _ _).alloc (zG _) _).alloc (by simp) _
 have hq:=(Blk.new w 37 (rqC r z)).alloc (.cells (rqC ⟨0,[],false,0,⟨#[]⟩,0,0,0,0,0,[]⟩ ⟨none,0,0,none,0,0⟩) 37)
 have hq2:=Blk.new (w.alloc (.cells (rqC r z) 37)) 37 (rqC ⟨0,[],false,0,⟨#[]⟩,0,0,0,0,0,[]⟩ ⟨none,0,0,none,0,0⟩)
 have z1:(w.alloc (.cells (rqC r z) 37)).heap.size=w.heap.size+1:=by simp
 rw [z1] at hq2
 have HB:=zh hb
 have HQ:=zh hq
 have HR:=zh hq2
 have HRQ:=zh (hr.below hb)
 have HCU:=zh hr.cur
 have HCN:=zh hr.cn
 have HFO:=zh (few_ok hr)
 have hsw:w.heap.size+2≤(World.heap ((w.alloc (.cells (rqC r z) 37)).alloc (.cells (rqC ⟨0,[],false,0,⟨#[]⟩,0,0,0,0,0,[]⟩ ⟨none,0,0,none,0,0⟩) 37))).size:=by simp
 clear hb hq hq2 z1 hr
 go_enter Tryz.func10,Tryz.ntmps10
 go_upto_region 1 with (fail)
 generalize ((w.alloc (.cells (rqC r z) 37)).alloc (.cells (rqC ⟨0,[],false,0,⟨#[]⟩,0,0,0,0,0,[]⟩ ⟨none,0,0,none,0,0⟩) 37))=w1 at *
 have hln:=HRQ.out.ev.ln
 have HLN:=zh hln
 go_wp2_with fail
 go_loopw [3,4] (fun v i wr=>∃ (u:Value) (k:Nat),u=v∧k≤z.en∧k≤10∧i=.int .i64 k∧Hid (EOwn wr w1.heap.size u ((r.evs.take k).map cutE))∧Hid (Below w1.heap.size w1 wr)) (fun _ i _=>10 - (intOf i).toNat)
 case atStart=>exact ⟨_,0,rfl,Nat.zero_le _,Nat.zero_le _,rfl,zh (EOwn.start _ _),zh (Below.refl _ _)⟩
 case round =>
  obtain ⟨u,k,rfl,hk,hk10,rfl,hO,hB⟩:=hrel
  have hbs:=hB.out.size
  have q1:=(HQ.out.below hB.out HQ.out.lt).cell 1
  simp only [rqC,zA,zB,zC] at q1
  by_cases hlt:k<z.en∧k<10
  ·obtain ⟨hlt,hl10⟩:=hlt
   have hki:(k:Int)<(z.en:Int):=by omega
   have hki2:(k:Int)<10:=by omega
   have hki0:(0:Int)≤(k:Int):=by omega
   have hkl:k<r.evs.length:=by omega
   obtain ⟨eb,eo,F,fn,fc,hEe,hebb,a0,a1,hfl⟩:=(HRQ.out.ev.grow hB.out).at_ hkl
   have HTK:Hid ((r.evs.take (k+1)).map cutE=(r.evs.take k).map cutE ++ [(r.evs[k].1,(r.evs[k].2.take 5).map cutF)]):=zh (by rw [List.take_succ_eq_append_getElem hkl,List.map_append]; rfl)
   have HFL:=zh hfl
   have hfl1:=hfl.len
   have hfl2:=hfl.few
   have hfl3:=hfl.cap
   have hlk:((r.evs.take k).map cutE).length≤10:=by rw [List.length_map,List.length_take]; omega
   generalize (r.evs.take k).map cutE=L at *
   generalize r.evs[k].1=ta at *
   generalize r.evs[k].2=fs at *
   rw [hEe] at q1
   have hX:=Blk.new wr 46 #[.int .i64 ta,.slice none 0 0]
   have hBx:Below wr.heap.size wr (wr.alloc (.cells #[.int .i64 ta,.slice none 0 0] 46)):=(Below.refl _ _).alloc (zG _) _
   have HX:=zh hX
   have HBX:=zh hBx
   have Hc:Hid (∀ wx,Below wr.heap.size wr wx→wx.cell? ⟨w.heap.size,1,none⟩=some (.slice (some ⟨eb,eo,none⟩) z.en z.ec)∧wx.cell? ⟨eb,eo+k * 2+1,none⟩=some (.slice F fn fc)):=zh (fun wx hb=>by
    have r1:=(HQ.out.below (hB.out.trans (hb.mono hB.out.size)) HQ.out.lt).cell 1
    simp only [rqC,zA,zB,zC] at r1
    rw [hEe] at r1
    exact ⟨r1,(hb.cell (p:=⟨eb,eo+k * 2+1,none⟩) hebb).trans a1⟩)
   clear hX hBx hEe
   obtain ⟨wo,rfl⟩:∃ wo:World,wo=wr:=⟨_,rfl⟩
   go_upto_region 6 with (fail)
   generalize hwx:wo.alloc (.cells #[.int .i64 ta,.slice none 0 0] 46)=wx0 at *
   clear hwx a0 a1 q1
   go_wp2_with fail
   go_loopw [6] (fun i wr=>∃ (fv:Value) (j:Nat),j≤fn∧j≤5∧i=.int .i64 j∧Hid (Blk wr wo.heap.size 46 #[.int .i64 ta,fv])∧Hid (wr.ownsRow wo.heap.size 85 2 fv j (fldC ((fs.take j).map cutF)))∧Hid (Below wo.heap.size wo wr)) (fun i _=>5 - (intOf i).toNat)
   case atStart=>exact ⟨_,0,Nat.zero_le _,Nat.zero_le _,rfl,HX,zh (World.ownsRow_nil _ _ _ _),HBX⟩
   case round =>
    obtain ⟨fv,j,hj,hj5,rfl,hE,hF,hBw⟩:=hrel
    have hbw:=hBw.out.size
    obtain ⟨y1,y2⟩:=Hc.out wr hBw.out
    by_cases hjl:j<fn∧j<5
    ·obtain ⟨hjl,hj5⟩:=hjl
     have hji:(j:Int)<(fn:Int):=by omega
     have hji2:(j:Int)<5:=by omega
     have hji0:(0:Int)≤(j:Int):=by omega
     have hjf:j<fs.length:=by omega
     obtain ⟨tb,tq,rfl,htb,d0,d1⟩:=fields_at HFL.out.rd (k:=j) hjf
     have e0:=(hBw.out.cell (p:=⟨tb,tq+j * 2,none⟩) htb).trans d0
     have e1:=(hBw.out.cell (p:=⟨tb,tq+j * 2+1,none⟩) htb).trans d1
     have HFT:Hid (fldC ((fs.take (j+1)).map cutF)=fldC ((fs.take j).map cutF) ++ [.string fs[j].1,.string (if 200<fs[j].2.size then fs[j].2.extract 0 200 else fs[j].2)]):=zh (by rw [List.take_succ_eq_append_getElem hjf,List.map_append]; exact fldC_snoc' _ _)
     obtain ⟨A9,c9,rfl,_⟩:=Ev.own_shape2 hF.out
     generalize hnm:fs[j].1=nm at *
     generalize htx:fs[j].2=tx at *
     clear hnm htx
     generalize hzs:fldC ((fs.take j).map cutF)=zs at *
     clear hzs
     have x1:=(Blk.new wr 85 #[.string nm,.string tx]).cell 1
     have x1f:=(Blk.new wr 85 #[.string nm,.string tx]).frozen 1
     simp only [zA,zB,zC] at x1
     have HFB:=zh (Blk.new wr 85 #[.string nm,.string tx])
     have HFS:=zh (Blk.new wr 85 #[.string nm,.string (tx.extract 0 200)])
     have HFA:Hid (Below wr.heap.size wr (wr.alloc (.cells #[.string nm,.string tx] 85))):=zh ((Below.refl _ _).alloc (zG _) _)
     have HFC:Hid (Below wr.heap.size wr (wr.alloc (.cells #[.string nm,.string (tx.extract 0 200)] 85))):=zh ((Below.refl _ _).alloc (zG _) _)
     obtain ⟨wi,rfl⟩:∃ wi:World,wi=wr:=⟨_,rfl⟩
     go_upto_if 53 with (fail)
     go_cut [] from 41 to 57 (fun wx=>∃ t2:ByteArray,Hid ((if 200<tx.size then tx.extract 0 200 else tx)=t2)∧Hid (Blk wx wi.heap.size 85 #[.string nm,.string t2])∧Hid (Below wi.heap.size wi wx))
     case first =>
      by_cases ht : 200<tx.size
      ·have ht':(200:Int)<(tx.size:Int):=by omega
       go_wp2_with fail
       go_meet
       exact ⟨_,zh (if_pos ht),HFS,HFC⟩
      ·have ht':¬ (200:Int)<(tx.size:Int):=by omega
       go_wp2_with fail
       go_meet
       exact ⟨_,zh (if_neg ht),HFB,HFA⟩
     case rest =>
     obtain ⟨t2,HT2,HF2,HB2⟩:=hcut
     rw [HT2.out] at HFT
     have hE2:=hE.out.below HB2.out hE.out.lt
     have HO2:=zh (hF.out.kept (grow_of_below HB2.out none) (by cases hv:(Value.slice A9 j c9).ownBlock <;> simp))
     have HBW2:=zh (hBw.out.trans (HB2.out.mono hbw))
     have c1':=hE2.cell 1
     have c1f:=hE2.frozen 1
     have f0:=HF2.out.cell 0
     have f1:=HF2.out.cell 1
     simp only [zA,zB,zC] at c1' f0 f1
     have HE2:=zh hE2
     have hs2:=HBW2.out.size
     clear hE hF hBw e0 e1 d0 d1 y1 y2 x1 x1f HFB HFS HFA HFC hE2 c1f
     go_wp2_with (first
      | (at_builtin; refine wpList_append_own_at _ rfl _ _ 44 rfl wo.heap.size 85 i0 _ 2 32 Tryz.underlying44 hi0 hz0 hz1 hz2 rfl (by decide) _ j zs rfl (HO2.out.alloc _) ⟨wc.heap.size,0,none⟩ 1 1 [.string nm,.string t2] rfl rfl (World.news_of_block (cs:=#[.string nm,.string t2]) (t:=85) (fr:=(0,0)) (heap_alloc_new wc _)) (by simp [Value.oneCell']) ?k1 ?k2 ?k3 ?_)
      | fail)
     case k1=>unfold maxLen; omega
     case k2=>omega
     try (case k3=>first | omega | (rw [World.size_alloc]; omega))
     intro v4 w6 ho4 hg4 _ _
     obtain ⟨A4,c4,rfl,_⟩:=Ev.own_shape2 ho4
     have HO6:=zh ho4
     have HE6:=zh ((HE2.out.alloc (.cells #[.string nm,.string t2] 85)).grown hg4 (fun e=>absurd ((tg_own HO2.out e.symm).one ⟨_,_,HE2.out⟩) (by decide)))
     have HB6:=zh ((HBW2.out.alloc hs2 (.cells #[.string nm,.string t2] 85)).grown hg4 (by rw [World.size_alloc]; omega) (fun j hj=>(HO2.out.lt j hj).1))
     have b1:=HE6.out.cell 1
     have b1f:=HE6.out.frozen 1
     simp only [zA,zB,zC] at b1
     have HE7:Hid (Blk (w6.setCell ⟨wo.heap.size,1,none⟩ (.slice A4 (j+1) c4)) wo.heap.size 46 #[.int .i64 ta,(.slice A4 (j+1) c4)]):=zh (by
      have:=HE6.out.set_ 1 (.slice A4 (j+1) c4)
      simpa using this)
     have HO7:Hid ((w6.setCell ⟨wo.heap.size,1,none⟩ (.slice A4 (j+1) c4)).ownsRow wo.heap.size 85 2 (.slice A4 (j+1) c4) (j+1) (fldC ((fs.take (j+1)).map cutF))):=zh (by
      rw [HFT.out]
      exact own_same HO6.out (fun b hb=>Below.heap_setCell _ _ _ _ (fun e=>by
       have e:b=wo.heap.size:=e
       subst e
       exact absurd ((tg_own HO6.out hb).one ⟨_,_,HE6.out⟩) (by decide))))
     have HB7:=zh (HB6.out.setCell (p:=⟨wo.heap.size,1,none⟩) (zG _) (.slice A4 (j+1) c4))
     clear ho4 hg4 c1' f0 f1
     go_wp2_with fail
     go_roundw
     case rel=>exact ⟨_,j+1,by omega,by omega,by go_num,HE7,HO7,HB7⟩
     case measure=>simp [intOf]; omega
    ·have HJ:Hid ((fs.take j).map cutF=(fs.take 5).map cutF):=zh (by
      rcases (by omega:j=5∨fs.length≤j) with h | h
      ·rw [h]
      ·rw [List.take_of_length_le h,List.take_of_length_le (by omega)])
     obtain ⟨A9,c9,rfl,_,hc9,hn9,_⟩:=Ev.own_shape2 hF.out
     have HEV:Hid (EvS wr (Go.Proofs.YtmomjpolkkbhnaaGreat.Ev.Fd wr w1.heap.size) (ta,(fs.take 5).map cutF) [.int .i64 ta,.slice A9 j c9]):=zh ⟨A9,j,c9,rfl,by
      rw [← HJ.out]
      exact (ReadsS.of_own hF.out).mono (fun b hb=>⟨by have:=hb.1; omega,tg_own hF.out hb.2.2⟩),by rw [← HJ.out,List.length_map,List.length_take]; omega,by omega,hc9,hn9⟩
     have hO2:=hO.out.below hBw.out
     obtain ⟨vss,g1,g2,g3⟩:=hO2.ex
     have G2:=zh (g2.alloc (.cells #[.int .i64 ta,.slice A9 j c9] 46))
     have kA:∀ (b:Nat),b<wr.heap.size→(wr.alloc (.cells #[.int .i64 ta,.slice A9 j c9] 46)).heap[b]?=wr.heap[b]?:=fun b hb=>((Below.refl wr.heap.size wr).alloc (zG _) (.cells #[.int .i64 ta,.slice A9 j c9] 46)).block b hb
     have HG3:Hid (∀ v' w5,w5.ownsRow w1.heap.size 46 2 v' (L.length+1) (vss.flatten ++ [.int .i64 ta,.slice A9 j c9])→(wr.alloc (.cells #[.int .i64 ta,.slice A9 j c9] 46)).grownBy w5 u.ownBlock→EOwn w5 w1.heap.size v' ((r.evs.take (k+1)).map cutE)):=zh (fun v' w5 p1 p2=>by
      rw [HTK.out]
      exact EOwn.put g1 (g2.alloc _) (fun i a b=>(g3 i a b).same (fun b hS=>⟨⟨hS.1,hS.2.same (kA b hS.2.lt)⟩,kA b hS.2.lt⟩)) p1 p2 (HEV.out.same (fun b hS=>⟨⟨hS.1,hS.2.same (kA b hS.2.lt)⟩,kA b hS.2.lt⟩)))
     have HBA:=zh ((hB.out.trans (hBw.out.mono hbs)).alloc (by have:=hBw.out.size; omega) (.cells #[.int .i64 ta,.slice A9 j c9] 46))
     have c0:=hE.out.cell 0
     have c1:=hE.out.cell 1
     simp only [zA,zB,zC] at c0 c1
     have hvl:vss.flatten.length=L.length * 2:=G2.out.1
     clear hO2 g1 g2 g3 kA hE hF hBw hc9 hn9 HTK
     generalize vss.flatten=zs at *
     by_cases hj1:j<fn
     ·have a1:(j:Int)<(fn:Int):=by omega
      have a2:¬ (j:Int)<5:=by omega
      clear hj1 hjl
      go_wp2_with (first
       | (at_builtin; refine wpList_append_own_at _ rfl _ _ 35 rfl w1.heap.size 46 j0 _ 2 32 Tryz.underlying35 hj0 hw0 hw1 hw2 rfl (by decide) _ L.length zs rfl G2.out ⟨wr.heap.size,0,none⟩ 1 1 [.int .i64 ta,.slice A9 j c9] rfl rfl (World.news_of_block (cs:=#[.int .i64 ta,.slice A9 j c9]) (t:=46) (fr:=(0,0)) (heap_alloc_new wr _)) (by simp [Value.oneCell']) ?k1 ?k2 ?k3 ?_)
       | fail)
      case k1=>unfold maxLen; omega
      case k2=>omega
      try (case k3=>have:=HBA.out.size; first | omega | (rw [World.size_alloc] at *; omega))
      intro v4 w6 ho4 hg4 _ _
      have HO6:=zh (HG3.out v4 w6 ho4 hg4)
      have HB6:=zh (HBA.out.grown hg4 HBA.out.size (fun j hj=>(G2.out.lt j hj).1))
      clear ho4 hg4 c0 c1 y1 y2
      go_wp2_with fail
      go_roundw
      case rel=>exact ⟨_,k+1,rfl,by omega,by omega,by go_num,HO6,HB6⟩
      case measure=>simp [intOf]; omega
     ·have a1:¬ (j:Int)<(fn:Int):=by omega
      clear hj1 hjl
      go_wp2_with (first
       | (at_builtin; refine wpList_append_own_at _ rfl _ _ 35 rfl w1.heap.size 46 j0 _ 2 32 Tryz.underlying35 hj0 hw0 hw1 hw2 rfl (by decide) _ L.length zs rfl G2.out ⟨wr.heap.size,0,none⟩ 1 1 [.int .i64 ta,.slice A9 j c9] rfl rfl (World.news_of_block (cs:=#[.int .i64 ta,.slice A9 j c9]) (t:=46) (fr:=(0,0)) (heap_alloc_new wr _)) (by simp [Value.oneCell']) ?k1 ?k2 ?k3 ?_)
       | fail)
      case k1=>unfold maxLen; omega
      case k2=>omega
      try (case k3=>have:=HBA.out.size; first | omega | (rw [World.size_alloc] at *; omega))
      intro v4 w6 ho4 hg4 _ _
      have HO6:=zh (HG3.out v4 w6 ho4 hg4)
      have HB6:=zh (HBA.out.grown hg4 HBA.out.size (fun j hj=>(G2.out.lt j hj).1))
      clear ho4 hg4 c0 c1 y1 y2
      go_wp2_with fail
      go_roundw
      case rel=>exact ⟨_,k+1,rfl,by omega,by omega,by go_num,HO6,HB6⟩
      case measure=>simp [intOf]; omega
  ·have HTE:Hid ((r.evs.take k).map cutE=(r.evs.take 10).map cutE):=zh (by
    rcases (by omega:k=10∨r.evs.length≤k) with h | h
    ·rw [h]
    ·rw [List.take_of_length_le h,List.take_of_length_le (by omega)])
   have hO2:=hO.out
   rw [HTE.out] at hO2
   obtain ⟨A5,c5,rfl,_⟩:=hO2.at_ (by rw [List.length_map,List.length_take]; omega) HFO.out.1
   have HO2:=zh hO2
   have hq2:=HQ.out.below hB.out HQ.out.lt
   have hr2:=HR.out.below hB.out HR.out.lt
   have p1f:=hq2.frozen 1
   have HQ3:Hid (Blk (wr.setCell ⟨w.heap.size,1,none⟩ (.slice A5 ((r.evs.take 10).map cutE).length c5)) w.heap.size 37 (rqC { r with evs:=(r.evs.take 10).map cutE } { z with E:=A5,en:=((r.evs.take 10).map cutE).length,ec:=c5 })):=zh (by
    have:=hq2.set_ 1 (.slice A5 ((r.evs.take 10).map cutE).length c5)
    simpa [rqC] using this)
   have hne:w.heap.size+1≠w.heap.size:=by omega
   have HR3:=zh (hr2.far (p:=⟨w.heap.size,1,none⟩) hne (.slice A5 ((r.evs.take 10).map cutE).length c5))
   have HO3:Hid (EOwn (wr.setCell ⟨w.heap.size,1,none⟩ (.slice A5 ((r.evs.take 10).map cutE).length c5)) w1.heap.size (.slice A5 ((r.evs.take 10).map cutE).length c5) ((r.evs.take 10).map cutE)):=zh (HO2.out.kp (fun b hb=>Below.heap_setCell _ _ _ _ (fun e=>by
    have e:b=w.heap.size:=e
    subst e
    rcases hb with hb | hb
    ·exact absurd (hb.one ⟨_,_,hq2⟩) (by decide)
    ·exact absurd (hb.one ⟨_,_,hq2⟩) (by decide))))
   have HB3:=zh ((HB.out.trans (hB.out.mono HB.out.size)).setCell (p:=⟨w.heap.size,1,none⟩) (zG _) (.slice A5 ((r.evs.take 10).map cutE).length c5))
   clear hO hO2 hB hq2 hr2 HO2
   generalize hel:(r.evs.take 10).map cutE=EL at *
   by_cases hk1:k<z.en
   ·have a1:(k:Int)<(z.en:Int):=by omega
    have a2:¬ (k:Int)<10:=by omega
    clear hk1 hlt
    go_upto_region 15 with (fail)
    generalize wr.setCell ⟨w.heap.size,1,none⟩ (.slice A5 EL.length c5)=w3 at *
    clear p1f
    have p4:=HQ3.out.cell 4
    have p4f:=HQ3.out.frozen 4
    simp only [rqC,zA,zB,zC] at p4
    have HQ4:Hid (Blk (w3.setCell ⟨w.heap.size,4,none⟩ (.string (r.q.extract 0 1100))) w.heap.size 37 (rqC { r with evs:=EL,q:=r.q.extract 0 1100 } { z with E:=A5,en:=EL.length,ec:=c5 })):=zh (by
     have:=HQ3.out.set_ 4 (.string (r.q.extract 0 1100))
     simpa [rqC] using this)
    have HR4:=zh (HR3.out.far (p:=⟨w.heap.size,4,none⟩) hne (.string (r.q.extract 0 1100)))
    have HO4:Hid (EOwn (w3.setCell ⟨w.heap.size,4,none⟩ (.string (r.q.extract 0 1100))) w1.heap.size (.slice A5 EL.length c5) EL):=zh (HO3.out.kp (fun b hb=>Below.heap_setCell _ _ _ _ (fun e=>by
     have e:b=w.heap.size:=e
     subst e
     rcases hb with hb | hb
     ·exact absurd (hb.one ⟨_,_,HQ3.out⟩) (by decide)
     ·exact absurd (hb.one ⟨_,_,HQ3.out⟩) (by decide))))
    have HB4:=zh (HB3.out.setCell (p:=⟨w.heap.size,4,none⟩) (zG _) (.string (r.q.extract 0 1100)))
    go_upto_if 73 with (fail)
    go_cut [] from 70 to 77 (fun wx=>∃ q2:ByteArray,Hid (cutQ r.q=q2)∧Hid (Blk wx w.heap.size 37 (rqC { r with evs:=EL,q:=q2 } { z with E:=A5,en:=EL.length,ec:=c5 }))∧Hid (Blk wx (w.heap.size+1) 37 (rqC ⟨0,[],false,0,⟨#[]⟩,0,0,0,0,0,[]⟩ ⟨none,0,0,none,0,0⟩))∧Hid (EOwn wx w1.heap.size (.slice A5 EL.length c5) EL)∧Hid (Below w.heap.size w wx))
    case first =>
     by_cases ht : 1100<r.q.size
     ·have ht':(1100:Int)<(r.q.size:Int):=by omega
      go_wp2_with fail
      go_meet
      exact ⟨_,zh (if_pos ht),HQ4,HR4,HO4,HB4⟩
     ·have ht':¬ (1100:Int)<(r.q.size:Int):=by omega
      go_wp2_with fail
      go_meet
      exact ⟨_,zh (if_neg ht),HQ3,HR3,HO3,HB3⟩
    case rest =>
    obtain ⟨q2,HQE,HQ5,HR5,HO5,HB5⟩:=hcut
    clear HQ4 HR4 HO4 HB4 HQ3 HR3 HO3 HB3 p4 p4f
    obtain ⟨w4,rfl⟩:∃ w4:World,w4=wc:=⟨_,rfl⟩
    have p10:=HQ5.out.cell 10
    have p10f:=HQ5.out.frozen 10
    simp only [rqC,zA,zB,zC] at p10
    have hc2:=HCN.out.2.1
    have HQ6:Hid (Blk (w4.setCell ⟨w.heap.size,10,none⟩ (.slice z.C 1200 z.cc)) w.heap.size 37 (rqC { r with evs:=EL,q:=q2 } ⟨A5,EL.length,c5,z.C,1200,z.cc⟩)):=zh (by
     have:=HQ5.out.set_ 10 (.slice z.C 1200 z.cc)
     simpa [rqC] using this)
    have HR6:=zh (HR5.out.far (p:=⟨w.heap.size,10,none⟩) hne (.slice z.C 1200 z.cc))
    have HO6:Hid (EOwn (w4.setCell ⟨w.heap.size,10,none⟩ (.slice z.C 1200 z.cc)) w1.heap.size (.slice A5 EL.length c5) EL):=zh (HO5.out.kp (fun b hb=>Below.heap_setCell _ _ _ _ (fun e=>by
     have e:b=w.heap.size:=e
     subst e
     rcases hb with hb | hb
     ·exact absurd (hb.one ⟨_,_,HQ5.out⟩) (by decide)
     ·exact absurd (hb.one ⟨_,_,HQ5.out⟩) (by decide))))
    have HB6:=zh (HB5.out.setCell (p:=⟨w.heap.size,10,none⟩) (zG _) (.slice z.C 1200 z.cc))
    go_upto_if 81 with (fail)
    go_cut [] from 78 to 85 (fun wx=>∃ cn:Nat,Hid (min 1200 z.cn=cn)∧Hid (Blk wx w.heap.size 37 (rqC { r with evs:=EL,q:=q2 } ⟨A5,EL.length,c5,z.C,cn,z.cc⟩))∧Hid (Blk wx (w.heap.size+1) 37 (rqC ⟨0,[],false,0,⟨#[]⟩,0,0,0,0,0,[]⟩ ⟨none,0,0,none,0,0⟩))∧Hid (EOwn wx w1.heap.size (.slice A5 EL.length c5) EL)∧Hid (Below w.heap.size w wx))
    case first =>
     by_cases ht : 1200<z.cn
     ·have ht':(1200:Int)<(z.cn:Int):=by omega
      have ht2:(1200:Int)≤(z.cc:Int):=by omega
      go_wp2_with fail
      go_meet
      exact ⟨_,zh (by omega),HQ6,HR6,HO6,HB6⟩
     ·have ht':¬ (1200:Int)<(z.cn:Int):=by omega
      go_wp2_with fail
      go_meet
      exact ⟨z.cn,zh (by omega),HQ5,HR5,HO5,HB5⟩
    case rest =>
    obtain ⟨cn,HCE,HQ7,HR7,HO7,HB7⟩:=hcut
    clear HQ6 HR6 HO6 HB6 HQ5 HR5 HO5 HB5 p10 p10f hc2
    have m0:=HQ7.out.cell 0
    have m1:=HQ7.out.cell 1
    have m2:=HQ7.out.cell 2
    have m3:=HQ7.out.cell 3
    have m4:=HQ7.out.cell 4
    have m5:=HQ7.out.cell 5
    have m6:=HQ7.out.cell 6
    have m7:=HQ7.out.cell 7
    have m8:=HQ7.out.cell 8
    have m9:=HQ7.out.cell 9
    have m10:=HQ7.out.cell 10
    simp only [rqC,zA,zB,zC] at m0 m1 m2 m3 m4 m5 m6 m7 m8 m9 m10
    have HX9:=zh (setRow_heap _ (w.heap.size+1) _ (rqC { r with evs:=EL,q:=q2 } ⟨A5,EL.length,c5,z.C,cn,z.cc⟩) _ _ HR7.out)
    go_wp2_with (refine wpList_store_row (o:=⟨none,.store 37 _ _,_,_,_,_⟩) rfl 37 _ _ rfl (w.heap.size+1) (rqC { r with evs:=EL,q:=q2 } ⟨A5,EL.length,c5,z.C,cn,z.cc⟩) rfl rfl 37 (rqC ⟨0,[],false,0,⟨#[]⟩,0,0,0,0,0,[]⟩ ⟨none,0,0,none,0,0⟩) HR7.out (by kernel_rfl) rfl (by simp [rqC,Value.oneCell']) ?_)
    refine bodyPost_ret (results_cell rfl rfl (run_loadVar_row _ (w.heap.size+1) 37 37 _ (0,0) _ HX9.out Tryz.underlying37 rfl (by kernel_rfl))) rfl ?_
    have hB9:=below_setRow HB7.out (Nat.le_succ w.heap.size) (rqC { r with evs:=EL,q:=q2 } ⟨A5,EL.length,c5,z.C,cn,z.cc⟩)
    have hO9:=HO7.out.kp (w':=wc.setRow (w.heap.size+1) (rqC { r with evs:=EL,q:=q2 } ⟨A5,EL.length,c5,z.C,cn,z.cc⟩)) (fun b hb=>setRow_other _ _ b _ (fun e=>by
     subst e
     rcases hb with hb | hb
     ·exact absurd (hb.one ⟨_,_,HR7.out⟩) (by decide)
     ·exact absurd (hb.one ⟨_,_,HR7.out⟩) (by decide)))
    have hfr:fewR r={ r with evs:=EL,q:=q2,cur:=r.cur.take 1200 }:=by unfold fewR; rw [hel,HQE.out]
    refine ⟨⟨A5,EL.length,c5,z.C,cn,z.cc⟩,by rw [hfr],?_,hB9,by rw [hfr]; exact hO9.s (Nat.le_trans (Nat.le_add_right _ 2) hsw)⟩
    rw [hfr]
    obtain ⟨A6,c6,e6,hev⟩:=hO9.at_ (by rw [← hel,List.length_map,List.length_take]; omega) (by rw [← hel]; rw [hel]; exact HFO.out.1)
    injection e6 with e7 _ e8
    subst e7 e8
    refine ⟨hev,⟨?_,fun hn=>?_⟩,⟨by have:=HCN.out.1; have:=HCE.out; show cn≤_; omega,by have:=HCN.out.2.1; have:=HCE.out; show cn≤z.cc; omega,HCN.out.2.2⟩,HFO.out.2,HRQ.out.nw,HRQ.out.wd⟩
    ·have h1:=HCU.out.1
     rw [bv_len] at h1
     show (bv (r.cur.take 1200)).length=cn * 1
     rw [bv_len,List.length_take]
     have:=HCE.out
     omega
    ·have hn' : 0<cn:=hn
     obtain ⟨bb,oo,e9,hlt,hcc⟩:=HCU.out.2 (by have:=HCE.out; omega)
     refine ⟨bb,oo,e9,Nat.lt_of_lt_of_le hlt hB9.size,fun j u hj=>(hB9.cell (p:=⟨bb,oo+j,none⟩) hlt).trans (hcc j u ?_)⟩
     have hj':(bv (r.cur.take 1200))[j]?=some u:=hj
     unfold bv at hj' ⊢
     rw [List.map_take,List.getElem?_take] at hj'
     split at hj'
     ·exact hj'
     ·cases hj'
   ·have a1:¬ (k:Int)<(z.en:Int):=by omega
    clear hk1 hlt
    go_upto_region 15 with (fail)
    generalize wr.setCell ⟨w.heap.size,1,none⟩ (.slice A5 EL.length c5)=w3 at *
    clear p1f
    have p4:=HQ3.out.cell 4
    have p4f:=HQ3.out.frozen 4
    simp only [rqC,zA,zB,zC] at p4
    have HQ4:Hid (Blk (w3.setCell ⟨w.heap.size,4,none⟩ (.string (r.q.extract 0 1100))) w.heap.size 37 (rqC { r with evs:=EL,q:=r.q.extract 0 1100 } { z with E:=A5,en:=EL.length,ec:=c5 })):=zh (by
     have:=HQ3.out.set_ 4 (.string (r.q.extract 0 1100))
     simpa [rqC] using this)
    have HR4:=zh (HR3.out.far (p:=⟨w.heap.size,4,none⟩) hne (.string (r.q.extract 0 1100)))
    have HO4:Hid (EOwn (w3.setCell ⟨w.heap.size,4,none⟩ (.string (r.q.extract 0 1100))) w1.heap.size (.slice A5 EL.length c5) EL):=zh (HO3.out.kp (fun b hb=>Below.heap_setCell _ _ _ _ (fun e=>by
     have e:b=w.heap.size:=e
     subst e
     rcases hb with hb | hb
     ·exact absurd (hb.one ⟨_,_,HQ3.out⟩) (by decide)
     ·exact absurd (hb.one ⟨_,_,HQ3.out⟩) (by decide))))
    have HB4:=zh (HB3.out.setCell (p:=⟨w.heap.size,4,none⟩) (zG _) (.string (r.q.extract 0 1100)))
    go_upto_if 73 with (fail)
    go_cut [] from 70 to 77 (fun wx=>∃ q2:ByteArray,Hid (cutQ r.q=q2)∧Hid (Blk wx w.heap.size 37 (rqC { r with evs:=EL,q:=q2 } { z with E:=A5,en:=EL.length,ec:=c5 }))∧Hid (Blk wx (w.heap.size+1) 37 (rqC ⟨0,[],false,0,⟨#[]⟩,0,0,0,0,0,[]⟩ ⟨none,0,0,none,0,0⟩))∧Hid (EOwn wx w1.heap.size (.slice A5 EL.length c5) EL)∧Hid (Below w.heap.size w wx))
    case first =>
     by_cases ht : 1100<r.q.size
     ·have ht':(1100:Int)<(r.q.size:Int):=by omega
      go_wp2_with fail
      go_meet
      exact ⟨_,zh (if_pos ht),HQ4,HR4,HO4,HB4⟩
     ·have ht':¬ (1100:Int)<(r.q.size:Int):=by omega
      go_wp2_with fail
      go_meet
      exact ⟨_,zh (if_neg ht),HQ3,HR3,HO3,HB3⟩
    case rest =>
    obtain ⟨q2,HQE,HQ5,HR5,HO5,HB5⟩:=hcut
    clear HQ4 HR4 HO4 HB4 HQ3 HR3 HO3 HB3 p4 p4f
    obtain ⟨w4,rfl⟩:∃ w4:World,w4=wc:=⟨_,rfl⟩
    have p10:=HQ5.out.cell 10
    have p10f:=HQ5.out.frozen 10
    simp only [rqC,zA,zB,zC] at p10
    have hc2:=HCN.out.2.1
    have HQ6:Hid (Blk (w4.setCell ⟨w.heap.size,10,none⟩ (.slice z.C 1200 z.cc)) w.heap.size 37 (rqC { r with evs:=EL,q:=q2 } ⟨A5,EL.length,c5,z.C,1200,z.cc⟩)):=zh (by
     have:=HQ5.out.set_ 10 (.slice z.C 1200 z.cc)
     simpa [rqC] using this)
    have HR6:=zh (HR5.out.far (p:=⟨w.heap.size,10,none⟩) hne (.slice z.C 1200 z.cc))
    have HO6:Hid (EOwn (w4.setCell ⟨w.heap.size,10,none⟩ (.slice z.C 1200 z.cc)) w1.heap.size (.slice A5 EL.length c5) EL):=zh (HO5.out.kp (fun b hb=>Below.heap_setCell _ _ _ _ (fun e=>by
     have e:b=w.heap.size:=e
     subst e
     rcases hb with hb | hb
     ·exact absurd (hb.one ⟨_,_,HQ5.out⟩) (by decide)
     ·exact absurd (hb.one ⟨_,_,HQ5.out⟩) (by decide))))
    have HB6:=zh (HB5.out.setCell (p:=⟨w.heap.size,10,none⟩) (zG _) (.slice z.C 1200 z.cc))
    go_upto_if 81 with (fail)
    go_cut [] from 78 to 85 (fun wx=>∃ cn:Nat,Hid (min 1200 z.cn=cn)∧Hid (Blk wx w.heap.size 37 (rqC { r with evs:=EL,q:=q2 } ⟨A5,EL.length,c5,z.C,cn,z.cc⟩))∧Hid (Blk wx (w.heap.size+1) 37 (rqC ⟨0,[],false,0,⟨#[]⟩,0,0,0,0,0,[]⟩ ⟨none,0,0,none,0,0⟩))∧Hid (EOwn wx w1.heap.size (.slice A5 EL.length c5) EL)∧Hid (Below w.heap.size w wx))
    case first =>
     by_cases ht : 1200<z.cn
     ·have ht':(1200:Int)<(z.cn:Int):=by omega
      have ht2:(1200:Int)≤(z.cc:Int):=by omega
      go_wp2_with fail
      go_meet
      exact ⟨_,zh (by omega),HQ6,HR6,HO6,HB6⟩
     ·have ht':¬ (1200:Int)<(z.cn:Int):=by omega
      go_wp2_with fail
      go_meet
      exact ⟨z.cn,zh (by omega),HQ5,HR5,HO5,HB5⟩
    case rest =>
    obtain ⟨cn,HCE,HQ7,HR7,HO7,HB7⟩:=hcut
    clear HQ6 HR6 HO6 HB6 HQ5 HR5 HO5 HB5 p10 p10f hc2
    have m0:=HQ7.out.cell 0
    have m1:=HQ7.out.cell 1
    have m2:=HQ7.out.cell 2
    have m3:=HQ7.out.cell 3
    have m4:=HQ7.out.cell 4
    have m5:=HQ7.out.cell 5
    have m6:=HQ7.out.cell 6
    have m7:=HQ7.out.cell 7
    have m8:=HQ7.out.cell 8
    have m9:=HQ7.out.cell 9
    have m10:=HQ7.out.cell 10
    simp only [rqC,zA,zB,zC] at m0 m1 m2 m3 m4 m5 m6 m7 m8 m9 m10
    have HX9:=zh (setRow_heap _ (w.heap.size+1) _ (rqC { r with evs:=EL,q:=q2 } ⟨A5,EL.length,c5,z.C,cn,z.cc⟩) _ _ HR7.out)
    go_wp2_with (refine wpList_store_row (o:=⟨none,.store 37 _ _,_,_,_,_⟩) rfl 37 _ _ rfl (w.heap.size+1) (rqC { r with evs:=EL,q:=q2 } ⟨A5,EL.length,c5,z.C,cn,z.cc⟩) rfl rfl 37 (rqC ⟨0,[],false,0,⟨#[]⟩,0,0,0,0,0,[]⟩ ⟨none,0,0,none,0,0⟩) HR7.out (by kernel_rfl) rfl (by simp [rqC,Value.oneCell']) ?_)
    refine bodyPost_ret (results_cell rfl rfl (run_loadVar_row _ (w.heap.size+1) 37 37 _ (0,0) _ HX9.out Tryz.underlying37 rfl (by kernel_rfl))) rfl ?_
    have hB9:=below_setRow HB7.out (Nat.le_succ w.heap.size) (rqC { r with evs:=EL,q:=q2 } ⟨A5,EL.length,c5,z.C,cn,z.cc⟩)
    have hO9:=HO7.out.kp (w':=wc.setRow (w.heap.size+1) (rqC { r with evs:=EL,q:=q2 } ⟨A5,EL.length,c5,z.C,cn,z.cc⟩)) (fun b hb=>setRow_other _ _ b _ (fun e=>by
     subst e
     rcases hb with hb | hb
     ·exact absurd (hb.one ⟨_,_,HR7.out⟩) (by decide)
     ·exact absurd (hb.one ⟨_,_,HR7.out⟩) (by decide)))
    have hfr:fewR r={ r with evs:=EL,q:=q2,cur:=r.cur.take 1200 }:=by unfold fewR; rw [hel,HQE.out]
    refine ⟨⟨A5,EL.length,c5,z.C,cn,z.cc⟩,by rw [hfr],?_,hB9,by rw [hfr]; exact hO9.s (Nat.le_trans (Nat.le_add_right _ 2) hsw)⟩
    rw [hfr]
    obtain ⟨A6,c6,e6,hev⟩:=hO9.at_ (by rw [← hel,List.length_map,List.length_take]; omega) (by rw [← hel]; rw [hel]; exact HFO.out.1)
    injection e6 with e7 _ e8
    subst e7 e8
    refine ⟨hev,⟨?_,fun hn=>?_⟩,⟨by have:=HCN.out.1; have:=HCE.out; show cn≤_; omega,by have:=HCN.out.2.1; have:=HCE.out; show cn≤z.cc; omega,HCN.out.2.2⟩,HFO.out.2,HRQ.out.nw,HRQ.out.wd⟩
    ·have h1:=HCU.out.1
     rw [bv_len] at h1
     show (bv (r.cur.take 1200)).length=cn * 1
     rw [bv_len,List.length_take]
     have:=HCE.out
     omega
    ·have hn' : 0<cn:=hn
     obtain ⟨bb,oo,e9,hlt,hcc⟩:=HCU.out.2 (by have:=HCE.out; omega)
     refine ⟨bb,oo,e9,Nat.lt_of_lt_of_le hlt hB9.size,fun j u hj=>(hB9.cell (p:=⟨bb,oo+j,none⟩) hlt).trans (hcc j u ?_)⟩
     have hj':(bv (r.cur.take 1200))[j]?=some u:=hj
     unfold bv at hj' ⊢
     rw [List.map_take,List.getElem?_take] at hj'
     split at hj'
     ·exact hj'
     ·cases hj'
end Go.Proofs.YtmomjpolkkbhnaaGreat.Md


