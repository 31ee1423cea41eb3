/- The document's field, Match: the walks. -/
import Derived.Test.YtlfpfkallgkjdaaGreatQAlertBatchesRow27
import Derived.Test.YtlfpfkallgkjdaaGreatQAlertBatchesRow2
import Derived.Test.YtlfpfkallgkjdaaGreatQAlertBatchesRow0
set_option linter.unusedSimpArgs false
set_option maxRecDepth 20000
namespace Go.Proofs.YtlfpfkallgkjdaaGreat.Qy
open Go.RowKit Ut Tk
theorem words_small (s:ByteArray):∀ x∈words s.data.toList,x.length≤1048576:=fun x hx=>by
 have:=(words_word s.data.toList x hx).2
 omega
set_option maxHeartbeats 1600000 in
theorem field_ref (k:Int) (hk:k=2∨k=3∨k=4) (nm:ByteArray) (ws:List ByteArray) (WA CA:Option Addr) (m wc n c2:Nat) (y:ByteArray) (w:World) (hy:y.size≤1048576)
  (hW:Reads w w.heap.size 1 WA m (ws.map Value.string)) (hm:ws.length=m) (hm2:m≤8796093021952) :
  Calls Tryz.prog 53 #[.agg #[.int .i64 k,.string nm,.slice WA m wc,.slice CA n c2],.string y] w fun e w'=>e=.returned (.bool (leafT k ws (words y.data.toList)))∧Below w.heap.size w w':=by
 have hb2:Below w.heap.size w (w.alloc (.cells #[.int .i64 k,.string nm,.slice WA m wc,.slice CA n c2] 52)):=(Below.refl _ _).alloc (zG _) _
 have hQ:=Blk.new w 52 #[.int .i64 k,.string nm,.slice WA m wc,.slice CA n c2]
 have hW2:=reads_grow hb2 hW
 have c0:=tokens_ref y (w.alloc (.cells #[.int .i64 k,.string nm,.slice WA m wc,.slice CA n c2] 52)) hy
 have hwl:=words_len y
 have hws:=words_small y
 have HW:=zh hW2
 have HQ:=zh hQ
 have Hb2:=zh hb2
 have Hws:=zh hws
 have Hm:=zh hm
 clear hW hb2 hQ hW2 hws hm
 generalize words y.data.toList=T at *
 rcases hk with rfl | rfl | rfl
 ·by_cases h1:m=1
  ·have h1':((m:Int) == 1)=true:=by rw [beq_iff_eq]; omega
   have e:leafT 2 ws T=decide (0<(phr T ws).length):=by unfold leafT; simp [Hm.out,h1]
   rw [e]
   generalize hP:phr T ws=P
   have HP:=zh hP
   clear e h1 hP
   go_enter Tryz.func53,Tryz.ntmps53
   go_wp2_with fail
   refine c0.mono ?_
   rintro e w2 ⟨v,rfl,hown,hb⟩
   obtain ⟨A,c,rfl,hR⟩:=own_shape hown
   have hq:=HQ.out.below hb (by simp)
   have hq0:=hq.cell 0
   have hq2:=hq.cell 2
   simp at hq0 hq2
   have hRw:=reads_grow hb HW.out
   have hz:=hq.lt
   have c1:=fun wx (hbx:Below w2.heap.size w2 wx)=>phrase_ref A T.length c T WA m wc ws wx (reads_grow hbx hR) rfl (by omega) (reads_grow hbx hRw) Hm.out hm2
   simp only [HP.out] at c1
   have C1:=zh c1
   have Hb:=zh (Hb2.out.trans (hb.mono Hb2.out.size))
   clear hown hR hq hRw c1 hb c0
   go_wp2_with fail
   refine (C1.out w2 (Below.refl _ _)).mono ?_
   rintro e w3 ⟨v3,rfl,hI⟩
   obtain ⟨A3,c3,rfl,_⟩:=own_shape hI.own
   have Hb3:=zh (Hb.out.trans (hI.bel.mono Hb.out.size))
   clear hI
   go_wp2
   go_ret
   exact ⟨by simp,Hb3.out⟩
  ·have h1':((m:Int) == 1)=false:=by rw [beq_eq_false_iff_ne]; omega
   have e:leafT 2 ws T=false:=by unfold leafT; simp [Hm.out,h1]
   rw [e]
   clear e h1
   go_enter Tryz.func53,Tryz.ntmps53
   go_wp2_with fail
   refine c0.mono ?_
   rintro e w2 ⟨v,rfl,hown,hb⟩
   obtain ⟨A,c,rfl,hR⟩:=own_shape hown
   have hq:=HQ.out.below hb (by simp)
   have hq0:=hq.cell 0
   have hq2:=hq.cell 2
   simp at hq0 hq2
   have hRw:=reads_grow hb HW.out
   have hz:=hq.lt
   have Hb:=zh (Hb2.out.trans (hb.mono Hb2.out.size))
   clear hown hR hq hRw hb c0
   go_wp2
   go_ret
   exact ⟨rfl,Hb.out⟩
 ·by_cases h1:m=1
  ·obtain ⟨p,rfl⟩:∃ p,ws=[p]:=List.length_eq_one_iff.1 (by rw [Hm.out,h1])
   obtain rfl:m=1:=h1
   have e:leafT 3 [p] T=T.any (begins · p):=by unfold leafT; simp
   rw [e]
   generalize hP:T.any (begins · p)=P
   have HP:=zh hP
   clear e hP
   go_enter Tryz.func53,Tryz.ntmps53
   go_wp2_with fail
   refine c0.mono ?_
   rintro e w2 ⟨v,rfl,hown,hb⟩
   obtain ⟨A,c,rfl,hR⟩:=own_shape hown
   have hq:=HQ.out.below hb (by simp)
   have hq0:=hq.cell 0
   have hq2:=hq.cell 2
   simp at hq0 hq2
   have hRw:=reads_grow hb HW.out
   have hz:=hq.lt
   obtain ⟨b,o,hl,rfl,hbb,hc⟩:=hRw.at_map (k:=0) (by omega)
   simp at hc
   have c1:=prefixed_ref A T.length c T p w2 hR rfl (by omega) Hws.out
   have Hb:=zh (Hb2.out.trans (hb.mono Hb2.out.size))
   rw [HP.out] at c1
   clear hown hR hq hRw hb c0
   go_wp2_with fail
   refine c1.mono ?_
   rintro e w3 ⟨rfl,rfl⟩
   go_wp2
   go_ret
   exact ⟨rfl,Hb.out⟩
  ·have h1':((m:Int) == 1)=false:=by rw [beq_eq_false_iff_ne]; omega
   have e:leafT 3 ws T=false:=by
    unfold leafT
    simp only [if_true]
    split
    ·exact absurd Hm.out (by simp; omega)
    ·rfl
   rw [e]
   clear e h1
   go_enter Tryz.func53,Tryz.ntmps53
   go_wp2_with fail
   refine c0.mono ?_
   rintro e w2 ⟨v,rfl,hown,hb⟩
   obtain ⟨A,c,rfl,hR⟩:=own_shape hown
   have hq:=HQ.out.below hb (by simp)
   have hq0:=hq.cell 0
   have hq2:=hq.cell 2
   simp at hq0 hq2
   have hRw:=reads_grow hb HW.out
   have hz:=hq.lt
   have Hb:=zh (Hb2.out.trans (hb.mono Hb2.out.size))
   clear hown hR hq hRw hb c0
   go_wp2
   go_ret
   exact ⟨rfl,Hb.out⟩
 ·have e:leafT 4 ws T=decide (0<(phr T ws).length):=by unfold leafT; simp
  rw [e]
  generalize hP:phr T ws=P
  have HP:=zh hP
  clear e hP
  go_enter Tryz.func53,Tryz.ntmps53
  go_wp2_with fail
  refine c0.mono ?_
  rintro e w2 ⟨v,rfl,hown,hb⟩
  obtain ⟨A,c,rfl,hR⟩:=own_shape hown
  have hq:=HQ.out.below hb (by simp)
  have hq0:=hq.cell 0
  have hq2:=hq.cell 2
  simp at hq0 hq2
  have hRw:=reads_grow hb HW.out
  have hz:=hq.lt
  have c1:=fun wx (hbx:Below w2.heap.size w2 wx)=>phrase_ref A T.length c T WA m wc ws wx (reads_grow hbx hR) rfl (by omega) (reads_grow hbx hRw) Hm.out hm2
  simp only [HP.out] at c1
  have C1:=zh c1
  have Hb:=zh (Hb2.out.trans (hb.mono Hb2.out.size))
  clear hown hR hq hRw c1 hb c0
  go_wp2_with fail
  refine (C1.out w2 (Below.refl _ _)).mono ?_
  rintro e w3 ⟨v3,rfl,hI⟩
  obtain ⟨A3,c3,rfl,_⟩:=own_shape hI.own
  have Hb3:=zh (Hb.out.trans (hI.bel.mono Hb.out.size))
  clear hI
  go_wp2
  go_ret
  exact ⟨by simp,Hb3.out⟩
def RMatchOk (fs:List (ByteArray × ByteArray)) (q:Q):Prop:=∀ (w:World) (a0 a1 a2 a3:Value) (t:Int) (F:Option Addr) (fn fc:Nat),QAt w w.heap.size q [a0,a1,a2,a3]→EvAt w F fn fs →
 Calls Tryz.prog 23 #[.agg #[a0,a1,a2,a3],.agg #[.int .i64 t,.slice F fn fc]] w fun e w'=>e=.returned (.bool (matchB fs q))∧Below w.heap.size w w'
structure MAt (W:World) (qb eb:Nat) (k:Int) (nm:ByteArray) (ws:List ByteArray) (l:List Q) (WA:Option Addr) (m wc:Nat) (CA:Option Addr) (n c2:Nat) (t:Int) (F:Option Addr) (fn fc:Nat) (fs:List (ByteArray × ByteArray)):Prop where
 q:Blk W qb 52 #[.int .i64 k,.string nm,.slice WA m wc,.slice CA n c2]
 e:Blk W eb 33 #[.int .i64 t,.slice F fn fc]
 ev:EvAt W F fn fs
 at_:QAt W W.heap.size (.mk k nm ws l) [.int .i64 k,.string nm,.slice WA m wc,.slice CA n c2]
section
variable {W W':World} {qb eb:Nat} {k:Int} {nm:ByteArray} {ws:List ByteArray} {l:List Q} {WA:Option Addr} {m wc:Nat} {CA:Option Addr} {n c2:Nat} {t:Int} {F:Option Addr} {fn fc:Nat} {fs:List (ByteArray × ByteArray)}
theorem MAt.grow (h:MAt W qb eb k nm ws l WA m wc CA n c2 t F fn fc fs) (hb:Below W.heap.size W W'):MAt W' qb eb k nm ws l WA m wc CA n c2 t F fn fc fs :=
 ⟨h.q.below hb h.q.lt,h.e.below hb h.e.lt,h.ev.grow hb,h.at_.grow hb⟩
theorem MAt.is (h:MAt W qb eb k nm ws l WA m wc CA n c2 t F fn fc fs):QIs W W.heap.size k nm ws l WA m CA n:=by
 obtain ⟨WA',m',wc',CA',n',c2',e,hI⟩:=h.at_.is
 simp only [List.cons.injEq,Value.slice.injEq,and_true,true_and] at e
 obtain ⟨⟨rfl,rfl,rfl⟩,rfl,rfl,rfl⟩:=e
 exact hI
end
theorem any_take_succ {α:Type} (l:List α) (g : α→Bool) (i:Nat) (h:i<l.length):(l.take (i+1)).any g=((l.take i).any g || g l[i]):=by
 rw [List.take_succ_eq_append_getElem h,List.any_append]
 simp
theorem all_take_succ {α:Type} (l:List α) (g : α→Bool) (i:Nat) (h:i<l.length):(l.take (i+1)).all g=((l.take i).all g && g l[i]):=by
 rw [List.take_succ_eq_append_getElem h,List.all_append]
 simp
set_option maxHeartbeats 3200000 in
theorem rmatch_step (fs:List (ByteArray × ByteArray)) (k:Int) (nm:ByteArray) (ws:List ByteArray) (l:List Q) (hl2:ws.length≤8796093021952) (hl3:l.length≤8796093021952) (ih:∀ x∈l,RMatchOk fs x):RMatchOk fs (.mk k nm ws l):=by
 intro w a0 a1 a2 a3 t F fn fc hq hF
 obtain ⟨WA,m,wc,CA,n,c2,e,hI⟩:=hq.is
 simp only [List.cons.injEq,and_true] at e
 obtain ⟨rfl,rfl,rfl,rfl⟩:=e
 have hbq:Below w.heap.size w (w.alloc (.cells #[.int .i64 k,.string nm,.slice WA m wc,.slice CA n c2] 52)):=(Below.refl _ _).alloc (zG _) _
 have hb3:Below w.heap.size w ((w.alloc (.cells #[.int .i64 k,.string nm,.slice WA m wc,.slice CA n c2] 52)).alloc (.cells #[.int .i64 t,.slice F fn fc] 33)):=hbq.alloc hbq.size _
 have z1:(w.alloc (.cells #[.int .i64 k,.string nm,.slice WA m wc,.slice CA n c2] 52)).heap.size=w.heap.size+1:=by simp
 have hQ3:=((Blk.new w 52 #[.int .i64 k,.string nm,.slice WA m wc,.slice CA n c2]).alloc (.cells #[.int .i64 t,.slice F fn fc] 33))
 have hE3:=Blk.new (w.alloc (.cells #[.int .i64 k,.string nm,.slice WA m wc,.slice CA n c2] 52)) 33 #[.int .i64 t,.slice F fn fc]
 rw [z1] at hE3
 have HM:Hid (MAt ((w.alloc (.cells #[.int .i64 k,.string nm,.slice WA m wc,.slice CA n c2] 52)).alloc (.cells #[.int .i64 t,.slice F fn fc] 33)) w.heap.size (w.heap.size+1) k nm ws l WA m wc CA n c2 t F fn fc fs):=zh ⟨hQ3,hE3,hF.grow hb3,hq.grow hb3⟩
 have Hb3:=zh hb3
 have hlm:=hI.lm
 have hwn:=hI.wn
 have hfn:=hF.len
 have hff:=hF.few
 have z3:w.heap.size+1<(World.heap ((w.alloc (.cells #[.int .i64 k,.string nm,.slice WA m wc,.slice CA n c2] 52)).alloc (.cells #[.int .i64 t,.slice F fn fc] 33))).size:=by simp
 clear hq hF hI hbq hb3 z1 hQ3 hE3
 by_cases k1:k=1
 ·subst k1
  have Fin:Hid (matchB fs (.mk 1 nm ws l)=true):=zh (by rw [matchB_eq]; simp)
  rw [Fin.out]
  clear hlm hwn hfn ih
  go_enter Tryz.func23,Tryz.ntmps23
  go_wp2
  go_ret
  exact ⟨rfl,Hb3.out⟩
 by_cases k234:k=2∨k=3∨k=4
 ·have Fin:Hid (matchB fs (.mk k nm ws l)=leafB k nm ws fs):=zh (by rw [matchB_eq,if_neg k1,if_pos k234])
  rw [Fin.out]
  have Hfn:=zh hfn
  have Hwn:=zh hwn
  have hm2:m≤8796093021952:=by omega
  obtain ⟨g,hg⟩:∃ g,g=leafT k ws:=⟨_,rfl⟩
  have hLb:leafB k nm ws fs=fs.any (fun f=>f.1.data.toList == nm.data.toList && g (words f.2.data.toList)):=by rw [hg]; rfl
  have Fld:=zh (fun (y:ByteArray) (wx:World) hy hr=>(show Calls Tryz.prog 53 #[.agg #[.int .i64 k,.string nm,.slice WA m wc,.slice CA n c2],.string y] wx (fun e w'=>e=.returned (.bool (g (words y.data.toList)))∧Below wx.heap.size wx w') by rw [hg]; exact field_ref k k234 nm ws WA CA m wc n c2 y wx hy hr Hwn.out hm2))
  rw [hLb]
  obtain ⟨P,hP⟩:∃ P:World→Prop,∀ wr,P wr↔MAt wr w.heap.size (w.heap.size+1) k nm ws l WA m wc CA n c2 t F fn fc fs:=⟨_,fun _=>Iff.rfl⟩
  have HP:=zh hP
  clear hlm ih Fin hl2 hl3 hfn hwn hg hLb hP
  generalize hL:fs.any (fun f=>f.1.data.toList == nm.data.toList && g (words f.2.data.toList))=L
  have HL:=zh hL
  clear hL
  rcases k234 with rfl | rfl | rfl
  all_goals
   clear k1
   go_enter Tryz.func23,Tryz.ntmps23
   go_wp2_with fail
   go_loopw [5] (fun i wr=>∃ j:Nat,j≤fn∧i=.int .i64 j∧(fs.take j).any (fun f=>f.1.data.toList == nm.data.toList && g (words f.2.data.toList))=false∧P wr∧Below w.heap.size w wr) (fun i _=>fn - (intOf i).toNat)
   case atStart=>exact ⟨0,Nat.zero_le _,rfl,rfl,(HP.out _).2 HM.out,Hb3.out⟩
   case round =>
    obtain ⟨j,hj,rfl,hal,hm,hb⟩:=hrel
    have HMr:=zh ((HP.out wr).1 hm)
    have Hal:=zh hal
    have Hbr:=zh hb
    clear hal hb hm
    have he1:=HMr.out.e.cell 1
    simp at he1
    by_cases hlt:j<fn
    ·obtain ⟨tb,tq,rfl,htb,hc1,hc2⟩:=fields_at HMr.out.ev.rd (k:=j) (by rw [Hfn.out]; exact hlt)
     have hjl:j<fs.length:=by rw [Hfn.out]; exact hlt
     have hat:=any_take_succ fs (fun f=>f.1.data.toList == nm.data.toList && g (words f.2.data.toList)) j hjl
     rw [Hal.out,Bool.false_or] at hat
     have hxe:(fs[j].1.data.toList == nm.data.toList)=(fs[j].1.toList == nm.toList):=by rw [tl,tl]
     rw [hxe] at hat
     have hsz:=HMr.out.ev.sz _ (List.getElem_mem hjl)
     have hmem:fs[j]∈fs:=List.getElem_mem hjl
     have Hmem:Hid ((fs[j].1.toList == nm.toList && g (words fs[j].2.data.toList))=true→L=true):=zh (fun e=>HL.out ▸ List.any_eq_true.2 ⟨_,hmem,by rw [hxe]; exact e⟩)
     have c1:=fun wx (hC:Below wr.heap.size wr wx)=>Fld.out fs[j].2 wx hsz (HMr.out.grow hC).is.wds
     have hcells:∀ wx,Below wr.heap.size wr wx→wx.cell? ⟨w.heap.size,0,none⟩=some (.int .i64 _)∧wx.cell? ⟨w.heap.size,1,none⟩=some (.string nm)∧wx.cell? ⟨w.heap.size,2,none⟩=some (.slice WA m wc)∧wx.cell? ⟨w.heap.size,3,none⟩=some (.slice CA n c2) ∧
       wx.cell? ⟨w.heap.size+1,1,none⟩=some (.slice (some ⟨tb,tq,none⟩) fn fc)∧wx.cell? ⟨tb,tq+j * 2,none⟩=some (.string fs[j].1)∧wx.cell? ⟨tb,tq+j * 2+1,none⟩=some (.string fs[j].2):=fun wx hC =>
      ⟨(HMr.out.grow hC).q.cell 0,(HMr.out.grow hC).q.cell 1,(HMr.out.grow hC).q.cell 2,(HMr.out.grow hC).q.cell 3,(HMr.out.grow hC).e.cell 1,(hC.cell (p:=⟨tb,tq+j * 2,none⟩) htb).trans hc1,(hC.cell (p:=⟨tb,tq+j * 2+1,none⟩) htb).trans hc2⟩
     have hi0:(0:Int)≤(j:Int):=by omega
     have hi1:(j:Int)<(fn:Int):=by omega
     have C1:=zh c1
     have hcells':=zh hcells
     have Hat:=zh hat
     have Hnp:Hid (∀ wx,Below wr.heap.size wr wx→P wx):=zh (fun wx hC=>(HP.out wx).2 (HMr.out.grow hC))
     clear c1 hcells hat hmem hsz hc1 hc2 hxe
     generalize g (words fs[j].2.data.toList)=r at *
     generalize fs[j].1=x at *
     generalize fs[j].2=y at *
     by_cases hxy:(x.toList == nm.toList)=true
     ·go_wp2_with fail
      refine wp_region_grow (specOf [(17,⟨Unit,fun _=>(.bool r),fun _ _=>True⟩)]) (fun wx=>Below (World.heap wr).size wr wx) (fun w1 w2=>Below w1.heap.size w1 w2) (by kernel_rfl) (by kernel_rfl) (stab_cons (fun _ _ _ _ h=>h) (stab_nil)) (Below.refl _ _).drew ?_
      iterate 17
       refine grow_fix _ ?_ rfl (by rfl) (by rfl) (fun wx hC hD=>?_) ?_
       rotate_left
       ·have hSw:=hcells'.out wx hC
        go_simp
        all_goals with_reducible rfl
       try simp only [Act.put,zD,zE,zF]
      refine grow_give 18 _ rfl (by rfl) (by rfl) (fun wx hC hD=>?_) (fun x=>?_)
      ·refine give_enter (f:=?_) (args:=?_) ?_ ?_
       rotate_left 2
       ·have hSw:=hcells'.out wx hC
        go_simp
        all_goals first | with_reducible rfl | (refine ⟨?_,?_⟩ <;> with_reducible rfl)
       exact calls_cst hC (C1.out wx hC)
      obtain ⟨⟩:=x
      try simp only [Act.put,zD,zE,zF]
      refine grow_fix 19 ?_ rfl (by rfl) (by rfl) (fun wx hC hD=>?_) ?_
      rotate_left
      ·have hSw:=hcells'.out wx hC
       go_simp
       all_goals with_reducible rfl
      try simp only [Act.put,zD,zE,zF]
      refine grow_nil (fun w4 hC hF=>?_)
      have Hf:=zh (Hbr.out.trans (hC.mono Hbr.out.size))
      have HPn:=zh (Hnp.out _ hC)
      clear hF hC
      cases r with
      | true =>
       have Fin:=zh (Hmem.out (by rw [hxy]; rfl))
       go_wp2
       go_ret
       exact ⟨by rw [Fin.out]; rfl,Hf.out⟩
      | false =>
       have Hnx:=zh (Hat.out.trans (by rw [Bool.and_false]))
       go_wp2
       go_roundw
       case rel=>exact ⟨j+1,by omega,by go_num,Hnx.out,HPn.out,Hf.out⟩
       case measure=>simp [intOf]; omega
     ·have hxf:(x.toList == nm.toList)=false:=Bool.eq_false_iff.2 hxy
      have Hnx:=zh (Hat.out.trans (by rw [hxf,Bool.false_and]))
      clear hxy
      go_wp2_with fail
      refine wp_region_grow (specOf []) (fun wx=>Below (World.heap wr).size wr wx) (fun w1 w2=>Below w1.heap.size w1 w2) (by kernel_rfl) (by kernel_rfl) (stab_nil) (Below.refl _ _).drew ?_
      iterate 10
       refine grow_fix _ ?_ rfl (by rfl) (by rfl) (fun wx hC hD=>?_) ?_
       rotate_left
       ·have hSw:=hcells'.out wx hC
        go_simp
        all_goals with_reducible rfl
       try simp only [Act.put,zD,zE,zF]
      refine grow_skip 11 (some false) true rfl (by rfl) (by rfl) (by rfl) ?_
      try simp only [Act.put,zD,zE,zF]
      refine grow_skip 12 (some false) true rfl (by rfl) (by rfl) (by rfl) ?_
      try simp only [Act.put,zD,zE,zF]
      refine grow_skip 13 (some false) true rfl (by rfl) (by rfl) (by rfl) ?_
      try simp only [Act.put,zD,zE,zF]
      refine grow_skip 14 (some false) true rfl (by rfl) (by rfl) (by rfl) ?_
      try simp only [Act.put,zD,zE,zF]
      refine grow_skip 15 (some false) true rfl (by rfl) (by rfl) (by rfl) ?_
      try simp only [Act.put,zD,zE,zF]
      refine grow_skip 16 (some false) true rfl (by rfl) (by rfl) (by rfl) ?_
      try simp only [Act.put,zD,zE,zF]
      refine grow_skip 17 (some false) true rfl (by rfl) (by rfl) (by rfl) ?_
      try simp only [Act.put,zD,zE,zF]
      refine grow_skip 18 (some false) true rfl (by rfl) (by rfl) (by rfl) ?_
      try simp only [Act.put,zD,zE,zF]
      refine grow_fix 19 ?_ rfl (by rfl) (by rfl) (fun wx hC hD=>?_) ?_
      rotate_left
      ·have hSw:=hcells'.out wx hC
       go_simp
       all_goals with_reducible rfl
      try simp only [Act.put,zD,zE,zF]
      refine grow_nil (fun w4 hC hF=>?_)
      have Hf:=zh (Hbr.out.trans (hC.mono Hbr.out.size))
      have HPn:=zh (Hnp.out _ hC)
      clear hF hC
      go_wp2
      go_roundw
      case rel=>exact ⟨j+1,by omega,by go_num,Hnx.out,HPn.out,Hf.out⟩
      case measure=>simp [intOf]; omega
    ·obtain rfl:j=fn:=by omega
     have Fin:Hid (L=false):=zh (by have:=Hal.out; rw [List.take_of_length_le (by rw [Hfn.out]; exact zG _)] at this; exact HL.out ▸ this)
     go_wp2
     go_ret
     exact ⟨by rw [Fin.out]; rfl,Hbr.out⟩
 by_cases k5:k=5
 ·subst k5
  have Fin:Hid (matchB fs (.mk 5 nm ws l)=l.all (matchB fs)):=zh (by rw [matchB_eq]; simp)
  rw [Fin.out]
  have Hln:=zh hlm
  have Ih:=zh ih
  clear hwn hfn Fin hl2 ih hlm k1 k234
  go_enter Tryz.func23,Tryz.ntmps23
  go_wp2_with fail
  go_loopw [6] (fun i wr=>∃ j:Nat,j≤n∧i=.int .i64 j∧(l.take j).all (matchB fs)=true∧Below (World.heap ((w.alloc (.cells #[.int .i64 5,.string nm,.slice WA m wc,.slice CA n c2] 52)).alloc (.cells #[.int .i64 t,.slice F fn fc] 33))).size ((w.alloc (.cells #[.int .i64 5,.string nm,.slice WA m wc,.slice CA n c2] 52)).alloc (.cells #[.int .i64 t,.slice F fn fc] 33)) wr) (fun i _=>n - (intOf i).toNat)
  case atStart=>exact ⟨0,Nat.zero_le _,rfl,rfl,Below.refl _ _⟩
  case round =>
   obtain ⟨j,hj,rfl,hal,hb⟩:=hrel
   have HMr:=zh (HM.out.grow hb)
   have Hal:=zh hal
   have Hbr:=zh (Hb3.out.trans (hb.mono Hb3.out.size))
   have Hb:=zh hb
   have hq3:=HMr.out.q.cell 3
   simp at hq3
   clear hal hb
   by_cases hlt:j<n
   ·have hjl:j<l.length:=by rw [Hln.out]; exact hlt
    obtain ⟨tb,tq,A',n',c',C',m',d',e1,htb,hqx,g0,g1,g2,g3⟩:=HMr.out.is.at_ (i:=j) hjl
    subst e1
    have hat:=all_take_succ l (matchB fs) j hjl
    rw [Hal.out,Bool.true_and] at hat
    have hmem:l[j]∈l:=List.getElem_mem hjl
    have Hmem:Hid (matchB fs l[j]=false→l.all (matchB fs)=false):=zh (fun e=>List.all_eq_false.2 ⟨_,hmem,by rw [e]; decide⟩)
    have c1:=fun wx (hC:Below wr.heap.size wr wx)=>Ih.out l[j] hmem wx _ _ _ _ t F fn fc (hqx.grow hC) (HMr.out.grow hC).ev
    have hcells:∀ wx,Below wr.heap.size wr wx→wx.cell? ⟨w.heap.size,3,none⟩=some (.slice (some ⟨tb,tq,none⟩) n c2)∧wx.cell? ⟨w.heap.size+1,0,none⟩=some (.int .i64 t)∧wx.cell? ⟨w.heap.size+1,1,none⟩=some (.slice F fn fc) ∧
      wx.cell? ⟨tb,tq+j * 4,none⟩=some (.int .i64 l[j].kind)∧wx.cell? ⟨tb,tq+j * 4+1,none⟩=some (.string l[j].name)∧wx.cell? ⟨tb,tq+j * 4+2,none⟩=some (.slice A' n' c')∧wx.cell? ⟨tb,tq+j * 4+3,none⟩=some (.slice C' m' d'):=fun wx hC =>
     ⟨(HMr.out.grow hC).q.cell 3,(HMr.out.grow hC).e.cell 0,(HMr.out.grow hC).e.cell 1,(hC.cell (p:=⟨tb,tq+j * 4,none⟩) htb).trans g0,(hC.cell (p:=⟨tb,tq+j * 4+1,none⟩) htb).trans g1,(hC.cell (p:=⟨tb,tq+j * 4+2,none⟩) htb).trans g2,(hC.cell (p:=⟨tb,tq+j * 4+3,none⟩) htb).trans g3⟩
    have hi0:(0:Int)≤(j:Int):=by omega
    have hi1:(j:Int)<(n:Int):=by omega
    have C1:=zh c1
    have hcells':=zh hcells
    have Hat:=zh hat
    clear c1 hcells hat hmem g0 g1 g2 g3 hqx
    generalize matchB fs l[j]=r at *
    generalize l[j].kind=x0 at *
    generalize l[j].name=x1 at *
    go_wp2_with fail
    refine wp_region_grow (specOf [(6,⟨Unit,fun _=>(.bool r),fun _ _=>True⟩)]) (fun wx=>Below (World.heap wr).size wr wx) (fun w1 w2=>Below w1.heap.size w1 w2) (by kernel_rfl) (by kernel_rfl) (stab_cons (fun _ _ _ _ h=>h) (stab_nil)) (Below.refl _ _).drew ?_
    iterate 6
     refine grow_fix _ ?_ rfl (by rfl) (by rfl) (fun wx hC hD=>?_) ?_
     rotate_left
     ·have hSw:=hcells'.out wx hC
      go_simp
      all_goals with_reducible rfl
     try simp only [Act.put,zD,zE,zF]
    refine grow_give 7 _ rfl (by rfl) (by rfl) (fun wx hC hD=>?_) (fun x=>?_)
    ·refine give_enter (f:=?_) (args:=?_) ?_ ?_
     rotate_left 2
     ·have hSw:=hcells'.out wx hC
      go_simp
      all_goals first | with_reducible rfl | (refine ⟨?_,?_⟩ <;> with_reducible rfl)
     exact calls_cst hC (C1.out wx hC)
    obtain ⟨⟩:=x
    try simp only [Act.put,zD,zE,zF]
    refine grow_fix 8 ?_ rfl (by rfl) (by rfl) (fun wx hC hD=>?_) ?_
    rotate_left
    ·have hSw:=hcells'.out wx hC
     go_simp
     all_goals with_reducible rfl
    try simp only [Act.put,zD,zE,zF]
    refine grow_nil (fun w4 hC hF=>?_)
    have Hf:=zh (Hbr.out.trans (hC.mono Hbr.out.size))
    have Hg:=zh (Hb.out.trans (hC.mono Hb.out.size))
    clear hF hC
    cases r with
    | false =>
     have Fin:=zh (Hmem.out rfl)
     go_wp2
     go_ret
     exact ⟨by rw [Fin.out]; rfl,Hf.out⟩
    | true =>
     have Hnx:=Hat
     go_wp2
     go_roundw
     case rel=>exact ⟨j+1,by omega,by go_num,Hnx.out,Hg.out⟩
     case measure=>simp [intOf]; omega
   ·obtain rfl:j=n:=by omega
    have Fin:Hid (l.all (matchB fs)=true):=zh (by have:=Hal.out; rwa [List.take_of_length_le (by rw [Hln.out]; exact zG _)] at this)
    go_wp2
    go_ret
    exact ⟨by rw [Fin.out]; rfl,Hbr.out⟩
 by_cases k6:k=6
 ·subst k6
  have Fin:Hid (matchB fs (.mk 6 nm ws l)=l.any (matchB fs)):=zh (by rw [matchB_eq]; simp)
  rw [Fin.out]
  have Hln:=zh hlm
  have Ih:=zh ih
  clear hwn hfn Fin hl2 ih hlm k1 k234
  go_enter Tryz.func23,Tryz.ntmps23
  go_wp2_with fail
  go_loopw [7] (fun i wr=>∃ j:Nat,j≤n∧i=.int .i64 j∧(l.take j).any (matchB fs)=false∧Below (World.heap ((w.alloc (.cells #[.int .i64 6,.string nm,.slice WA m wc,.slice CA n c2] 52)).alloc (.cells #[.int .i64 t,.slice F fn fc] 33))).size ((w.alloc (.cells #[.int .i64 6,.string nm,.slice WA m wc,.slice CA n c2] 52)).alloc (.cells #[.int .i64 t,.slice F fn fc] 33)) wr) (fun i _=>n - (intOf i).toNat)
  case atStart=>exact ⟨0,Nat.zero_le _,rfl,rfl,Below.refl _ _⟩
  case round =>
   obtain ⟨j,hj,rfl,hal,hb⟩:=hrel
   have HMr:=zh (HM.out.grow hb)
   have Hal:=zh hal
   have Hbr:=zh (Hb3.out.trans (hb.mono Hb3.out.size))
   have Hb:=zh hb
   have hq3:=HMr.out.q.cell 3
   simp at hq3
   clear hal hb
   by_cases hlt:j<n
   ·have hjl:j<l.length:=by rw [Hln.out]; exact hlt
    obtain ⟨tb,tq,A',n',c',C',m',d',e1,htb,hqx,g0,g1,g2,g3⟩:=HMr.out.is.at_ (i:=j) hjl
    subst e1
    have hat:=any_take_succ l (matchB fs) j hjl
    rw [Hal.out,Bool.false_or] at hat
    have hmem:l[j]∈l:=List.getElem_mem hjl
    have Hmem:Hid (matchB fs l[j]=true→l.any (matchB fs)=true):=zh (fun e=>List.any_eq_true.2 ⟨_,hmem,e⟩)
    have c1:=fun wx (hC:Below wr.heap.size wr wx)=>Ih.out l[j] hmem wx _ _ _ _ t F fn fc (hqx.grow hC) (HMr.out.grow hC).ev
    have hcells:∀ wx,Below wr.heap.size wr wx→wx.cell? ⟨w.heap.size,3,none⟩=some (.slice (some ⟨tb,tq,none⟩) n c2)∧wx.cell? ⟨w.heap.size+1,0,none⟩=some (.int .i64 t)∧wx.cell? ⟨w.heap.size+1,1,none⟩=some (.slice F fn fc) ∧
      wx.cell? ⟨tb,tq+j * 4,none⟩=some (.int .i64 l[j].kind)∧wx.cell? ⟨tb,tq+j * 4+1,none⟩=some (.string l[j].name)∧wx.cell? ⟨tb,tq+j * 4+2,none⟩=some (.slice A' n' c')∧wx.cell? ⟨tb,tq+j * 4+3,none⟩=some (.slice C' m' d'):=fun wx hC =>
     ⟨(HMr.out.grow hC).q.cell 3,(HMr.out.grow hC).e.cell 0,(HMr.out.grow hC).e.cell 1,(hC.cell (p:=⟨tb,tq+j * 4,none⟩) htb).trans g0,(hC.cell (p:=⟨tb,tq+j * 4+1,none⟩) htb).trans g1,(hC.cell (p:=⟨tb,tq+j * 4+2,none⟩) htb).trans g2,(hC.cell (p:=⟨tb,tq+j * 4+3,none⟩) htb).trans g3⟩
    have hi0:(0:Int)≤(j:Int):=by omega
    have hi1:(j:Int)<(n:Int):=by omega
    have C1:=zh c1
    have hcells':=zh hcells
    have Hat:=zh hat
    clear c1 hcells hat hmem g0 g1 g2 g3 hqx
    generalize matchB fs l[j]=r at *
    generalize l[j].kind=x0 at *
    generalize l[j].name=x1 at *
    go_wp2_with fail
    refine wp_region_grow (specOf [(6,⟨Unit,fun _=>(.bool r),fun _ _=>True⟩)]) (fun wx=>Below (World.heap wr).size wr wx) (fun w1 w2=>Below w1.heap.size w1 w2) (by kernel_rfl) (by kernel_rfl) (stab_cons (fun _ _ _ _ h=>h) (stab_nil)) (Below.refl _ _).drew ?_
    iterate 6
     refine grow_fix _ ?_ rfl (by rfl) (by rfl) (fun wx hC hD=>?_) ?_
     rotate_left
     ·have hSw:=hcells'.out wx hC
      go_simp
      all_goals with_reducible rfl
     try simp only [Act.put,zD,zE,zF]
    refine grow_give 7 _ rfl (by rfl) (by rfl) (fun wx hC hD=>?_) (fun x=>?_)
    ·refine give_enter (f:=?_) (args:=?_) ?_ ?_
     rotate_left 2
     ·have hSw:=hcells'.out wx hC
      go_simp
      all_goals first | with_reducible rfl | (refine ⟨?_,?_⟩ <;> with_reducible rfl)
     exact calls_cst hC (C1.out wx hC)
    obtain ⟨⟩:=x
    try simp only [Act.put,zD,zE,zF]
    refine grow_nil (fun w4 hC hF=>?_)
    have Hf:=zh (Hbr.out.trans (hC.mono Hbr.out.size))
    have Hg:=zh (Hb.out.trans (hC.mono Hb.out.size))
    clear hF hC
    cases r with
    | true =>
     have Fin:=zh (Hmem.out rfl)
     go_wp2
     go_ret
     exact ⟨by rw [Fin.out]; rfl,Hf.out⟩
    | false =>
     have Hnx:=Hat
     go_wp2
     go_roundw
     case rel=>exact ⟨j+1,by omega,by go_num,Hnx.out,Hg.out⟩
     case measure=>simp [intOf]; omega
   ·obtain rfl:j=n:=by omega
    have Fin:Hid (l.any (matchB fs)=false):=zh (by have:=Hal.out; rwa [List.take_of_length_le (by rw [Hln.out]; exact zG _)] at this)
    go_wp2
    go_ret
    exact ⟨by rw [Fin.out]; rfl,Hbr.out⟩
 by_cases k7:k=7
 ·subst k7
  have Fin:Hid (matchB fs (.mk 7 nm ws l)=matchNone fs l):=zh (by rw [matchB_eq]; simp)
  rw [Fin.out]
  by_cases hn1:n=1
  ·obtain ⟨x,rfl⟩:∃ x,l=[x]:=List.length_eq_one_iff.1 (by omega)
   obtain ⟨tb,tq,A',n',c',C',m',d',e1,htb,hqx,g0,g1,g2,g3⟩:=HM.out.is.at_ (i:=0) (by simp)
   subst e1
   obtain rfl:n=1:=hn1
   have hx:=ih x (by simp)
   simp only [List.getElem_cons_zero,Nat.zero_mul,Nat.add_zero] at hqx g0 g1 g2 g3
   have hcells:∀ wx,Below (World.heap ((w.alloc (.cells #[.int .i64 7,.string nm,.slice WA m wc,.slice (some ⟨tb,tq,none⟩) 1 c2] 52)).alloc (.cells #[.int .i64 t,.slice F fn fc] 33))).size ((w.alloc (.cells #[.int .i64 7,.string nm,.slice WA m wc,.slice (some ⟨tb,tq,none⟩) 1 c2] 52)).alloc (.cells #[.int .i64 t,.slice F fn fc] 33)) wx→wx.cell? ⟨w.heap.size,3,none⟩=some (.slice (some ⟨tb,tq,none⟩) 1 c2)∧wx.cell? ⟨w.heap.size+1,0,none⟩=some (.int .i64 t)∧wx.cell? ⟨w.heap.size+1,1,none⟩=some (.slice F fn fc) ∧
     wx.cell? ⟨tb,tq,none⟩=some (.int .i64 x.kind)∧wx.cell? ⟨tb,tq+1,none⟩=some (.string x.name)∧wx.cell? ⟨tb,tq+2,none⟩=some (.slice A' n' c')∧wx.cell? ⟨tb,tq+3,none⟩=some (.slice C' m' d'):=fun wx hC =>
    ⟨(HM.out.grow hC).q.cell 3,(HM.out.grow hC).e.cell 0,(HM.out.grow hC).e.cell 1,(hC.cell (p:=⟨tb,tq,none⟩) htb).trans g0,(hC.cell (p:=⟨tb,tq+1,none⟩) htb).trans g1,(hC.cell (p:=⟨tb,tq+2,none⟩) htb).trans g2,(hC.cell (p:=⟨tb,tq+3,none⟩) htb).trans g3⟩
   have c1:=fun wx (hC:Below (World.heap ((w.alloc (.cells #[.int .i64 7,.string nm,.slice WA m wc,.slice (some ⟨tb,tq,none⟩) 1 c2] 52)).alloc (.cells #[.int .i64 t,.slice F fn fc] 33))).size ((w.alloc (.cells #[.int .i64 7,.string nm,.slice WA m wc,.slice (some ⟨tb,tq,none⟩) 1 c2] 52)).alloc (.cells #[.int .i64 t,.slice F fn fc] 33)) wx)=>hx wx _ _ _ _ t F fn fc (hqx.grow hC) (HM.out.grow hC).ev
   have hN:matchNone fs [x]=!matchB fs x:=by rw [matchNone]
   rw [hN]
   have C1:=zh c1
   have hcells':=zh hcells
   clear ih c1 Fin k1 k234 k5 k6 hcells hN hqx g0 g1 g2 g3 hx hwn hfn hlm
   generalize matchB fs x=r at *
   generalize x.kind=x0 at *
   generalize x.name=x1 at *
   go_enter Tryz.func23,Tryz.ntmps23
   go_wp2_with fail
   refine wp_region_grow (specOf [(10,⟨Unit,fun _=>(.bool r),fun _ _=>True⟩)]) (fun wx=>Below (World.heap ((w.alloc (.cells #[.int .i64 7,.string nm,.slice WA m wc,.slice (some ⟨tb,tq,none⟩) 1 c2] 52)).alloc (.cells #[.int .i64 t,.slice F fn fc] 33))).size ((w.alloc (.cells #[.int .i64 7,.string nm,.slice WA m wc,.slice (some ⟨tb,tq,none⟩) 1 c2] 52)).alloc (.cells #[.int .i64 t,.slice F fn fc] 33)) wx) (fun w1 w2=>Below w1.heap.size w1 w2) (by kernel_rfl) (by kernel_rfl) (stab_cons (fun _ _ _ _ h=>h) (stab_nil)) (Below.refl _ _).drew ?_
   iterate 10
    refine grow_fix _ ?_ rfl (by rfl) (by rfl) (fun wx hC hD=>?_) ?_
    rotate_left
    ·have hSw:=hcells'.out wx hC
     go_simp
     all_goals with_reducible rfl
    try simp only [Act.put,zD,zE,zF]
   refine grow_give 11 _ rfl (by rfl) (by rfl) (fun wx hC hD=>?_) (fun x=>?_)
   ·refine give_enter (f:=?_) (args:=?_) ?_ ?_
    rotate_left 2
    ·have hSw:=hcells'.out wx hC
     go_simp
     all_goals first | with_reducible rfl | (refine ⟨?_,?_⟩ <;> with_reducible rfl)
    exact calls_cst hC (C1.out wx hC)
   obtain ⟨⟩:=x
   try simp only [Act.put,zD,zE,zF]
   iterate 3
    refine grow_fix _ ?_ rfl (by rfl) (by rfl) (fun wx hC hD=>?_) ?_
    rotate_left
    ·have hSw:=hcells'.out wx hC
     go_simp
     all_goals with_reducible rfl
    try simp only [Act.put,zD,zE,zF]
   refine grow_nil (fun w4 hC hF=>?_)
   have Hb:=zh (Hb3.out.trans (hC.mono Hb3.out.size))
   clear hF hC
   go_wp2
   go_ret
   exact ⟨rfl,Hb.out⟩
  ·have hn1':((n:Int) == 1)=false:=by rw [beq_eq_false_iff_ne]; omega
   have hN:matchNone fs l=false:=by
    unfold matchNone
    split
    ·exact absurd hlm (by simp; omega)
    ·rfl
   rw [hN]
   have hcells:∀ wx,Below (World.heap ((w.alloc (.cells #[.int .i64 7,.string nm,.slice WA m wc,.slice CA n c2] 52)).alloc (.cells #[.int .i64 t,.slice F fn fc] 33))).size ((w.alloc (.cells #[.int .i64 7,.string nm,.slice WA m wc,.slice CA n c2] 52)).alloc (.cells #[.int .i64 t,.slice F fn fc] 33)) wx→wx.cell? ⟨w.heap.size,3,none⟩=some (.slice CA n c2):=fun wx hC=>(HM.out.grow hC).q.cell 3
   have hcells':=zh hcells
   clear ih Fin k1 k234 k5 k6 hcells hN hwn hfn hlm hn1
   go_enter Tryz.func23,Tryz.ntmps23
   go_wp2_with fail
   refine wp_region_grow (specOf []) (fun wx=>Below (World.heap ((w.alloc (.cells #[.int .i64 7,.string nm,.slice WA m wc,.slice CA n c2] 52)).alloc (.cells #[.int .i64 t,.slice F fn fc] 33))).size ((w.alloc (.cells #[.int .i64 7,.string nm,.slice WA m wc,.slice CA n c2] 52)).alloc (.cells #[.int .i64 t,.slice F fn fc] 33)) wx) (fun w1 w2=>Below w1.heap.size w1 w2) (by kernel_rfl) (by kernel_rfl) (stab_nil) (Below.refl _ _).drew ?_
   iterate 5
    refine grow_fix _ ?_ rfl (by rfl) (by rfl) (fun wx hC hD=>?_) ?_
    rotate_left
    ·have hSw:=hcells'.out wx hC
     go_simp
     all_goals with_reducible rfl
    try simp only [Act.put,zD,zE,zF]
   refine grow_skip 6 (some false) true rfl (by rfl) (by rfl) (by rfl) ?_
   try simp only [Act.put,zD,zE,zF]
   refine grow_skip 7 (some false) true rfl (by rfl) (by rfl) (by rfl) ?_
   try simp only [Act.put,zD,zE,zF]
   refine grow_skip 8 (some false) true rfl (by rfl) (by rfl) (by rfl) ?_
   try simp only [Act.put,zD,zE,zF]
   refine grow_skip 9 (some false) true rfl (by rfl) (by rfl) (by rfl) ?_
   try simp only [Act.put,zD,zE,zF]
   refine grow_skip 10 (some false) true rfl (by rfl) (by rfl) (by rfl) ?_
   try simp only [Act.put,zD,zE,zF]
   refine grow_skip 11 (some false) true rfl (by rfl) (by rfl) (by rfl) ?_
   try simp only [Act.put,zD,zE,zF]
   refine grow_skip 12 (some false) true rfl (by rfl) (by rfl) (by rfl) ?_
   try simp only [Act.put,zD,zE,zF]
   iterate 2
    refine grow_fix _ ?_ rfl (by rfl) (by rfl) (fun wx hC hD=>?_) ?_
    rotate_left
    ·have hSw:=hcells'.out wx hC
     go_simp
     all_goals with_reducible rfl
    try simp only [Act.put,zD,zE,zF]
   refine grow_nil (fun w4 hC hF=>?_)
   have Hb:=zh (Hb3.out.trans (hC.mono Hb3.out.size))
   clear hF hC
   go_wp2
   go_ret
   exact ⟨rfl,Hb.out⟩
 ·have Fin:Hid (matchB fs (.mk k nm ws l)=false):=zh (by rw [matchB_eq,if_neg k1,if_neg k234,if_neg k5,if_neg k6,if_neg k7])
  rw [Fin.out]
  have j1:(k == 1)=false:=by rw [beq_eq_false_iff_ne]; omega
  have j2:(k == 2)=false:=by rw [beq_eq_false_iff_ne]; omega
  have j3:(k == 3)=false:=by rw [beq_eq_false_iff_ne]; omega
  have j4:(k == 4)=false:=by rw [beq_eq_false_iff_ne]; omega
  have j5:(k == 5)=false:=by rw [beq_eq_false_iff_ne]; omega
  have j6:(k == 6)=false:=by rw [beq_eq_false_iff_ne]; omega
  have j7:(k == 7)=false:=by rw [beq_eq_false_iff_ne]; omega
  clear ih Fin k1 k234 k5 k6 k7 hwn hfn hlm
  go_enter Tryz.func23,Tryz.ntmps23
  go_wp2
  go_ret
  exact ⟨rfl,Hb3.out⟩
theorem rmatch_any (fs:List (ByteArray × ByteArray)):∀ q,QSz q→RMatchOk fs q:=by
 intro q
 refine Q.ind (p:=fun q=>QSz q→RMatchOk fs q) ?_ q
 intro k nm ws l ih hs
 cases hs with
 | mk h1 h2 h3=>exact rmatch_step fs k nm ws l h1 h2 (fun x hx=>ih x hx (h3 x hx))
end Go.Proofs.YtlfpfkallgkjdaaGreat.Qy


