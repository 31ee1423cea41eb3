/- SLICED by slice.py -/
import Derived.Test.YtlfpfkallgkjdaaGreatQAlertRunsRow2
import Derived.Test.YtlfpfkallgkjdaaGreatQAlQn1
import Derived.Test.YtlfpfkallgkjdaaGreatQAlQn0
import Derived.Test.YtlfpfkallgkjdaaGreatQAlertRunsRow24
import Derived.Test.YtlfpfkallgkjdaaGreatQAlertRunsRow0
set_option linter.unusedSimpArgs false
set_option maxRecDepth 20000
section
namespace Go.Proofs.YtlfpfkallgkjdaaGreat.Qy
open Go.RowKit Ut Tk
def DocRd (w:World) (ds:List Dc) (e:Ending) (w':World):Prop:=∃ A c,e=.returned (.slice A ds.length c)∧DocsAt w' w'.heap.size A ds.length ds∧ds.length≤c∧Below w.heap.size w w'
theorem DocsOwn.rd {w w0 wr:World} {v:Value} {ds:List Dc} (h:DocsOwn w wr v ds) (hb:Below w0.heap.size w0 wr):DocRd w0 ds (.returned v) wr:=by
 obtain ⟨vss,h1,h2,h3⟩:=h.ex
 obtain ⟨A,c,rfl,hR,hc,_⟩:=own_shape2 h2
 exact ⟨A,c,rfl,⟨rfl,vss,h1,hR,fun i a b=>(h3 i a b).1⟩,hc,hb⟩
def Small (ds:List Dc):Prop:=∀ d∈ds,d.fs.length≤1048576∧∀ f∈d.fs,f.2.size≤1048576
end Go.Proofs.YtlfpfkallgkjdaaGreat.Qy
end

section
namespace Go.Proofs.YtlfpfkallgkjdaaGreat.Qy
open Go.RowKit Ut Tk
end Go.Proofs.YtlfpfkallgkjdaaGreat.Qy
end

section
namespace Go.Proofs.YtlfpfkallgkjdaaGreat.Qy
open Go.RowKit Ut Tk
def RNeedOk (q:Q):Prop:=∀ (w:World) (a0 a1 a2 a3:Value),QAt w w.heap.size q [a0,a1,a2,a3]→wq q≤1048576 →
 Calls Tryz.prog 85 #[.agg #[a0,a1,a2,a3]] w (BsPost w (needs q))
theorem mor_one {w:World} {B:Nat} {v:Value} {l:List ByteArray} (h:w.ownsRow B 9 1 v l.length (bsv l)) (t:ByteArray):MoR (w.alloc (.cells #[.string t] 9)) v (some ⟨w.heap.size,0,none⟩) [t]:=by
 refine ⟨fun _=>⟨_,0,rfl,by simp,fun e=>by have:=(h.lt _ e).2; omega,fun j hj=>?_⟩⟩
 obtain rfl:j=0:=by simp at hj; omega
 exact (Blk.new w 9 #[.string t]).cell 0
theorem mor_made {w w':World} {B:Nat} {v u:Value} {l ts:List ByteArray} (h:w.ownsRow B 9 1 v l.length (bsv l)) (hr:w'.ownsRow w.heap.size 9 1 u ts.length (bsv ts)):∃ A c,u=.slice A ts.length c∧MoR w' v A ts:=by
 obtain ⟨A,c,rfl,_⟩:=own_shape hr
 refine ⟨A,c,rfl,⟨fun hp=>?_⟩⟩
 obtain ⟨m,hm⟩:∃ m,ts.length=m+1:=⟨ts.length - 1,by omega⟩
 have hr':=hr
 rw [hm] at hr'
 obtain ⟨gs,q,e⟩:=own_succ hr'
 injection e with e
 subst e
 have hl:=hr.lt gs rfl
 refine ⟨gs,0,rfl,hl.2,fun e=>by have:=(h.lt _ e).2; omega,fun j hj=>?_⟩
 have h1:=hr.cells (g:=gs) rfl j (.string ts[j]) (by unfold bsv; rw [List.getElem?_map,List.getElem?_eq_getElem hj]; rfl)
 have hadd:(⟨gs,0,none⟩:Addr).add j=⟨gs,0+j,none⟩:=by unfold Addr.add; split <;> simp_all
 rw [hadd] at h1
 exact h1
theorem own_keep {w w':World} {B n:Nat} {v:Value} {xs:List Value} {e:TypeId} (h:w.ownsRow B e 1 v n xs) (hb:Below w.heap.size w w'):w'.ownsRow B e 1 v n xs :=
 h.kept (grow_of_below hb none) (by cases hv:v.ownBlock <;> simp)
set_option maxHeartbeats 6400000 in
theorem rneeds_step (k:Int) (nm:ByteArray) (ws:List ByteArray) (l:List Q) (htx:QTx 1048576 (.mk k nm ws l)) (ih:∀ x∈l,RNeedOk x):RNeedOk (.mk k nm ws l):=by
 intro w a0 a1 a2 a3 hQ hwq
 obtain ⟨WA,m,wc,CA,n,c2,e,hI⟩:=hQ.is
 simp only [List.cons.injEq,and_true] at e
 obtain ⟨rfl,rfl,rfl,rfl⟩:=e
 have hb1:Below w.heap.size w (w.alloc (.cells #[.int .i64 k,.string nm,.slice WA m wc,.slice CA n c2] 52)):=(Below.refl _ _).alloc (zG _) _
 have hB1:=Blk.new w 52 #[.int .i64 k,.string nm,.slice WA m wc,.slice CA n c2]
 have hz1:(w.alloc (.cells #[.int .i64 k,.string nm,.slice WA m wc,.slice CA n c2] 52)).heap.size=w.heap.size+1:=by simp
 rw [wq_eq] at hwq
 have hwl:=wqs_pos l
 have hmw:=hI.wn
 have hnl:=hI.lm
 cases htx with
 | mk t1 t2 t3 =>
 have HB1:=zh hB1
 have Hb1:=zh hb1
 have HI:=zh hI
 have T2:=zh t2
 have IH:=zh ih
 have close:∀ (l':List ByteArray) (v:Value) (w':World),w'.ownsRow (w.heap.size+1) 9 1 v l'.length (bsv l')→Below (w.heap.size+1) (w.alloc (.cells #[.int .i64 k,.string nm,.slice WA m wc,.slice CA n c2] 52)) w'→BsPost w l' (.returned v) w':=fun l' v w' h hb =>
  ⟨v,rfl,h.mono (by omega),Hb1.out.trans (hb.mono (by omega))⟩
 have Close:=zh close
 clear hQ hb1 hB1 hI t2 t3 ih close
 by_cases k24:k=4∨(k=2∧ws.length=1)
 ·have Fin:Hid (needs (.mk k nm ws l)=addL [] (termsL nm ws)):=zh (by rw [needs_eq,if_pos k24])
  rw [Fin.out]
  clear Fin
  rcases k24 with rfl | ⟨rfl,hone⟩
  ·have hkk:(0:Nat)=0:=rfl
   go_enter Tryz.func85,Tryz.ntmps85
   go_wp2_with fail
   generalize hw0:(w.alloc (.cells #[.int .i64 4,.string nm,.slice WA m wc,.slice CA n c2] 52))=w0 at *
   clear hw0
   go_loopw [3,4] (fun v i wr=>∃ (j:Nat),j≤m∧i=.int .i64 j∧wr.ownsRow (w.heap.size+1) 9 1 v (addL [] (termsL nm (ws.take j))).length (bsv (addL [] (termsL nm (ws.take j))))∧Below (w.heap.size+1) w0 wr) (fun _ i _=>m - (intOf i).toNat)
   case atStart=>exact ⟨0,Nat.zero_le _,rfl,World.ownsRow_nil _ _ _ _,Below.refl _ _⟩
   case round =>
    obtain ⟨j,hj,rfl,hN,hb⟩:=hrel
    have HN:=zh hN
    have Hb:=zh hb
    have hbz:=hb.size
    have hkd:=(hb.cell (p:=⟨w.heap.size,0,none⟩) (by show w.heap.size < _; omega)).trans (HB1.out.cell 0)
    have hnm:=(hb.cell (p:=⟨w.heap.size,1,none⟩) (by show w.heap.size < _; omega)).trans (HB1.out.cell 1)
    have hwd:=(hb.cell (p:=⟨w.heap.size,2,none⟩) (by show w.heap.size < _; omega)).trans (HB1.out.cell 2)
    simp at hkd hnm hwd
    by_cases hlt:j<m
    ·have hjl:j<ws.length:=by omega
     have hji:(j:Int)<(m:Int):=by omega
     have hji0:(0:Int)≤(j:Int):=by omega
     have hts:=termsL_take nm ws j hjl
     have hll:(addL [] (termsL nm (ws.take j))).length≤1048576:=by
      have h1:=addL_len (termsL nm (ws.take j)) []
      have h2:=termsL_len nm (ws.take j)
      rw [List.length_take] at h2
      simp only [List.length_nil] at h1
      omega
     have hsx:=T2.out _ (List.getElem_mem hjl)
     obtain ⟨tb,tq,rfl,htb,hc⟩:=HI.out.wds.2 (by omega)
     have hcj:=hc j (.string ws[j]) (by rw [List.getElem?_map,List.getElem?_eq_getElem hjl]; rfl)
     have hd:=((Hb1.out.trans (hb.mono (by omega))).cell (p:=⟨tb,tq+j,none⟩) htb).trans hcj
     have hcells:∀ wx,Below wr.heap.size wr wx→wx.cell? ⟨w.heap.size,1,none⟩=some (.string nm)∧wx.cell? ⟨w.heap.size,2,none⟩=some (.slice (some ⟨tb,tq,none⟩) m wc)∧wx.cell? ⟨tb,tq+j,none⟩=some (.string ws[j]):=fun wx hC =>
      ⟨(hC.cell (p:=⟨w.heap.size,1,none⟩) (by show w.heap.size < _; omega)).trans hnm,(hC.cell (p:=⟨w.heap.size,2,none⟩) (by show w.heap.size < _; omega)).trans hwd,(hC.cell (p:=⟨tb,tq+j,none⟩) (by show tb < _; omega)).trans hd⟩
     have Hts:=zh (show addL [] (termsL nm (ws.take (j+1)))=addL (addL [] (termsL nm (ws.take j))) (termL nm ws[j]) by rw [hts,addL_append])
     have hcells':=zh hcells
     clear hts hN hb hc hcj hcells
     generalize addL [] (termsL nm (ws.take j))=ol at *
     generalize ws[j]=x at *
     by_cases hok:termOk nm x=true
     ·have C1:Hid (∀ wx:World,Calls Tryz.prog 131 #[.string nm,.string x] wx fun e w'=>e=.returned (.tuple #[.string (termV nm x),.int .i64 0])∧Below wx.heap.size wx w'):=zh (fun wx=>termr_yesB nm x wx t1 hsx hok)
      have htl:termL nm x=[termV nm x]:=by unfold termL; rw [if_pos hok]
      rw [htl] at Hts
      clear htl hok hsx
      generalize termV nm x=t at *
      go_wp2_with fail
      refine wp_region_grow (specOf [(7,⟨Unit,fun _=>(.tuple #[.string t,.int .i64 0]),fun _ _=>True⟩)]) (fun wx=>Below (World.heap wr).size wr wx) (fun w1 w2=>Below w1.heap.size w1 w2) (by kernel_rfl) (by kernel_rfl) (stab_cons (fun _ _ _ _ h=>h) (stab_nil)) (Below.refl _ _).drew ?_
      iterate 7
       refine grow_fix _ ?_ rfl (by rfl) (by rfl) (fun wx hC hD=>?_) ?_
       rotate_left
       ·have hSw:=hcells'.out wx hC
        go_simp
        all_goals with_reducible rfl
       try simp only [Act.put,zD,zE,zF]
      refine grow_give 8 _ rfl (by rfl) (by rfl) (fun wx hC hD=>?_) (fun x=>?_)
      ·refine give_enter (f:=?_) (args:=?_) ?_ ?_
       rotate_left 2
       ·have hSw:=hcells'.out wx hC
        go_simp
        all_goals first | with_reducible rfl | (refine ⟨?_,?_⟩ <;> with_reducible rfl)
       exact calls_cst hC (C1.out wx)
      obtain ⟨⟩:=x
      try simp only [Act.put,zD,zE,zF]
      iterate 5
       refine grow_fix _ ?_ rfl (by rfl) (by rfl) (fun wx hC hD=>?_) ?_
       rotate_left
       ·have hSw:=hcells'.out wx hC
        go_simp
        all_goals with_reducible rfl
       try simp only [Act.put,zD,zE,zF]
      refine grow_nil (fun w2 hC hF=>?_)
      have Hb2:=zh (Hb.out.trans (hC.mono (by omega)))
      have hN2:=own_keep HN.out hC
      have hz2:=hC.size
      clear hF hC C1 hcells' hkd hnm hwd hd
      have hM:=mor_one hN2 t
      have hN3:=own_keep hN2 ((Below.refl _ _).alloc (zG _) (.cells #[.string t] 9))
      have hb3:Below (w.heap.size+1) w0 (w2.alloc (.cells #[.string t] 9)):=Hb2.out.alloc (by omega) _
      have cw:=with_any (w.heap.size+1) _ ol _ 1 1 [t] _ hN3 (by simp; omega) hM rfl (by omega)
      have Hb3:=zh hb3
      clear hN2 hM hN3 hb3
      go_wp2_with (go_at_call 132; refine cw.mono ?_; rintro e w4 ⟨v',rfl,hN',hb'⟩)
      rw [addL_one] at hN'
      rw [addL_one] at Hts
      have Fin3:=zh (Hb3.out.trans hb')
      have HN4:=zh hN'
      clear hN' hb' cw
      go_roundw
      case rel=>exact ⟨j+1,by omega,by go_num,by rw [Hts.out]; exact HN4.out,Fin3.out⟩
      case measure=>simp [intOf]; omega
     ·have hok':termOk nm x=false:=by simpa using hok
      have C1:Hid (∀ wx:World,Calls Tryz.prog 131 #[.string nm,.string x] wx fun e w'=>e=.returned (.tuple #[.string ByteArray.empty,.int .i64 1])∧Below wx.heap.size wx w'):=zh (fun wx=>termr_noB nm x wx t1 hsx hok')
      have htl:termL nm x=[]:=by unfold termL; rw [if_neg hok]
      rw [htl,addL_nil] at Hts
      clear htl hok hok' hsx
      go_wp2_with fail
      refine wp_region_grow (specOf [(7,⟨Unit,fun _=>(.tuple #[.string ByteArray.empty,.int .i64 1]),fun _ _=>True⟩)]) (fun wx=>Below (World.heap wr).size wr wx) (fun w1 w2=>Below w1.heap.size w1 w2) (by kernel_rfl) (by kernel_rfl) (stab_cons (fun _ _ _ _ h=>h) (stab_nil)) (Below.refl _ _).drew ?_
      iterate 7
       refine grow_fix _ ?_ rfl (by rfl) (by rfl) (fun wx hC hD=>?_) ?_
       rotate_left
       ·have hSw:=hcells'.out wx hC
        go_simp
        all_goals with_reducible rfl
       try simp only [Act.put,zD,zE,zF]
      refine grow_give 8 _ rfl (by rfl) (by rfl) (fun wx hC hD=>?_) (fun x=>?_)
      ·refine give_enter (f:=?_) (args:=?_) ?_ ?_
       rotate_left 2
       ·have hSw:=hcells'.out wx hC
        go_simp
        all_goals first | with_reducible rfl | (refine ⟨?_,?_⟩ <;> with_reducible rfl)
       exact calls_cst hC (C1.out wx)
      obtain ⟨⟩:=x
      try simp only [Act.put,zD,zE,zF]
      iterate 5
       refine grow_fix _ ?_ rfl (by rfl) (by rfl) (fun wx hC hD=>?_) ?_
       rotate_left
       ·have hSw:=hcells'.out wx hC
        go_simp
        all_goals with_reducible rfl
       try simp only [Act.put,zD,zE,zF]
      refine grow_nil (fun w2 hC hF=>?_)
      have Hb2:=zh (Hb.out.trans (hC.mono (by omega)))
      have HN2:=zh (own_keep HN.out hC)
      clear hF hC C1 hcells' hkd hnm hwd hd
      go_wp2
      go_roundw
      case rel=>exact ⟨j+1,by omega,by go_num,by rw [Hts.out]; exact HN2.out,Hb2.out⟩
      case measure=>simp [intOf]; omega
    ·obtain rfl:j=m:=by omega
     rw [List.take_of_length_le (by omega)] at HN
     clear hN hb
     go_wp2
     go_ret
     exact Close.out _ _ _ HN.out Hb.out
  ·obtain rfl:m=1:=by omega
   have hkk:(0:Nat)=0:=rfl
   go_enter Tryz.func85,Tryz.ntmps85
   go_wp2_with fail
   generalize hw0:(w.alloc (.cells #[.int .i64 2,.string nm,.slice WA 1 wc,.slice CA n c2] 52))=w0 at *
   clear hw0
   go_loopw [3,4] (fun v i wr=>∃ (j:Nat),j≤1∧i=.int .i64 j∧wr.ownsRow (w.heap.size+1) 9 1 v (addL [] (termsL nm (ws.take j))).length (bsv (addL [] (termsL nm (ws.take j))))∧Below (w.heap.size+1) w0 wr) (fun _ i _=>1 - (intOf i).toNat)
   case atStart=>exact ⟨0,Nat.zero_le _,rfl,World.ownsRow_nil _ _ _ _,Below.refl _ _⟩
   case round =>
    obtain ⟨j,hj,rfl,hN,hb⟩:=hrel
    have HN:=zh hN
    have Hb:=zh hb
    have hbz:=hb.size
    have hkd:=(hb.cell (p:=⟨w.heap.size,0,none⟩) (by show w.heap.size < _; omega)).trans (HB1.out.cell 0)
    have hnm:=(hb.cell (p:=⟨w.heap.size,1,none⟩) (by show w.heap.size < _; omega)).trans (HB1.out.cell 1)
    have hwd:=(hb.cell (p:=⟨w.heap.size,2,none⟩) (by show w.heap.size < _; omega)).trans (HB1.out.cell 2)
    simp at hkd hnm hwd
    by_cases hlt:j<1
    ·have hjl:j<ws.length:=by omega
     have hji:(j:Int)<(1:Int):=by omega
     have hji0:(0:Int)≤(j:Int):=by omega
     have hts:=termsL_take nm ws j hjl
     have hll:(addL [] (termsL nm (ws.take j))).length≤1048576:=by
      have h1:=addL_len (termsL nm (ws.take j)) []
      have h2:=termsL_len nm (ws.take j)
      rw [List.length_take] at h2
      simp only [List.length_nil] at h1
      omega
     have hsx:=T2.out _ (List.getElem_mem hjl)
     obtain ⟨tb,tq,rfl,htb,hc⟩:=HI.out.wds.2 (by omega)
     have hcj:=hc j (.string ws[j]) (by rw [List.getElem?_map,List.getElem?_eq_getElem hjl]; rfl)
     have hd:=((Hb1.out.trans (hb.mono (by omega))).cell (p:=⟨tb,tq+j,none⟩) htb).trans hcj
     have hcells:∀ wx,Below wr.heap.size wr wx→wx.cell? ⟨w.heap.size,1,none⟩=some (.string nm)∧wx.cell? ⟨w.heap.size,2,none⟩=some (.slice (some ⟨tb,tq,none⟩) 1 wc)∧wx.cell? ⟨tb,tq+j,none⟩=some (.string ws[j]):=fun wx hC =>
      ⟨(hC.cell (p:=⟨w.heap.size,1,none⟩) (by show w.heap.size < _; omega)).trans hnm,(hC.cell (p:=⟨w.heap.size,2,none⟩) (by show w.heap.size < _; omega)).trans hwd,(hC.cell (p:=⟨tb,tq+j,none⟩) (by show tb < _; omega)).trans hd⟩
     have Hts:=zh (show addL [] (termsL nm (ws.take (j+1)))=addL (addL [] (termsL nm (ws.take j))) (termL nm ws[j]) by rw [hts,addL_append])
     have hcells':=zh hcells
     clear hts hN hb hc hcj hcells
     generalize addL [] (termsL nm (ws.take j))=ol at *
     generalize ws[j]=x at *
     by_cases hok:termOk nm x=true
     ·have C1:Hid (∀ wx:World,Calls Tryz.prog 131 #[.string nm,.string x] wx fun e w'=>e=.returned (.tuple #[.string (termV nm x),.int .i64 0])∧Below wx.heap.size wx w'):=zh (fun wx=>termr_yesB nm x wx t1 hsx hok)
      have htl:termL nm x=[termV nm x]:=by unfold termL; rw [if_pos hok]
      rw [htl] at Hts
      clear htl hok hsx
      generalize termV nm x=t at *
      go_wp2_with fail
      refine wp_region_grow (specOf [(7,⟨Unit,fun _=>(.tuple #[.string t,.int .i64 0]),fun _ _=>True⟩)]) (fun wx=>Below (World.heap wr).size wr wx) (fun w1 w2=>Below w1.heap.size w1 w2) (by kernel_rfl) (by kernel_rfl) (stab_cons (fun _ _ _ _ h=>h) (stab_nil)) (Below.refl _ _).drew ?_
      iterate 7
       refine grow_fix _ ?_ rfl (by rfl) (by rfl) (fun wx hC hD=>?_) ?_
       rotate_left
       ·have hSw:=hcells'.out wx hC
        go_simp
        all_goals with_reducible rfl
       try simp only [Act.put,zD,zE,zF]
      refine grow_give 8 _ rfl (by rfl) (by rfl) (fun wx hC hD=>?_) (fun x=>?_)
      ·refine give_enter (f:=?_) (args:=?_) ?_ ?_
       rotate_left 2
       ·have hSw:=hcells'.out wx hC
        go_simp
        all_goals first | with_reducible rfl | (refine ⟨?_,?_⟩ <;> with_reducible rfl)
       exact calls_cst hC (C1.out wx)
      obtain ⟨⟩:=x
      try simp only [Act.put,zD,zE,zF]
      iterate 5
       refine grow_fix _ ?_ rfl (by rfl) (by rfl) (fun wx hC hD=>?_) ?_
       rotate_left
       ·have hSw:=hcells'.out wx hC
        go_simp
        all_goals with_reducible rfl
       try simp only [Act.put,zD,zE,zF]
      refine grow_nil (fun w2 hC hF=>?_)
      have Hb2:=zh (Hb.out.trans (hC.mono (by omega)))
      have hN2:=own_keep HN.out hC
      have hz2:=hC.size
      clear hF hC C1 hcells' hkd hnm hwd hd
      have hM:=mor_one hN2 t
      have hN3:=own_keep hN2 ((Below.refl _ _).alloc (zG _) (.cells #[.string t] 9))
      have hb3:Below (w.heap.size+1) w0 (w2.alloc (.cells #[.string t] 9)):=Hb2.out.alloc (by omega) _
      have cw:=with_any (w.heap.size+1) _ ol _ 1 1 [t] _ hN3 (by simp; omega) hM rfl (by omega)
      have Hb3:=zh hb3
      clear hN2 hM hN3 hb3
      go_wp2_with (go_at_call 132; refine cw.mono ?_; rintro e w4 ⟨v',rfl,hN',hb'⟩)
      rw [addL_one] at hN'
      rw [addL_one] at Hts
      have Fin3:=zh (Hb3.out.trans hb')
      have HN4:=zh hN'
      clear hN' hb' cw
      go_roundw
      case rel=>exact ⟨j+1,by omega,by go_num,by rw [Hts.out]; exact HN4.out,Fin3.out⟩
      case measure=>simp [intOf]; omega
     ·have hok':termOk nm x=false:=by simpa using hok
      have C1:Hid (∀ wx:World,Calls Tryz.prog 131 #[.string nm,.string x] wx fun e w'=>e=.returned (.tuple #[.string ByteArray.empty,.int .i64 1])∧Below wx.heap.size wx w'):=zh (fun wx=>termr_noB nm x wx t1 hsx hok')
      have htl:termL nm x=[]:=by unfold termL; rw [if_neg hok]
      rw [htl,addL_nil] at Hts
      clear htl hok hok' hsx
      go_wp2_with fail
      refine wp_region_grow (specOf [(7,⟨Unit,fun _=>(.tuple #[.string ByteArray.empty,.int .i64 1]),fun _ _=>True⟩)]) (fun wx=>Below (World.heap wr).size wr wx) (fun w1 w2=>Below w1.heap.size w1 w2) (by kernel_rfl) (by kernel_rfl) (stab_cons (fun _ _ _ _ h=>h) (stab_nil)) (Below.refl _ _).drew ?_
      iterate 7
       refine grow_fix _ ?_ rfl (by rfl) (by rfl) (fun wx hC hD=>?_) ?_
       rotate_left
       ·have hSw:=hcells'.out wx hC
        go_simp
        all_goals with_reducible rfl
       try simp only [Act.put,zD,zE,zF]
      refine grow_give 8 _ rfl (by rfl) (by rfl) (fun wx hC hD=>?_) (fun x=>?_)
      ·refine give_enter (f:=?_) (args:=?_) ?_ ?_
       rotate_left 2
       ·have hSw:=hcells'.out wx hC
        go_simp
        all_goals first | with_reducible rfl | (refine ⟨?_,?_⟩ <;> with_reducible rfl)
       exact calls_cst hC (C1.out wx)
      obtain ⟨⟩:=x
      try simp only [Act.put,zD,zE,zF]
      iterate 5
       refine grow_fix _ ?_ rfl (by rfl) (by rfl) (fun wx hC hD=>?_) ?_
       rotate_left
       ·have hSw:=hcells'.out wx hC
        go_simp
        all_goals with_reducible rfl
       try simp only [Act.put,zD,zE,zF]
      refine grow_nil (fun w2 hC hF=>?_)
      have Hb2:=zh (Hb.out.trans (hC.mono (by omega)))
      have HN2:=zh (own_keep HN.out hC)
      clear hF hC C1 hcells' hkd hnm hwd hd
      go_wp2
      go_roundw
      case rel=>exact ⟨j+1,by omega,by go_num,by rw [Hts.out]; exact HN2.out,Hb2.out⟩
      case measure=>simp [intOf]; omega
    ·obtain rfl:j=1:=by omega
     rw [List.take_of_length_le (by omega)] at HN
     clear hN hb
     go_wp2
     go_ret
     exact Close.out _ _ _ HN.out Hb.out
 ·by_cases k5:k=5
  ·subst k5
   have Fin:Hid (needs (.mk 5 nm ws l)=needsIn [] l):=zh (by rw [needs_eq,if_neg k24,if_pos rfl])
   rw [Fin.out]
   clear Fin k24
   go_enter Tryz.func85,Tryz.ntmps85
   go_wp2_with fail
   generalize hw0:(w.alloc (.cells #[.int .i64 5,.string nm,.slice WA m wc,.slice CA n c2] 52))=w0 at *
   clear hw0
   go_loopw [3,7] (fun v i wr=>∃ (j:Nat),j≤n∧i=.int .i64 j∧wr.ownsRow (w.heap.size+1) 9 1 v (needsIn [] (l.take j)).length (bsv (needsIn [] (l.take j)))∧Below (w.heap.size+1) w0 wr) (fun _ i _=>n - (intOf i).toNat)
   case atStart=>exact ⟨0,Nat.zero_le _,rfl,World.ownsRow_nil _ _ _ _,Below.refl _ _⟩
   case round =>
    obtain ⟨j,hj,rfl,hN,hb⟩:=hrel
    have HN:=zh hN
    have Hb:=zh hb
    have hbz:=hb.size
    have hls:=(hb.cell (p:=⟨w.heap.size,3,none⟩) (by show w.heap.size < _; omega)).trans (HB1.out.cell 3)
    simp at hls
    by_cases hlt:j<n
    ·have hjl:j<l.length:=by omega
     have hji:(j:Int)<(n:Int):=by omega
     have hji0:(0:Int)≤(j:Int):=by omega
     have hts:=needsIn_take l [] j hjl
     have hll:(needsIn [] (l.take j)).length≤1048576:=by
      have h1:=needsIn_len (l.take j) [] (fun q _=>needs_len q)
      have h2:=wqs_take_le l j
      simp only [List.length_nil] at h1
      omega
     have hwj:=wqs_mem l _ (List.getElem_mem hjl)
     have hnj:=needs_len l[j]
     obtain ⟨tb,tq,A',n',c',C',m',d',rfl,htb,hq,hc0,hc1,hc2,hc3⟩:=HI.out.at_ hjl
     have hbw:=Hb1.out.trans (hb.mono (by omega))
     have hd0:=(hbw.cell (p:=⟨tb,tq+j * 4,none⟩) htb).trans hc0
     have hd1:=(hbw.cell (p:=⟨tb,tq+j * 4+1,none⟩) htb).trans hc1
     have hd2:=(hbw.cell (p:=⟨tb,tq+j * 4+2,none⟩) htb).trans hc2
     have hd3:=(hbw.cell (p:=⟨tb,tq+j * 4+3,none⟩) htb).trans hc3
     have c1:=IH.out _ (List.getElem_mem hjl) wr _ _ _ _ (hq.grow hbw) (by omega)
     have Hts:=zh hts
     clear hts hN hb hc0 hc1 hc2 hc3 hq hbw
     generalize needsIn [] (l.take j)=ol at *
     generalize l[j]=x at *
     generalize x.kind=x0 at *
     generalize x.name=x1 at *
     go_wp2_with (first
      | (go_at_call 85; refine c1.mono ?_; rintro e wa ⟨u,rfl,hown,hba⟩; obtain ⟨Au,cu,rfl,hM⟩:=mor_made HN.out hown; have cw:=with_any (w.heap.size+1) _ ol Au _ cu (needs x) wa (own_keep HN.out hba) (by have:=hba.size; omega) hM rfl (by omega); have Hba:=zh hba; clear hown hM hba c1)
      | (go_at_call 132; refine cw.mono ?_; rintro e w4 ⟨v',rfl,hN',hb'⟩))
     have Fin3:=zh ((Hb.out.trans (Hba.out.mono (by omega))).trans hb')
     have HN4:=zh hN'
     clear hN' hb' cw
     go_roundw
     case rel=>exact ⟨j+1,by omega,by go_num,by rw [Hts.out]; exact HN4.out,Fin3.out⟩
     case measure=>simp [intOf]; omega
    ·obtain rfl:j=n:=by omega
     rw [List.take_of_length_le (by omega)] at HN
     clear hN hb
     go_wp2
     go_ret
     exact Close.out _ _ _ HN.out Hb.out
  ·have Fin:Hid (needs (.mk k nm ws l)=[]):=zh (by rw [needs_eq,if_neg k24,if_neg k5])
   rw [Fin.out]
   have hk4:k≠4:=fun e=>k24 (.inl e)
   have hk5:(k == 5)=false:=beq_eq_false_iff_ne.2 k5
   have hk4':(k == 4)=false:=beq_eq_false_iff_ne.2 hk4
   by_cases k2:k=2
   ·subst k2
    have hm1:m≠1:=fun e=>k24 (.inr ⟨rfl,by omega⟩)
    have hm:((m:Int) == 1)=false:=beq_eq_false_iff_ne.2 (by omega)
    clear k24 hk4 k5 Fin hk5 hk4'
    go_enter Tryz.func85,Tryz.ntmps85
    go_wp2_with fail
    generalize hw0:(w.alloc (.cells #[.int .i64 2,.string nm,.slice WA m wc,.slice CA n c2] 52))=w0 at *
    clear hw0
    have hkd:=HB1.out.cell 0
    have hwd:=HB1.out.cell 2
    simp at hkd hwd
    go_loopw [3,4] (fun v i wr=>i=.int .i64 0∧v=.slice none 0 0∧wr=w0) (fun _ _ _=>0)
    case atStart=>exact ⟨rfl,rfl,rfl⟩
    case round =>
     obtain ⟨rfl,rfl,rfl⟩:=hrel
     by_cases hm0:m=0
     ·subst hm0
      go_wp2
      go_ret
      exact Close.out _ _ _ (World.ownsRow_nil _ _ _ _) (Below.refl _ _)
     ·have hmi:(0:Int)<(m:Int):=by omega
      go_wp2
      go_ret
      exact Close.out _ _ _ (World.ownsRow_nil _ _ _ _) (Below.refl _ _)
   ·have hk2:(k == 2)=false:=beq_eq_false_iff_ne.2 k2
    clear k24 hk4 k5 Fin
    go_enter Tryz.func85,Tryz.ntmps85
    go_wp2
    go_ret
    exact Close.out _ _ _ (World.ownsRow_nil _ _ _ _) (Below.refl _ _)
theorem rneeds_any:∀ q,QTx 1048576 q→RNeedOk q:=by
 refine Q.ind (p:=fun q=>QTx 1048576 q→RNeedOk q) (fun k nm ws l ih h=>?_)
 refine rneeds_step k nm ws l h (fun x hx=>ih x hx ?_)
 cases h with
 | mk h1 h2 h3=>exact h3 x hx
end Go.Proofs.YtlfpfkallgkjdaaGreat.Qy
end
