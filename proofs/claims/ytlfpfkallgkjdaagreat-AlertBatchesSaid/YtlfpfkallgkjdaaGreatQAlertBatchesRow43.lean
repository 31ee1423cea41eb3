/- loggiaref32.Drop: the walk (printed by gen_alq.py). -/
import Derived.Deep.CutRange
import Derived.Test.YtlfpfkallgkjdaaGreatQAlertBatchesRow41
import Derived.Test.YtlfpfkallgkjdaaGreatQAlertBatchesRow42
import Derived.Test.YtlfpfkallgkjdaaGreatQAlertBatchesRow31
import Derived.Test.YtlfpfkallgkjdaaGreatQAlertBatchesRow47
import Derived.Test.YtlfpfkallgkjdaaGreatQAlertBatchesRow0
import Derived.Test.YtlfpfkallgkjdaaGreatQAlertBatchesRow29
set_option linter.unusedSimpArgs false
set_option linter.unusedVariables false
set_option maxRecDepth 40000
section
namespace Go.Proofs.YtlfpfkallgkjdaaGreat.Al
open Go.RowKit Go.Maps Ut Tk Qy Qp Ev Mv Rg
def Sx (bx:Nat) (w:World) (b:Nat):Prop:=Sc w b∧(b<bx∨bx+1<b)
structure RAtX (bx:Nat) (w:World) (A:Option Addr) (n c:Nat) (O:List Rk):Prop where
 rd:ReadsS w (Sx bx w) 6 A n (O.flatMap encR)
 ln:O.length=n
 cap:n≤c
 nl:A=none→c=0
 qs:∀ x∈O,QF w (Sx bx w) x.1.2.q (qC x)
section
variable {bx:Nat} {w w':World} {A:Option Addr} {n c:Nat} {O:List Rk}
theorem RAtX.at_ (h:RAtX bx w A n c O):RAt w A n c O:=⟨h.rd.mono (fun b hb=>hb.1),h.ln,h.cap,h.nl,fun x hx=>(h.qs x hx).mono (fun b hb=>hb.1)⟩
theorem RAtX.of (h:RAt w A n c O) (hb:Below w.heap.size w w') (hx:w.heap.size≤bx):RAtX bx w' A n c O:=by
 have k:∀ b,Sc w b→Sx bx w' b:=fun b hs=>⟨hs.same (hb.block b hs.lt),.inl (by have:=hs.lt; omega)⟩
 exact ⟨(h.rd.keep (fun b o hs=>hb.cell (p:=⟨b,o,none⟩) hs.lt)).mono k,h.ln,h.cap,h.nl,fun x hx=>((h.qs x hx).keep (fun b o hs=>hb.cell (p:=⟨b,o,none⟩) hs.lt)).mono k⟩
theorem RAtX.below (h:RAtX bx w A n c O) (hb:Below w.heap.size w w'):RAtX bx w' A n c O:=by
 have k:∀ b,Sx bx w b→Sx bx w' b:=fun b hs=>⟨hs.1.same (hb.block b hs.1.lt),hs.2⟩
 exact ⟨(h.rd.keep (fun b o hs=>hb.cell (p:=⟨b,o,none⟩) hs.1.lt)).mono k,h.ln,h.cap,h.nl,fun x hx=>((h.qs x hx).keep (fun b o hs=>hb.cell (p:=⟨b,o,none⟩) hs.1.lt)).mono k⟩
theorem RAtX.set (h:RAtX bx w A n c O) {p:Nat} (hp:p=bx∨p=bx+1) (u:Value):RAtX bx (w.setCell ⟨p,0,none⟩ u) A n c O:=by
 have e:∀ b,Sx bx w b→(w.setCell ⟨p,0,none⟩ u).heap[b]?=w.heap[b]?:=fun b hs=>Below.heap_setCell w ⟨p,0,none⟩ u b (by show b≠p; have:=hs.2; omega)
 have k:∀ b,Sx bx w b→Sx bx (w.setCell ⟨p,0,none⟩ u) b:=fun b hs=>⟨hs.1.same (e b hs),hs.2⟩
 exact ⟨(h.rd.keep (fun b o hs=>cell_same (e b hs) o)).mono k,h.ln,h.cap,h.nl,fun x hx=>((h.qs x hx).keep (fun b o hs=>cell_same (e b hs) o)).mono k⟩
end
theorem RAtX.cut {bx:Nat} {wz w5:World} {A:Option Addr} {n c p m:Nat} {O:List Rk} {v:Value} (h:RAtX bx wz A n c O) (hR:Row 113 6 wz.heap.size wz w5 v m ((O.take p).flatMap encR ++ (O.drop (p+1)).flatMap encR)) (hm:m=p+(n - (p+1))) (hp:p+1≤n) (hbx:bx+1<wz.heap.size) :
  ∃ A' c',v=.slice A' m c'∧RAtX bx w5 A' m c' (O.take p ++ O.drop (p+1)):=by
 obtain ⟨A',c',rfl,_,hc,hnl,_⟩:=Ev.own_shape2 hR.own
 have h5:=h.below hR.bel
 refine ⟨A',c',rfl,?_,?_,hc,hnl,fun y hy=>?_⟩
 ·have h1:=ReadsS.of_own hR.own
  have h2:=reads_sc h1 (by decide)
  rw [List.flatMap_append]
  refine ⟨h2.1,fun hn=>?_⟩
  obtain ⟨b,o,e,hb,hcl⟩:=h1.2 hn
  obtain ⟨b2,o2,e2,hb2,_⟩:=h2.2 hn
  rw [e] at e2
  injection e2 with e2
  injection e2 with e2
  subst e2
  exact ⟨b,o,e,⟨hb2,.inr (by have:=hb.1; omega)⟩,hcl⟩
 ·have:=h.ln
  simp only [List.length_append,List.length_take,List.length_drop]
  omega
 ·rcases List.mem_append.1 hy with hy | hy
  ·exact h5.qs y (List.mem_of_mem_take hy)
  ·exact h5.qs y (List.mem_of_mem_drop hy)
theorem drop_is {O:List Rk} {l:List (Int × Kp)} (hl:RIs O l) (i:Int) (hg:(get l i).isSome=true):RIs (O.take (pos l i) ++ O.drop (pos l i+1)) (drop l i):=by
 unfold drop RIs
 rw [if_pos hg,List.map_append,List.map_take,List.map_drop,show O.map (·.1)=l from hl]
def RDropP (w:World) (l:List (Int × Kp)) (ids:List Int) (e:Ending) (w':World):Prop :=
 ∃ A n c O,e=.returned (.tuple #[.agg #[.slice A n c],.int .i64 (cntD l ids:Nat)])∧RIs O (dropsL l ids)∧RAt w' A n c O∧Below w.heap.size w w'
set_option maxHeartbeats 12800000 in
theorem rdrop_any (A0:Option Addr) (n0 c0:Nat) (O0:List Rk) (l:List (Int × Kp)) (I:Option Addr) (m mc:Nat) (ids:List Int) (w:World) (h:RAt w A0 n0 c0 O0) (hl:RIs O0 l) (hu:UpI l) (hn:n0≤1000) (hI:ReadsS w (Sc w) 1 I m (itv ids)) (hm:ids.length=m) (hm2:m≤4294967296) :
  Calls Tryz.prog 54 #[.agg #[.slice A0 n0 c0],.slice I m mc] w (RDropP w l ids):=by
 obtain ⟨i0,hi0,hz0,hz1,hz2⟩:=info_parts kept_info
 have hb1:Below w.heap.size w (w.alloc (.cells #[.slice A0 n0 c0] 41)):=(Below.refl _ _).alloc (zG _) _
 have hsz1:(w.alloc (.cells #[.slice A0 n0 c0] 41)).heap.size=w.heap.size+1:=by simp
 have hb2:Below (w.alloc (.cells #[.slice A0 n0 c0] 41)).heap.size (w.alloc (.cells #[.slice A0 n0 c0] 41)) ((w.alloc (.cells #[.slice A0 n0 c0] 41)).alloc (.cells #[.slice none 0 0] 41)):=(Below.refl _ _).alloc (zG _) _
 have hX1:=(Blk.new w 41 #[.slice A0 n0 c0]).below hb2 (by omega)
 have hX2:=Blk.new (w.alloc (.cells #[.slice A0 n0 c0] 41)) 41 #[.slice none 0 0]
 rw [hsz1] at hX2
 have hbb:=hb1.trans (hb2.mono (by omega))
 have HX1:=zh hX1
 have HX2:=zh hX2
 have HB:=zh hbb
 have HR:=zh (RAtX.of h hbb (bx:=w.heap.size) (zG _))
 have HL:=zh hl
 have HI:=zh hI
 have HM:=zh hm
 have hln0:=h.ln
 have HU:=zh hu
 have hle0:l.length≤1000:=by have:=hl.len; omega
 clear h hl hb1 hb2 hX1 hX2 hbb hsz1 hI hm hu
 go_enter Tryz.func54,Tryz.ntmps54
 go_upto_region 1 with (fail)
 generalize ((w.alloc (.cells #[.slice A0 n0 c0] 41)).alloc (.cells #[.slice none 0 0] 41))=w1 at *
 go_wp2_with fail
 generalize hbx:w.heap.size=bx at *
 go_loopw [6,7] (fun a b wr=>∃ (k:Nat) (A:Option Addr) (n c:Nat) (O:List Rk),k≤m∧a=.int .i64 (cntD l (ids.take k):Nat)∧b=.int .i64 k∧Hid (Blk wr bx 41 #[.slice A n c])∧Hid (Blk wr (bx+1) 41 #[.slice none 0 0])∧Hid (RAtX bx wr A n c O)∧Hid (RIs O (dropsL l (ids.take k)))∧Hid (Below bx w wr)) (fun _ b _=>m - (intOf b).toNat)
 case atStart=>exact ⟨0,A0,n0,c0,O0,Nat.zero_le _,rfl,rfl,HX1,HX2,HR,zh (by simpa [dropsL] using HL.out),HB⟩
 case round =>
  obtain ⟨k,A,n,c,O,hk,rfl,rfl,hX,hY,hRx,hL,hB⟩:=hrel
  have hbw:=hB.out
  have hdl:=dropsL_few (ids.take k) l HU.out
  have hcd:=cntD_le (ids.take k) l
  rw [List.length_take] at hcd
  by_cases hlt:k<m
  ·have hkl:k<ids.length:=by rw [HM.out]; exact hlt
   obtain ⟨ib,io,rfl,hbS,hcl⟩:=HI.out.2 (by omega)
   have hc1:=hcl k _ (itv_get ids k hkl)
   have hibl:=hbS.lt
   have hts:ids.take (k+1)=ids.take k ++ [ids[k]]:=List.take_succ_eq_append_getElem hkl
   have hds:=dropsL_snoc l (ids.take k) ids[k]
   have hcs:=cntD_snoc (ids.take k) l ids[k]
   rw [← hts] at hds hcs
   have HDS:=zh hds
   have HCS:=zh hcs
   have hcb:cntD l (ids.take k)≤k:=by omega
   have hnl2:=hL.out.len
   have hnO:=hRx.out.ln
   have Hnil:=zh hRx.out.nl
   have hcap:=hRx.out.cap
   have hn1000:n≤1000:=by omega
   have HU2:=zh hdl.2
   have hc1':Hid (∀ wx,Below wr.heap.size wr wx→wx.cell? ⟨bx,0,none⟩=some (.slice A n c)∧wx.cell? ⟨ib,io+k,none⟩=some (.int .i64 ids[k])):=zh (fun wx hb=>by
    have r0:=(hX.out.below hb hX.out.lt).cell 0
    simp only [zA,zB] at r0
    refine ⟨r0,?_⟩
    have e1:=hb.cell (p:=⟨ib,io+k,none⟩) (by show ib < _; have:=hbw.size; omega)
    have e2:=hbw.cell (p:=⟨ib,io+k,none⟩) (by show ib < _; omega)
    exact e1.trans (e2.trans hc1))
   clear hbS hcl hc1 hts hds hcs hdl hcd hbw
   generalize dropsL l (ids.take k)=m1 at *
   generalize cntD l (ids.take k)=t1 at *
   generalize ids[k]=x at *
   have CPL:Hid (∀ wx,Below wr.heap.size wr wx→Calls Tryz.prog 56 #[.agg #[.slice A n c],.int .i64 x] wx fun e w'=>e=.returned (.tuple #[.int .i64 (pos m1 x:Nat),.bool (get m1 x).isSome])∧Below wx.heap.size wx w'):=zh (fun wx hb=>place_any A n c O m1 x wx (hRx.out.below hb).at_ hL.out HU2.out (by omega))
   have hgp:=(parts HU2.out x).2.2
   have HGP:Hid ((get m1 x).isSome=true→pos m1 x+1≤n):=zh (fun hg=>by
    obtain ⟨h2,_⟩:=hgp.1 hg
    omega)
   have HDI:=zh (drop_is hL.out x)
   have HDN:=zh (drop_no (l:=m1) (i:=x))
   obtain ⟨g,hg⟩:∃ g,(get m1 x).isSome=g:=⟨_,rfl⟩
   rw [hg] at CPL HGP HDI HCS
   have HG:=zh hg
   clear hgp hg
   generalize hpp:pos m1 x=p at *
   clear hpp
   go_upto_region 5 with (fail)
   refine wp_region_grow (specOf [(5,⟨Unit,fun _=>.tuple #[.int .i64 (p:Nat),.bool g],fun _ _=>True⟩)]) (fun wx=>Below (World.heap wr).size wr wx) (fun w1 w2=>Below w1.heap.size w1 w2) (by kernel_rfl) (by kernel_rfl) (stab_cons (fun x wa wb hg h=>trivial) (stab_nil)) (Below.refl _ _).drew ?_
   iterate 5
    refine grow_fix _ ?_ rfl (by rfl) (by rfl) (fun wx hC hD=>?_) ?_
    rotate_left
    ·have hSw:=hc1'.out wx hC
     go_simp
     all_goals with_reducible rfl
    try simp only [Act.put,zD,zE,zF]
   refine grow_give 6 _ rfl (by rfl) (by rfl) (fun wx hC hD=>?_) (fun x=>?_)
   ·refine give_enter (f:=?_) (args:=?_) ?_ ?_
    rotate_left 2
    ·have hSw:=hc1'.out wx hC
     go_simp
     all_goals first | with_reducible rfl | (refine ⟨?_,?_⟩ <;> with_reducible rfl)
    refine (CPL.out wx hC).mono ?_
    rintro e w9 ⟨rfl,hb9⟩
    exact ⟨_,rfl,hb9,hC.trans (hb9.mono hC.size),(),rfl,trivial⟩
   obtain ⟨⟩:=x
   try simp only [Act.put,zD,zE,zF]
   iterate 5
    refine grow_fix _ ?_ rfl (by rfl) (by rfl) (fun wx hC hD=>?_) ?_
    rotate_left
    ·have hSw:=hc1'.out wx hC
     go_simp
     all_goals with_reducible rfl
    try simp only [Act.put,zD,zE,zF]
   refine grow_nil (fun wz hC hF=>?_)
   have HBz:=zh (hB.out.trans (hC.mono (by have h9:=hB.out.size; omega)))
   have hXz:=hX.out.below hC hX.out.lt
   have hYz:=hY.out.below hC hY.out.lt
   have hRz:=hRx.out.below hC
   have HXz:=zh hXz
   have HYz:=zh hYz
   have HRz:=zh hRz
   have hbxz:=hYz.lt
   clear hF hC hXz hYz hRz hX hY hRx CPL hc1'
   try simp only [Act.put,zD,zE,zF]
   cases g with
   | false =>
    have e1:drop m1 x=m1:=HDN.out (by
     have:=HG.out
     cases e:get m1 x with
     | none=>rfl
     | some k=>rw [e] at this; cases this)
    have HE:=zh e1
    clear e1
    go_wp2
    go_roundw
    case rel=>exact ⟨k+1,A,n,c,O,by omega,by rw [HCS.out]; simp,by go_num,HXz,HYz,HRz,by rw [HDS.out,HE.out]; exact hL,HBz⟩
    case measure=>simp [intOf]; omega
   | true =>
    have hp1:=HGP.out rfl
    have HDI1:=zh (HDI.out rfl)
    have q0:=HXz.out.cell 0
    simp only [zA,zB] at q0
    have HOg:=zh (fun (wx:World) (hb:Below wz.heap.size wz wx)=>HRz.out.below hb)
    have R0:=zh (Row.empty 113 6 (by decide) wz)
    have hA0:Below wz.heap.size wz (wz.alloc (.cells #[] 113)):=(Below.refl _ _).alloc (zG _) _
    have HA0:=zh hA0
    have XT:=zh (encR_take O p)
    have XD:=fun q=>zh (encR_drop O q)
    have hxl:=HXz.out.lt
    clear hA0
    have hpi:(p:Int)≤(n:Int):=by omega
    have hpt:((p:Int)).toNat=p:=by omega
    have hp0:(0:Int)≤(p:Int):=by omega
    go_wp2_with (at_builtin; (refine wpList_append_any rfl _ _ 39 rfl (wz.heap.size) 113 i0 _ 6 96 Tryz.underlying39 hi0 hz0 hz1 hz2 rfl (by decide) (_) (0) ([]) rfl (R0.out.own) _ _ _ ((O.take p).flatMap encR) rfl ?r1 ?l1 ?o1 ?m1 ?b1 ?s1 ?_))
    try (case r1=>(have q:=reads_take (p:=p) ((HOg.out _ HA0.out).rd.reads (fun b hb=>hb.1.lt)) (by omega); rw [XT.out]; first | exact q | (rw [World.size_alloc] at q; exact q)))
    try (case l1=>first | exact Hnil.out | (intro e; first | (cases e; done) | exact Hnil.out e | (have:=Hnil.out e; omega) | (simp at e; done) | (simp at e; have:=Hnil.out e; omega)))
    try (case o1=>first | exact encR_one _ | (intro u y1 y2 y3 y4 y5 y6 y7 y8 hy hu; exact encR_one _ u (List.mem_flatMap.2 ⟨_,hy,hu⟩)))
    try (case m1=>unfold maxLen; omega)
    try (case b1=>omega)
    try (case s1=>first | omega | (simp; done) | (simp; omega))
    intro v1 w1 ho1 hg1 _
    have R1:Hid (Row 113 6 wz.heap.size wz w1 v1 p ((O.take p).flatMap encR)):=zh ⟨by simpa using ho1,R0.out.bel.grown hg1 (by simp) (fun b hb=>(R0.out.own.lt b hb).1)⟩
    have hsr1:=R1.out.bel.size
    have q1:=(R1.out.bel.cell (p:=⟨bx,0,none⟩) hxl).trans q0
    clear ho1 hg1 R0 HA0 q0
    have hqn1:((p:Int)+1)≤(n:Int):=by omega
    have hqt:((p:Int)+1).toNat=p+1:=by omega
    have hq0:(0:Int)≤(p:Int)+1:=by omega
    by_cases hcq:c=p+1
    ·go_wp2_with (at_builtin; (refine wpList_append_any rfl _ _ 39 rfl (wz.heap.size) 113 i0 _ 6 96 Tryz.underlying39 hi0 hz0 hz1 hz2 rfl (by decide) (v1) (p) (_) rfl (R1.out.own) _ _ _ ((O.drop (p+1)).flatMap encR) rfl ?r2 ?l2 ?o2 ?m2 ?b2 ?s2 ?_))
     try (case r2=>(rw [List.drop_eq_nil_of_le (by omega)]; exact ⟨(by have h0:n - (p+1)=0:=(by omega); simp [h0]),fun h=>absurd h (by omega)⟩))
     try (case l2=>first | exact Hnil.out | (intro e; first | (cases e; done) | exact Hnil.out e | (have:=Hnil.out e; omega) | (simp at e; done) | (simp at e; have:=Hnil.out e; omega)))
     try (case o2=>first | exact encR_one _ | (intro u y1 y2 y3 y4 y5 y6 y7 y8 hy hu; exact encR_one _ u (List.mem_flatMap.2 ⟨_,hy,hu⟩)))
     try (case m2=>unfold maxLen; omega)
     try (case b2=>omega)
     try (case s2=>first | omega | (simp; done) | (simp; omega))
     intro v5 w5 ho5 hg5 _
     have ho5':w5.ownsRow wz.heap.size 113 6 v5 (p+(n - (p+1))) ((O.take p).flatMap encR ++ (O.drop (p+1)).flatMap encR):=by first | exact ho5 | (simpa using ho5) | (rw [show p+(n - (p+1))=n - 1 from (by omega)]; simpa using ho5) | (rw [show n - (p+1)=0 from (by omega)]; simpa using ho5)
     have R5:=R1.out.app hsr1 ho5' hg5
     obtain ⟨A6,c6,rfl,hR6⟩:=HRz.out.cut R5 rfl hp1 hbxz
     have hX5:=HXz.out.below R5.bel hxl
     have hY5:=HYz.out.below R5.bel HYz.out.lt
     have hB5:=HBz.out.trans (R5.bel.mono (by have h9:=HBz.out.size; omega))
     have z0:=hX5.frozen 0
     have z1:=hX5.cell 0
     simp only [zA,zB] at z1
     have HX6:Hid (Blk (w5.setCell ⟨bx,0,none⟩ (.slice A6 (p+(n - (p+1))) c6)) bx 41 #[.slice A6 (p+(n - (p+1))) c6]):=zh (by simpa using hX5.set_ 0 (.slice A6 (p+(n - (p+1))) c6))
     have HY6:=zh (hY5.far (p:=⟨bx,0,none⟩) (by show bx+1≠bx; omega) (.slice A6 (p+(n - (p+1))) c6))
     have HR6:=zh (hR6.set (.inl rfl) (.slice A6 (p+(n - (p+1))) c6))
     have HB6:=zh (hB5.grown (grownBy_set w5 bx 0 (.slice A6 (p+(n - (p+1))) c6)) (by have:=hX5.lt; omega) (fun b hb=>by injection hb with hb; omega))
     clear ho5 ho5' hg5 R5 hR6 hX5 hY5 hB5
     go_wp2
     go_roundw
     case rel=>exact ⟨k+1,A6,p+(n - (p+1)),c6,O.take p ++ O.drop (p+1),by omega,by rw [HCS.out]; simp,by go_num,HX6,HY6,HR6,by rw [HDS.out]; exact HDI1,HB6⟩
     case measure=>simp [intOf]; omega
    ·go_wp2_with (at_builtin; (refine wpList_append_any rfl _ _ 39 rfl (wz.heap.size) 113 i0 _ 6 96 Tryz.underlying39 hi0 hz0 hz1 hz2 rfl (by decide) (v1) (p) (_) rfl (R1.out.own) _ _ _ ((O.drop (p+1)).flatMap encR) rfl ?r3 ?l3 ?o3 ?m3 ?b3 ?s3 ?_))
     try (case r3=>(have q:=reads_cut (p:=p+1) ((HOg.out _ R1.out.bel).rd.reads (fun b hb=>hb.1.lt)) (by omega) hcap; rw [if_neg hcq] at q; rw [(XD (p+1)).out]; first | exact q | (simpa [add_lit] using q)))
     try (case l3=>first | exact Hnil.out | (intro e; first | (cases e; done) | exact Hnil.out e | (have:=Hnil.out e; omega) | (simp at e; done) | (simp at e; have:=Hnil.out e; omega)))
     try (case o3=>first | exact encR_one _ | (intro u y1 y2 y3 y4 y5 y6 y7 y8 hy hu; exact encR_one _ u (List.mem_flatMap.2 ⟨_,hy,hu⟩)))
     try (case m3=>unfold maxLen; omega)
     try (case b3=>omega)
     try (case s3=>first | omega | (simp; done) | (simp; omega))
     intro v5 w5 ho5 hg5 _
     have ho5':w5.ownsRow wz.heap.size 113 6 v5 (p+(n - (p+1))) ((O.take p).flatMap encR ++ (O.drop (p+1)).flatMap encR):=by first | exact ho5 | (simpa using ho5) | (rw [show p+(n - (p+1))=n - 1 from (by omega)]; simpa using ho5) | (rw [show n - (p+1)=0 from (by omega)]; simpa using ho5)
     have R5:=R1.out.app hsr1 ho5' hg5
     obtain ⟨A6,c6,rfl,hR6⟩:=HRz.out.cut R5 rfl hp1 hbxz
     have hX5:=HXz.out.below R5.bel hxl
     have hY5:=HYz.out.below R5.bel HYz.out.lt
     have hB5:=HBz.out.trans (R5.bel.mono (by have h9:=HBz.out.size; omega))
     have z0:=hX5.frozen 0
     have z1:=hX5.cell 0
     simp only [zA,zB] at z1
     have HX6:Hid (Blk (w5.setCell ⟨bx,0,none⟩ (.slice A6 (p+(n - (p+1))) c6)) bx 41 #[.slice A6 (p+(n - (p+1))) c6]):=zh (by simpa using hX5.set_ 0 (.slice A6 (p+(n - (p+1))) c6))
     have HY6:=zh (hY5.far (p:=⟨bx,0,none⟩) (by show bx+1≠bx; omega) (.slice A6 (p+(n - (p+1))) c6))
     have HR6:=zh (hR6.set (.inl rfl) (.slice A6 (p+(n - (p+1))) c6))
     have HB6:=zh (hB5.grown (grownBy_set w5 bx 0 (.slice A6 (p+(n - (p+1))) c6)) (by have:=hX5.lt; omega) (fun b hb=>by injection hb with hb; omega))
     clear ho5 ho5' hg5 R5 hR6 hX5 hY5 hB5
     go_wp2
     go_roundw
     case rel=>exact ⟨k+1,A6,p+(n - (p+1)),c6,O.take p ++ O.drop (p+1),by omega,by rw [HCS.out]; simp,by go_num,HX6,HY6,HR6,by rw [HDS.out]; exact HDI1,HB6⟩
     case measure=>simp [intOf]; omega
  ·obtain rfl:k=m:=by omega
   have e1:ids.take k=ids:=by rw [← HM.out]; exact List.take_length
   rw [e1] at hL
   rw [e1]
   have q0:=hX.out.cell 0
   simp only [zA,zB] at q0
   have z0:=hY.out.frozen 0
   have z1:=hY.out.cell 0
   simp only [zA,zB] at z1
   have hX3:Hid (Blk (wr.setCell ⟨bx+1,0,none⟩ (.slice A n c)) (bx+1) 41 #[.slice A n c]):=zh (by simpa using hY.out.set_ 0 (.slice A n c))
   have hB3:Below bx w (wr.setCell ⟨bx+1,0,none⟩ (.slice A n c)):=hB.out.grown (grownBy_set wr _ 0 _) (by have:=hX.out.lt; omega) (fun b hb=>by injection hb with hb; omega)
   have HFIN:Hid (RDropP w l ids (.returned (.tuple #[.agg #[.slice A n c],.int .i64 (cntD l ids:Nat)])) (wr.setCell ⟨bx+1,0,none⟩ (.slice A n c))):=zh ⟨A,n,c,O,rfl,hL.out,(hRx.out.set (.inr rfl) _).at_,by rw [hbx]; exact hB3⟩
   clear hL hRx hB3 e1
   go_wp2
   refine bodyPost_ret (Mx.results_ct rfl rfl (run_loadVar_row _ (bx+1) 41 41 #[.slice A n c] (0,0) _ hX3.out Tryz.underlying41 rfl (by kernel_rfl))) rfl ?_
   exact HFIN.out
end Go.Proofs.YtlfpfkallgkjdaaGreat.Al
end

section
namespace Go.Proofs.YtlfpfkallgkjdaaGreat.Al
open Go.RowKit Go.Maps Ut Tk Qy Qp Ev Mv
set_option maxHeartbeats 12800000 in
theorem step_drop {n0:Nat} {w:World} {Bb K:Nat} {l:List (Int × Kp)} (o:Opr) (I:Option Addr) (m mc:Nat) (hS:St n0 w Bb K l) (hn0:n0≤w.heap.size) (hK:K≤100000) (hO:OpV w o I m mc) (hd:o.d % 5=3) :
  Calls Tryz.prog 24 #[.pointer (some ⟨Bb,0,none⟩),.agg #[.int .u8 o.d,.int .i64 o.id,.string o.s,.slice I m mc]] w (StepP n0 w Bb K l o):=by
 obtain ⟨X,A,n,c,O,hBb,hA,hR,hL⟩:=hS.ex
 have hb1:Below w.heap.size w (w.alloc (.cells #[.int .u8 o.d,.int .i64 o.id,.string o.s,.slice I m mc] 60)):=(Below.refl _ _).alloc (zG _) _
 have hbx:=Blk.new w 60 #[.int .u8 o.d,.int .i64 o.id,.string o.s,.slice I m mc]
 have p0:=hbx.cell 0
 have p1:=hbx.cell 1
 have p2:=hbx.cell 2
 have p3:=hbx.cell 3
 simp only [zA,zB,zC] at p0 p1 p2 p3
 have HBb:=zh (hBb.below hb1 hBb.lt)
 have HA:=zh (hA.new_below hb1)
 have HR:=zh (hR.below hb1)
 have HL:=zh hL
 have HO:=zh (hO.below hb1)
 have HB:=zh hb1
 have HBX:=zh hbx
 have hfew:=hS.few
 have hbb:=hS.bb
 have hnl:=hL.len
 have hnO:=hR.ln
 have hm2:=hO.few
 have hmcap:=hO.cap
 have hrem:=u8rem hO.wd
 have hwd:=hO.wd
 have hz:w.heap.size<(w.alloc (.cells #[.int .u8 o.d,.int .i64 o.id,.string o.s,.slice I m mc] 60)).heap.size:=by simp
 have HD:=zh hd
 rw [hd] at hrem
 clear hS hBb hA hR hL hO hb1 hbx
 obtain ⟨d,id,s,ids⟩:=o
 simp only at *
 go_enter Tryz.func24,Tryz.ntmps24
 go_upto_region 1 with (fail)
 generalize (w.alloc (.cells #[.int .u8 d,.int .i64 id,.string s,.slice I m mc] 60))=w1 at *
 have hsw:=HB.out.size
 have hbbl:=HBb.out.lt
 go_upto_if 18 with (fail)
 go_cut [5] from 14 to 20 (fun v wx=>∃ s2:ByteArray,v=.string s2∧Hid (cutS s=s2)∧w1=wx)
 case first =>
  by_cases hs : 1100<s.size
  ·have hs':(1100:Int)<(s.size:Int):=by omega
   go_wp2_with fail
   go_meet
   exact ⟨_,rfl,zh (if_pos hs),rfl⟩
  ·have hs':¬ (1100:Int)<(s.size:Int):=by omega
   go_wp2_with fail
   go_meet
   exact ⟨_,rfl,zh (if_neg hs),rfl⟩
 case rest =>
 obtain ⟨s2,rfl,HCS,rfl⟩:=hcut
 go_upto_if 25 with (fail)
 go_cut [6] from 21 to 27 (fun v wx=>∃ m9:Nat,v=.slice I m9 mc∧m9≤10∧Hid (ReadsS w1 (Sc w1) 1 I m9 (itv (cutI ids)))∧Hid ((cutI ids).length=m9)∧w1=wx)
 case first =>
  by_cases hi : 10<m
  ·have hi':(10:Int)<(m:Int):=by omega
   have h10:(10:Int)≤(mc:Int):=by omega
   go_wp2_with fail
   go_meet
   exact ⟨10,rfl,zG _,zh (cutI_reads HO.out (by omega)),zh (by have h9:ids.length=m:=HO.out.ln; unfold cutI; rw [List.length_take]; omega),rfl⟩
  ·have hi':¬ (10:Int)<(m:Int):=by omega
   have hie:cutI ids=ids:=by have h9:ids.length=m:=HO.out.ln; unfold cutI; exact List.take_of_length_le (by omega)
   go_wp2_with fail
   go_meet
   exact ⟨m,rfl,by omega,zh (by rw [hie]; exact HO.out.rd),zh (by rw [hie]; exact HO.out.ln),rfl⟩
 case rest =>
 obtain ⟨m9,rfl,hm9,HRI,HIL,rfl⟩:=hcut
 have HIW:Hid (∀ i∈cutI ids,I64 i):=zh (fun i h=>HO.out.wi i (List.mem_of_mem_take h))
 go_upto_region 7 with (fail)
 have q0:=HBb.out.cell 0
 simp only [zA,zB,zC] at q0
 have CD:=zh (drop_n HA.out I m9 mc (cutI ids) HRI.out HIL.out (by omega) HIW.out)
 go_wp2_with fail
 refine CD.out.mono ?_
 rintro e w2 ⟨rfl,hA2,hf2⟩
 have HA2:=zh hA2
 have HBb2:=zh (hf2.blk HBb.out)
 have hR2:=HR.out.chg hf2 Frm.noSc
 have hI2:=hf2.reads HRI.out
 have hb2:=hf2.below (by omega:n0≤w1.heap.size)
 have HB2:=zh ((HB.out.mono hn0).trans hb2)
 have hs2:=hf2.size
 have q0:=HBb2.out.cell 0
 have q1:=HBb2.out.cell 1
 simp only [zA,zB,zC] at q0 q1
 have CR:=zh (rdrop_any A n c O l I m9 mc (cutI ids) w2 hR2 HL.out HA.out.up (by omega) hI2 HIL.out (by omega))
 clear hA2 hf2 hR2 hI2 hb2 CD
 go_wp2_with fail
 refine CR.out.mono ?_
 rintro e w3 ⟨A9,n9,c9,O9,rfl,hL9,hR9,hb3⟩
 have hs3:=hb3.size
 have hb4:Below w3.heap.size w3 (w3.alloc (.cells #[.slice A9 n9 c9] 41)):=(Below.refl _ _).alloc (zG _) _
 have hb34:=hb3.trans (hb4.mono hs3)
 have HBb4:=zh (HBb2.out.below hb34 HBb2.out.lt)
 have HA4:=zh (HA2.out.new_below hb34)
 have HR4:=zh (hR9.below hb4)
 have HB4:=zh (HB2.out.trans (hb34.mono (by omega)))
 have HL9:=zh hL9
 have hx4:=(Blk.new w3 41 #[.slice A9 n9 c9]).cell 0
 simp only [zA,zB] at hx4
 have hbl4:=HBb4.out.lt
 clear hb3 hb4 hb34 hL9 hR9 CR HBb2 HA2 q0 q1
 go_upto_region 15 with (fail)
 generalize w3.alloc (.cells #[.slice A9 n9 c9] 41)=w4 at *
 have z1:=HBb4.out.cell 1
 have zf:=HBb4.out.frozen 1
 simp only [zA,zB,zC] at z1
 have hfin:StepP n0 w Bb K l ⟨d,id,s,ids⟩ (.returned (.bool true)) (w4.setCell ⟨Bb,1,none⟩ (.slice A9 n9 c9)):=by
  refine ⟨dropsL l (cutI ids),StepR.drop HD.out,rfl,⟨⟨X,A9,n9,c9,O9,by simpa using HBb4.out.set_ 1 (.slice A9 n9 c9),?_,rat_set HBb4.out (noIS_two _ _ _ _) HR4.out 1 _,HL9.out⟩,?_,hbb⟩,?_⟩
  ·have:=aln_set HBb4.out (noIS_two _ _ _ _) (by decide) HA4.out 1 (.slice A9 n9 c9)
   obtain ⟨cn,M1,M2',F1,F2,g1,g2⟩:=this.ex
   exact ⟨cn,M1,M2',F1,F2,by omega,g2⟩
  ·have:=(dropsL_few (cutI ids) l HA.out.up).1
   omega
  ·exact HB4.out.grown (grownBy_set w4 Bb 1 _) (by have:=HB4.out.size; omega) (fun b hb=>by injection hb with hb; omega)
 have FIN:=zh hfin
 clear hfin
 go_wp2
 go_ret
 exact FIN.out
end Go.Proofs.YtlfpfkallgkjdaaGreat.Al
end

section
namespace Go.Proofs.YtlfpfkallgkjdaaGreat.Al
open Go.RowKit Go.Maps Ut Tk Qy Qp Ev Mv
set_option maxHeartbeats 6400000 in
theorem rask_any (A:Option Addr) (n c:Nat) (O:List Rk) (l:List (Int × Kp)) (t:Int) (F:Option Addr) (fn fc:Nat) (fs:List Fl) (w:World) (h:RAt w A n c O) (hl:RIs O l) (hok:∀ x∈l,KOk x.2) (hn:n≤1000) (hF:FlAt w w.heap.size F fn fc fs) :
  Calls Tryz.prog 20 #[.agg #[.slice A n c],.agg #[.int .i64 t,.slice F fn fc]] w (NumsP w (if chkE fs=0 then (l.filter (fun x=>matchB fs x.2.q)).map (·.1) else [])):=by
 obtain ⟨i0,hi0,hz0,hz1,hz2⟩:=info_parts int_info
 have hb1:Below w.heap.size w (w.alloc (.cells #[.slice A n c] 41)):=(Below.refl _ _).alloc (zG _) _
 have hb2:Below (w.alloc (.cells #[.slice A n c] 41)).heap.size (w.alloc (.cells #[.slice A n c] 41)) ((w.alloc (.cells #[.slice A n c] 41)).alloc (.cells #[.int .i64 t,.slice F fn fc] 33)):=(Below.refl _ _).alloc (zG _) _
 have hx1:=(Blk.new w 41 #[.slice A n c]).below hb2 (by simp)
 have hx2:=Blk.new (w.alloc (.cells #[.slice A n c] 41)) 33 #[.int .i64 t,.slice F fn fc]
 have hsz:(w.alloc (.cells #[.slice A n c] 41)).heap.size=w.heap.size+1:=by simp
 rw [hsz] at hx2
 have hb:=hb1.trans (hb2.mono (by omega))
 have HX:=zh hx1
 have HE:=zh hx2
 have HB:=zh hb
 have H:=zh h
 have HF:=zh hF
 have hln:=h.ln
 have hsw2:w.heap.size+2≤((w.alloc (.cells #[.slice A n c] 41)).alloc (.cells #[.int .i64 t,.slice F fn fc] 33)).heap.size:=by simp
 have HOK:Hid (∀ x∈O,KOk x.1.2):=zh (fun x hx=>by
  have e:O.map (·.1)=l:=hl
  exact hok x.1 (by rw [← e]; exact List.mem_map.2 ⟨x,hx,rfl⟩))
 have HL:Hid ((l.filter (fun x=>matchB fs x.2.q)).map (·.1)=(O.filter (fun y=>(fun x:Int × Kp=>matchB fs x.2.q) y.1)).map (fun x=>x.1.1)):=zh (by
  rw [← show O.map (·.1)=l from hl,List.filter_map,List.map_map]; rfl)
 clear h hl hb1 hb2 hx1 hx2 hb hsz hok hF
 obtain ⟨RR,hRR⟩:∃ RR,(if chkE fs=0 then (l.filter (fun x=>matchB fs x.2.q)).map (·.1) else [])=RR:=⟨_,rfl⟩
 rw [hRR]
 have HRR:=zh hRR
 clear hRR
 have CK:Hid (∀ wx,Below w.heap.size w wx→Calls Tryz.prog 22 #[.agg #[.int .i64 t,.slice F fn fc]] wx fun e w'=>e=.returned (.int .i64 (chkE fs))∧Below wx.heap.size wx w'):=zh (fun wx hb=>rcheck_any t F fn fc fs wx (flgrow HF.out hb))
 obtain ⟨cc,hcc⟩:∃ cc,chkE fs=cc:=⟨_,rfl⟩
 rw [hcc] at CK
 have HCC:=zh hcc
 clear hcc
 go_enter Tryz.func20,Tryz.ntmps20
 go_upto_region 1 with (fail)
 generalize ((w.alloc (.cells #[.slice A n c] 41)).alloc (.cells #[.int .i64 t,.slice F fn fc] 33))=w1 at *
 go_wp2_with fail
 go_loopw [5,6] (fun v i wr=>∃ (u:Value) (k:Nat) (L:List Int),u=v∧k≤n∧i=.int .i64 k∧(k=0∨cc=0)∧L.length≤k∧Hid (L=((O.take k).filter (fun y=>(fun x:Int × Kp=>matchB fs x.2.q) y.1)).map (fun x=>x.1.1))∧Hid (wr.ownsRow (w.heap.size+2) 3 1 u L.length (itv L))∧Hid (Below w.heap.size w wr)∧Hid (Blk wr w.heap.size 41 #[.slice A n c])∧Hid (Blk wr (w.heap.size+1) 33 #[.int .i64 t,.slice F fn fc])) (fun _ i _=>n - (intOf i).toNat)
 case atStart=>exact ⟨_,0,[],rfl,Nat.zero_le _,rfl,.inl rfl,zG _,zh rfl,zh (World.ownsRow_nil _ _ _ _),HB,HX,HE⟩
 case round =>
  obtain ⟨u,k,L,rfl,hk,rfl,hkc,hLk,hLe,hO,hB,hX,hE⟩:=hrel
  have hbw:=hB.out
  have hsw:=hbw.size
  have q0:=hX.out.cell 0
  have e0:=hE.out.cell 0
  have e1:=hE.out.cell 1
  simp only [zA,zB,zC] at q0 e0 e1
  by_cases hlt:k<n
  ·have hkl:k<O.length:=by omega
   have hki:(k:Int)<(n:Int):=by omega
   have hki0:(0:Int)≤(k:Int):=by omega
   have CK1:=zh (CK.out wr hbw)
   by_cases hck:cc=0
   ·subst hck
    obtain ⟨tb,tq,rfl,htb,d0,d1,d2,d3,d4,d5⟩:=(H.out.below hbw).at_ hkl
    have hqs:=(H.out.below hbw).qs _ (List.getElem_mem hkl)
    have hqat:QAt wr wr.heap.size O[k].1.2.q [.int .i64 O[k].1.2.q.kind,.string O[k].1.2.q.name,.slice O[k].2.1.1 O[k].2.1.2.1 O[k].2.1.2.2,.slice O[k].2.2.1 O[k].2.2.2.1 O[k].2.2.2.2]:=hqs.at_ (fun b hb=>hb.lt)
    have hko:=HOK.out _ (List.getElem_mem hkl)
    have CQ:Hid (∀ wx,Below wr.heap.size wr wx→Calls Tryz.prog 23 #[.agg #[.int .i64 O[k].1.2.q.kind,.string O[k].1.2.q.name,.slice O[k].2.1.1 O[k].2.1.2.1 O[k].2.1.2.2,.slice O[k].2.2.1 O[k].2.2.2.1 O[k].2.2.2.2],.agg #[.int .i64 t,.slice F fn fc]] wx fun e w'=>e=.returned (.bool ((fun x:Int × Kp=>matchB fs x.2.q) O[k].1))∧Below wx.heap.size wx w'):=zh (fun wx hb=>by
     have hfl:=flgrow HF.out (hbw.trans (hb.mono hsw))
     exact (rmatch_any fs O[k].1.2.q hko.q.sz wx _ _ _ _ t F fn fc (hqat.grow hb) (flEvt hfl HCC.out)))
    have HTS:Hid (((O.take (k+1)).filter (fun y=>(fun x:Int × Kp=>matchB fs x.2.q) y.1)).map (fun x=>x.1.1)=((O.take k).filter (fun y=>(fun x:Int × Kp=>matchB fs x.2.q) y.1)).map (fun x=>x.1.1) ++ if (fun x:Int × Kp=>matchB fs x.2.q) O[k].1=true then [O[k].1.1] else []):=zh (by
     rw [List.take_succ_eq_append_getElem hkl,List.filter_append,List.map_append]
     congr 1
     exact filt_one (fun y:Rk=>(fun x:Int × Kp=>matchB fs x.2.q) y.1) (fun x:Rk=>x.1.1) O[k])
    have Hc5:Hid (∀ wx,Below wr.heap.size wr wx→wx.cell? ⟨w.heap.size,0,none⟩=some (.slice (some ⟨tb,tq,none⟩) n c)∧wx.cell? ⟨w.heap.size+1,0,none⟩=some (.int .i64 t)∧wx.cell? ⟨w.heap.size+1,1,none⟩=some (.slice F fn fc)∧wx.cell? ⟨tb,tq+k * 6,none⟩=some (.int .i64 O[k].1.1)∧wx.cell? ⟨tb,tq+k * 6+2,none⟩=some (.int .i64 O[k].1.2.q.kind) ∧
      wx.cell? ⟨tb,tq+k * 6+3,none⟩=some (.string O[k].1.2.q.name)∧wx.cell? ⟨tb,tq+k * 6+4,none⟩=some (.slice O[k].2.1.1 O[k].2.1.2.1 O[k].2.1.2.2)∧wx.cell? ⟨tb,tq+k * 6+5,none⟩=some (.slice O[k].2.2.1 O[k].2.2.2.1 O[k].2.2.2.2)):=zh (fun wx hb =>
     ⟨(hb.cell (p:=⟨w.heap.size,0,none⟩) hX.out.lt).trans q0,(hb.cell (p:=⟨w.heap.size+1,0,none⟩) hE.out.lt).trans e0,(hb.cell (p:=⟨w.heap.size+1,1,none⟩) hE.out.lt).trans e1,(hb.cell (p:=⟨tb,tq+k * 6,none⟩) htb).trans d0,
      (hb.cell (p:=⟨tb,tq+k * 6+2,none⟩) htb).trans d2,(hb.cell (p:=⟨tb,tq+k * 6+3,none⟩) htb).trans d3,(hb.cell (p:=⟨tb,tq+k * 6+4,none⟩) htb).trans d4,(hb.cell (p:=⟨tb,tq+k * 6+5,none⟩) htb).trans d5⟩)
    clear hbw hqs hqat hko d0 d1 d2 d3 d4 d5
    generalize O[k].2.1.1=s1 at *
    generalize O[k].2.1.2.1=s2 at *
    generalize O[k].2.1.2.2=s3 at *
    generalize O[k].2.2.1=s4 at *
    generalize O[k].2.2.2.1=s5 at *
    generalize O[k].2.2.2.2=s6 at *
    generalize (fun x:Int × Kp=>matchB fs x.2.q) O[k].1=pb at *
    generalize O[k].1.2.q.kind=qk at *
    generalize O[k].1.2.q.name=qn at *
    generalize O[k].1.1=xi at *
    go_upto_region 5 with (first
     | (go_at_call 22; refine CK1.out.mono ?_; rintro e w2 ⟨rfl,hb2⟩)
     | go_in)
    have HB2:=zh hb2
    have Hc6:Hid (∀ wx,Below w2.heap.size w2 wx→_):=zh (fun wx hb=>Hc5.out wx (HB2.out.trans (hb.mono HB2.out.size)))
    have CQ2:Hid (∀ wx,Below w2.heap.size w2 wx→_):=zh (fun wx hb=>CQ.out wx (HB2.out.trans (hb.mono HB2.out.size)))
    clear hb2 CK1 CQ Hc5 q0 e0 e1
    refine wp_region_grow (specOf [(7,⟨Unit,fun _=>.bool pb,fun _ _=>True⟩)]) (fun wx=>Below (World.heap w2).size w2 wx) (fun w1 w2=>Below w1.heap.size w1 w2) (by kernel_rfl) (by kernel_rfl) (stab_cons (fun x wa wb hg h=>trivial) (stab_nil)) (Below.refl _ _).drew ?_
    iterate 7
     refine grow_fix _ ?_ rfl (by rfl) (by rfl) (fun wx hC hD=>?_) ?_
     rotate_left
     ·have hSw:=Hc6.out wx hC
      go_simp
      all_goals with_reducible rfl
     try simp only [Act.put,zD,zE,zF]
    refine grow_give 8 _ rfl (by rfl) (by rfl) (fun wx hC hD=>?_) (fun x=>?_)
    ·refine give_enter (f:=?_) (args:=?_) ?_ ?_
     rotate_left 2
     ·have hSw:=Hc6.out wx hC
      go_simp
      all_goals first | with_reducible rfl | (refine ⟨?_,?_⟩ <;> with_reducible rfl)
     refine (CQ2.out wx hC).mono ?_
     rintro e w9 ⟨rfl,hb9⟩
     exact ⟨_,rfl,hb9,hC.trans (hb9.mono hC.size),(),rfl,trivial⟩
    obtain ⟨⟩:=x
    try simp only [Act.put,zD,zE,zF]
    refine grow_nil (fun w5 hC hF=>?_)
    have HB3:=zh (HB2.out.trans (hC.mono HB2.out.size))
    have HB4:=zh (hB.out.trans (HB3.out.mono hsw))
    have HO4:=zh (own_keep hO.out HB3.out)
    have HX4:=zh (hX.out.below HB3.out hX.out.lt)
    have HE4:=zh (hE.out.below HB3.out hE.out.lt)
    have hs4:=HB4.out.size
    obtain ⟨y0,_,_,y3,_⟩:=Hc6.out w5 hC
    clear hF hC CQ2 Hc6 hB hO hX hE
    cases pb with
    | false =>
     have HLE:Hid (L=((O.take (k+1)).filter (fun y=>(fun x:Int × Kp=>matchB fs x.2.q) y.1)).map (fun x=>x.1.1)):=zh (by rw [HTS.out,hLe.out]; simp)
     go_wp2_with fail
     go_roundw
     case rel=>exact ⟨_,k+1,L,rfl,by omega,by go_num,(by first | exact .inr rfl | exact .inr trivial),by omega,HLE,HO4,HB4,HX4,HE4⟩
     case measure=>simp [intOf]; omega
    | true =>
     have HLE:Hid (L ++ [xi]=((O.take (k+1)).filter (fun y=>(fun x:Int × Kp=>matchB fs x.2.q) y.1)).map (fun x=>x.1.1)):=zh (by rw [HTS.out,hLe.out]; simp)
     have HIT:Hid (itv (L ++ [xi])=itv L ++ [.int .i64 xi]∧(L ++ [xi]).length=L.length+1):=zh ⟨by simp [itv],by simp⟩
     clear HTS hLe
     generalize hzl:itv L=zs at *
     clear hzl
     have hxl:=HX4.out.lt
     have hel:=HE4.out.lt
     go_wp2_with (first
      | (at_builtin; refine wpList_append_own_at _ rfl _ _ 38 rfl (w.heap.size+2) 3 i0 _ 1 8 Tryz.underlying38 hi0 hz0 hz1 hz2 rfl (by decide) _ L.length zs rfl (HO4.out.alloc _) ⟨w5.heap.size,0,none⟩ 1 1 [.int .i64 xi] rfl rfl (World.news_of_block (cs:=#[.int .i64 xi]) (t:=3) (fr:=(0,0)) (heap_alloc_new w5 _)) (by simp [Value.oneCell']) ?k1 ?k2 ?k3 ?_)
      | go_in)
     case k1=>unfold maxLen; omega
     case k2=>omega
     try (case k3=>first | omega | (rw [World.size_alloc]; omega))
     intro v4 w6 ho4 hg4 _ _
     have HO6:Hid (w6.ownsRow (w.heap.size+2) 3 1 v4 (L ++ [xi]).length (itv (L ++ [xi]))):=zh (by rw [HIT.out.1,HIT.out.2]; exact ho4)
     have HB6:=zh ((HB4.out.alloc hs4 (.cells #[.int .i64 xi] 3)).grown hg4 (by rw [World.size_alloc]; omega) (fun j hj=>by have:=(HO4.out.lt j hj).1; omega))
     have HX6:=zh ((HX4.out.alloc (.cells #[.int .i64 xi] 3)).grown hg4 (fun e=>by have:=(HO4.out.lt _ e.symm).1; omega))
     have HE6:=zh ((HE4.out.alloc (.cells #[.int .i64 xi] 3)).grown hg4 (fun e=>by have:=(HO4.out.lt _ e.symm).1; omega))
     have hl1:=HIT.out.2
     clear ho4 hg4
     go_wp2_with fail
     go_roundw
     case rel=>exact ⟨_,k+1,L ++ [xi],rfl,by omega,by go_num,(by first | exact .inr rfl | exact .inr trivial),by omega,HLE,HO6,HB6,HX6,HE6⟩
     case measure=>simp [intOf]; omega
   ·have hk0:k=0:=by
     rcases hkc with h | h
     ·exact h
     ·exact absurd h hck
    have hcb:(cc == 0)=false:=beq_eq_false_iff_ne.2 hck
    have hrr:RR=[]:=by rw [← HRR.out,HCC.out,if_neg hck]
    have hL0:L=[]:=by
     subst hk0
     exact List.length_eq_zero_iff.1 (by omega)
    go_wp2_with (first
     | (go_at_call 22; refine CK1.out.mono ?_; rintro e w2 ⟨rfl,hb2⟩)
     | go_in)
    have FIN:Hid (NumsP w RR (.returned u) w2):=zh ⟨u,rfl,by rw [hrr,← hL0]; exact own_mono (own_keep hO.out hb2) (by omega),hB.out.trans (hb2.mono hsw)⟩
    clear hb2 CK1
    go_wp2
    go_ret
    exact FIN.out
  ·obtain rfl:k=n:=by omega
   have hrr:L=RR:=by
    rw [← HRR.out,HCC.out]
    rcases hkc with h | h
    ·have h1:L=[]:=List.length_eq_zero_iff.1 (by omega)
     have h2:O=[]:=List.length_eq_zero_iff.1 (by omega)
     rw [h1]
     split
     ·rw [HL.out,h2]; rfl
     ·rfl
    ·rw [if_pos h,HL.out,hLe.out,← hln,List.take_length]
   have FIN:Hid (NumsP w RR (.returned u) wr):=zh ⟨u,rfl,by rw [← hrr]; exact own_mono hO.out (by omega),hB.out⟩
   clear hO
   go_wp2
   go_ret
   exact FIN.out
end Go.Proofs.YtlfpfkallgkjdaaGreat.Al
end

section
namespace Go.Proofs.YtlfpfkallgkjdaaGreat.Gi
open Go.RowKit Ut Tk Qy Ev Qp Mx
structure FewL (L:List Bt):Prop where
 num:(L.map fun b=>min 66 b.2.length).sum≤80
 light:∀ b∈L,∀ i (h:i<b.2.length),i<66→LightP b.2[i].2
def FewQ (w:World) (L:List Bt) (e:Ending) (w':World):Prop :=
 (e=.returned (.tuple #[.slice none 0 0,.bool false])∧Below w.heap.size w w')∨(∃ v,e=.returned (.tuple #[v,.bool true])∧BOwn w' w.heap.size w.heap.size v (L.take 8)∧FewL (L.take 8)∧Below w.heap.size w w')
theorem sum_snoc (l:List Bt) (b:Bt):((l ++ [b]).map fun b=>min 66 b.2.length).sum=(l.map fun b=>min 66 b.2.length).sum+min 66 b.2.length:=by simp [List.sum_append]
set_option maxHeartbeats 3200000 in
theorem fewL_any (A:Option Addr) (n c:Nat) (L:List Bt) (w:World) (hB:BtsAt w (·<w.heap.size) w.heap.size A n c L) (hn:n≤4398046511104) :
  Calls Tryz.prog 29 #[.slice A n c] w (FewQ w L):=by
 obtain ⟨i0,hi0,hz0,hz1,hz2⟩:=info_parts batch_info
 have HG:Hid (∀ wx,Below w.heap.size w wx→∀ i (hi:i<L.length),∃ b o E m q,A=some ⟨b,o,none⟩∧b<wx.heap.size∧wx.cell? ⟨b,o+i * 2,none⟩=some (.int .i64 L[i].1)∧wx.cell? ⟨b,o+i * 2+1,none⟩=some (.slice E m q)∧EvsAt wx w.heap.size E m q L[i].2):=zh (fun wx hb i hi=>by
  obtain ⟨b,o,E,m,q,e,hlt,c0,c1,hE⟩:=hB.at_ hi
  exact ⟨b,o,E,m,q,e,Nat.lt_of_lt_of_le hlt hb.size,(hb.cell hlt).trans c0,(hb.cell hlt).trans c1,hE.keep (fun b o hlt=>hb.cell hlt)⟩)
 have Hl:=zh hB.ln
 clear hB
 go_enter Tryz.func29,Tryz.ntmps29
 go_wp2_with fail
 go_loopw [4,5,6] (fun v s i wr=>∃ (k:Nat) (z:Int),k≤n∧k≤8∧i=.int .i64 (k:Nat)∧s=.int .i64 z∧0≤z∧z≤80∧Hid (((((L.take k).map fun b=>min 66 b.2.length).sum:Nat):Int)=z∧∀ b∈L.take k,∀ i (h:i<b.2.length),i<66→LightP b.2[i].2)∧Hid (BOwn wr w.heap.size w.heap.size v (L.take k))∧Hid (Below w.heap.size w wr)) (fun _ _ i _=>8 - (intOf i).toNat)
 case atStart=>exact ⟨0,0,Nat.zero_le _,by omega,rfl,rfl,by omega,by omega,zh ⟨rfl,fun b hb=>by simp at hb⟩,zh (BOwn.start _ _ _),zh (Below.refl _ _)⟩
 case round =>
  obtain ⟨k,z,hk,hk8,rfl,rfl,hz0',hz8,HQL,HO,HW⟩:=hrel
  by_cases hlt:k<n∧k<8
  ·obtain ⟨hlt,hl8⟩:=hlt
   have hki:(k:Int)<(n:Int):=by omega
   have hki0:(0:Int)≤(k:Int):=by omega
   have hki2:(k:Int)<8:=by omega
   have hkl:k<L.length:=by rw [Hl.out]; exact hlt
   obtain ⟨b,o,E,m,q,rfl,hb,g0,g1,hE⟩:=HG.out wr HW.out k hkl
   have hbw:w.heap.size≤wr.heap.size:=HW.out.size
   have hts:L.take (k+1)=L.take k ++ [L[k]]:=List.take_succ_eq_append_getElem hkl
   have Hts:=zh hts
   have hol:(L.take k).length≤8:=by rw [List.length_take]; omega
   have hEl:=hE.ln
   have hEf:=hE.few
   have HEL:=zh hEl
   have HDV:Hid (∀ W:World,Below wr.heap.size wr W→BtV W w.heap.size L[k] [.int .i64 L[k].1,.slice E m q]):=zh (fun W hW=>⟨E,m,q,rfl,hE.keep (fun b o hlt=>hW.cell (Nat.lt_of_lt_of_le hlt hbw))⟩)
   have HE:Hid (∀ W:World,Below wr.heap.size wr W→EvsAt W W.heap.size E m q L[k].2):=zh (fun W hW=>(hE.keep (fun b o hlt=>hW.cell (Nat.lt_of_lt_of_le hlt hbw))).more (Nat.le_trans hbw hW.size))
   clear hts hE
   generalize hdd:L[k]=dd at *
   clear hdd
   generalize L.take k=out at *
   obtain ⟨t,ht,ht0,ht6⟩:∃ t:Int,min 66 (m:Int)=t∧0≤t∧t≤66:=⟨_,rfl,by omega,by omega⟩
   have hX:=Blk.new wr 69 #[.int .i64 dd.1,.slice E m q]
   have hB1:Below wr.heap.size wr (wr.alloc (.cells #[.int .i64 dd.1,.slice E m q] 69)):=(Below.refl _ _).alloc (zG _) _
   have HX:=zh hX
   have HB1:=zh hB1
   have hw1:=hB1.size
   clear hX hB1
   obtain ⟨wo,rfl⟩:∃ wo:World,wo=wr:=⟨_,rfl⟩
   by_cases hz : 80<z+t
   ·have hzw:IntKind.i64.wrap (z+t)=z+t:=by rw [IntKind.wrap_i64]; omega
    go_wp2
    go_ret2
    exact .inl ⟨rfl,HW.out.trans (HB1.out.mono hbw)⟩
   ·have hzw:IntKind.i64.wrap (z+t)=z+t:=by rw [IntKind.wrap_i64]; omega
    have hz2':z+t≤80:=by omega
    clear hz
    go_wp2_with fail
    generalize hwa:(wo.alloc (.cells #[.int .i64 dd.1,.slice E m q] 69))=wa at *
    clear hwa
    go_loopw [8] (fun i wq=>∃ j:Nat,j≤m∧j≤66∧i=.int .i64 (j:Nat)∧Hid (∀ i (h:i<dd.2.length),i<j→LightP dd.2[i].2)∧Hid (Below wa.heap.size wa wq)) (fun i _=>66 - (intOf i).toNat)
    case atStart=>exact ⟨0,Nat.zero_le _,by omega,rfl,zh (fun i h h0=>absurd h0 (by omega)),zh (Below.refl _ _)⟩
    case round =>
     obtain ⟨j,hj,hj6,rfl,HJ,HQ⟩:=hrel
     have hXq:=HX.out.below HQ.out HX.out.lt
     have x0:=hXq.cell 0
     have x1:=hXq.cell 1
     simp only [zA,zB,zC] at x0 x1
     have hqs:=HQ.out.size
     have hWQ:Below wo.heap.size wo wr:=HB1.out.trans (HQ.out.mono hw1)
     have HWQ:=zh hWQ
     have HXq:=zh hXq
     clear hWQ hXq
     by_cases hjl:j<m∧j<66
     ·obtain ⟨hjl,hjl6⟩:=hjl
      have hji:(j:Int)<(m:Int):=by omega
      have hji0:(0:Int)≤(j:Int):=by omega
      have hji2:(j:Int)<66:=by omega
      obtain ⟨eb,eo,F,fn,fc,rfl,heb,e0,e1,hF⟩:=(HE.out wr HWQ.out).at_ (i:=j) (by omega)
      have C1:=zh (lightP_any dd.2[j].1 F fn fc dd.2[j].2 wr ⟨hF.rd,hF.len,hF.few⟩)
      clear hF
      generalize dd.2[j].1=ta at *
      go_wp2_with fail
      refine C1.out.mono ?_
      rintro e w2 ⟨⟨bb,rfl,hbb⟩,hb2⟩
      have HBB:=zh hbb
      clear hbb
      have HQ2:=zh (HQ.out.trans (hb2.mono hqs))
      have HW2:=zh ((HW.out.trans (HWQ.out.mono hbw)).trans (hb2.mono (by omega)))
      clear hb2
      cases bb with
      | false =>
       go_wp2
       go_ret2
       exact .inl ⟨rfl,HW2.out⟩
      | true =>
       go_wp2_with fail
       go_roundw
       case rel=>exact ⟨j+1,by omega,by omega,by go_num,zh (fun i h hij=>by
        rcases Nat.lt_or_ge i j with h1 | h1
        ·exact HJ.out i h h1
        ·obtain rfl:i=j:=by omega
         exact HBB.out (by first | exact rfl | trivial)),HQ2⟩
       case measure=>simp [intOf]; omega
     ·have HO2:=HO.out.below HWQ.out hbw
      obtain ⟨vss,hv1,hv2,hv3⟩:=HO2.ex
      have Hv3:=zh hv3
      have HWF:=zh (HW.out.trans (HWQ.out.mono hbw))
      have hown:=hv2.alloc (.cells #[.int .i64 dd.1,.slice E m q] 69)
      have hAA:=(Below.refl wr.heap.size wr).alloc (zG _) (.cells #[.int .i64 dd.1,.slice E m q] 69)
      have HAA:=zh hAA
      clear hv3 HO2 hAA
      have HQ2:Hid (Hid (((((L.take (k+1)).map fun b=>min 66 b.2.length).sum:Nat):Int)=z+t∧∀ b∈L.take (k+1),∀ i (h:i<b.2.length),i<66→LightP b.2[i].2)):=zh (zh (by
       rw [Hts.out,sum_snoc]
       refine ⟨by have h1:=HQL.out.1; have h2:=HEL.out; omega,fun b hb i h h6=>?_⟩
       rcases List.mem_append.1 hb with h1 | h1
       ·exact HQL.out.2 b h1 i h h6
       ·obtain rfl:=List.mem_singleton.1 h1
        exact HJ.out i h (by have h2:=HEL.out; omega)))
      by_cases hjm:j<m
      ·have hji:(j:Int)<(m:Int):=by omega
       have hji2:¬ (j:Int)<66:=by omega
       clear hjl
       go_wp2_with (at_builtin; refine wpList_append_own _ rfl _ _ 70 rfl w.heap.size 69 i0 _ 2 32 Tryz.underlying70 hi0 hz0 hz1 hz2 rfl (by decide) _ out.length vss.flatten rfl hown ⟨wr.heap.size,0,none⟩ 1 1 [.int .i64 dd.1,.slice E m q] rfl rfl (World.news_of_block (cs:=#[.int .i64 dd.1,.slice E m q]) (t:=69) (fr:=(0,0)) (heap_alloc_new wr _)) (by simp [Value.oneCell']) ?c1 ?c2 ?c3 ?_)
       case c1=>unfold maxLen; omega
       case c2=>omega
       case c3=>first | omega | (rw [World.size_alloc]; omega)
       intro v' w3 hown' hgrow _
       have HP:Hid (BOwn w3 w.heap.size w.heap.size v' (out ++ [dd])):=zh (BOwn.put (d:=dd) ⟨vss,hv1,hown,fun i h h'=>(Hv3.out i h h').keep (fun b o hlt=>HAA.out.cell (by show b < _; omega)),rfl⟩ hown' hgrow (HDV.out _ (HWQ.out.trans (HAA.out.mono (by omega)))) (zG _) (by have:=HAA.out.size; omega))
       have HB3:=zh ((HWF.out.trans (HAA.out.mono (by omega))).grown hgrow (by have:=HAA.out.size; omega) (fun b hb=>(hown.lt b hb).1))
       clear hown hown' hgrow hv1 hv2
       go_wp2
       go_roundw
       case rel=>exact ⟨k+1,_,by omega,by omega,by go_num,rfl,by omega,by omega,HQ2.out,zh (by rw [Hts.out]; exact HP.out),HB3⟩
       case measure=>simp [intOf]; omega
      ·have hji:¬ (j:Int)<(m:Int):=by omega
       clear hjl
       go_wp2_with (at_builtin; refine wpList_append_own _ rfl _ _ 70 rfl w.heap.size 69 i0 _ 2 32 Tryz.underlying70 hi0 hz0 hz1 hz2 rfl (by decide) _ out.length vss.flatten rfl hown ⟨wr.heap.size,0,none⟩ 1 1 [.int .i64 dd.1,.slice E m q] rfl rfl (World.news_of_block (cs:=#[.int .i64 dd.1,.slice E m q]) (t:=69) (fr:=(0,0)) (heap_alloc_new wr _)) (by simp [Value.oneCell']) ?e1 ?e2 ?e3 ?_)
       case e1=>unfold maxLen; omega
       case e2=>omega
       case e3=>first | omega | (rw [World.size_alloc]; omega)
       intro v' w3 hown' hgrow _
       have HP:Hid (BOwn w3 w.heap.size w.heap.size v' (out ++ [dd])):=zh (BOwn.put (d:=dd) ⟨vss,hv1,hown,fun i h h'=>(Hv3.out i h h').keep (fun b o hlt=>HAA.out.cell (by show b < _; omega)),rfl⟩ hown' hgrow (HDV.out _ (HWQ.out.trans (HAA.out.mono (by omega)))) (zG _) (by have:=HAA.out.size; omega))
       have HB3:=zh ((HWF.out.trans (HAA.out.mono (by omega))).grown hgrow (by have:=HAA.out.size; omega) (fun b hb=>(hown.lt b hb).1))
       clear hown hown' hgrow hv1 hv2
       go_wp2
       go_roundw
       case rel=>exact ⟨k+1,_,by omega,by omega,by go_num,rfl,by omega,by omega,HQ2.out,zh (by rw [Hts.out]; exact HP.out),HB3⟩
       case measure=>simp [intOf]; omega
  ·have hall:L.take k=L.take 8:=by
    by_cases e:k=8
    ·rw [e]
    ·rw [List.take_of_length_le (by rw [Hl.out]; omega),List.take_of_length_le (by rw [Hl.out]; omega)]
   have HALL:=zh hall
   clear hall
   by_cases hkn:k<n
   ·have hki:(k:Int)<(n:Int):=by omega
    have hki2:¬ (k:Int)<8:=by omega
    clear hlt
    go_wp2
    go_ret2
    exact .inr ⟨_,rfl,by rw [← HALL.out]; exact HO.out,by rw [← HALL.out]; exact ⟨by have h1:=HQL.out.1; omega,HQL.out.2⟩,HW.out⟩
   ·have hki:¬ (k:Int)<(n:Int):=by omega
    clear hlt
    go_wp2
    go_ret2
    exact .inr ⟨_,rfl,by rw [← HALL.out]; exact HO.out,by rw [← HALL.out]; exact ⟨by have h1:=HQL.out.1; omega,HQL.out.2⟩,HW.out⟩
end Go.Proofs.YtlfpfkallgkjdaaGreat.Gi
end
