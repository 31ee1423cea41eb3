/- qparse.Parse: the walk (printed by gen_qpo.py). -/
import Derived.Deep.QuietTactic
import Derived.Test.YtmomjpolkkbhnaaGreatQModelPagesRow25
import Derived.Test.YtmomjpolkkbhnaaGreatQModelPagesRow11
import Derived.Test.YtmomjpolkkbhnaaGreatQModelPagesRow0
set_option linter.unusedSimpArgs false
set_option maxRecDepth 20000
section
namespace Go.Proofs.YtmomjpolkkbhnaaGreat.Qp
open Go.RowKit Ut Tk Qy
def noQ:Q:=.mk 0 ByteArray.empty [] []
def ParPost (w:World) (s:P) (e:Ending) (w':World):Prop :=
 ∃ (E:Int) (o:Option Q) (a0 a1 a2 a3:Value),PrsR s E o∧e=.returned (.tuple #[.agg #[a0,a1,a2,a3],.int .i64 E])∧QF w' (fun b=>w.heap.size≤b∧b<w'.heap.size) (o.getD noQ) [a0,a1,a2,a3]∧Below w.heap.size w w'
theorem noQ_at (w:World) (S:Nat→Prop):QF w S noQ [.int .i64 0,.string ⟨#[]⟩,.slice none 0 0,.slice none 0 0] :=
 .mk (nm:=⟨#[]⟩) [] rfl (by simpa using ReadsS.none_) rfl rfl (by simp) ReadsS.none_ (fun i hi=>absurd hi (by simp))
theorem own_cap {w:World} {base:Nat} {e:TypeId} {size n:Nat} {v:Value} {xs:List Value} (h:w.ownsRow base e size v n xs):∃ A c,v=.slice A n c∧n≤c:=by
 rcases h.2 with ⟨rfl,rfl⟩ | ⟨g,cap,cur,rfl,_,_,hc,_⟩
 ·exact ⟨_,_,rfl,zG _⟩
 ·exact ⟨_,_,rfl,hc⟩
theorem par_results {tmps:Array Value} {W:World} {b1 b2:Nat} {a0 a1 a2 a3:Value} {z:Int} (h1:tmps.getD 2 undef=.pointer (some ⟨b1,0,none⟩)) (h2:tmps.getD 3 undef=.pointer (some ⟨b2,0,none⟩)) (B1:Blk W b1 60 #[a0,a1,a2,a3]) (B2:Blk W b2 39 #[.int .i64 z]) :
  (results Tryz.f65 tmps).run Tryz.prog W=.ok (.tuple #[.agg #[a0,a1,a2,a3],.int .i64 z]) W:=by
 have l1:=run_loadVar_row (P:=Tryz.prog) W b1 60 60 #[a0,a1,a2,a3] (0,0) _ B1 Tryz.underlying60 rfl (by kernel_rfl)
 have l2:(loadVar 39 ⟨b2,0,none⟩).run Tryz.prog W=.ok (.int .i64 z) W:=by
  have c:=B2.cell 0
  simp at c
  simp [go_sem,c]
 have h1':tmps[2]?.getD undef=.pointer (some ⟨b1,0,none⟩):=by simpa using h1
 have h2':tmps[3]?.getD undef=.pointer (some ⟨b2,0,none⟩):=by simpa using h2
 simp [results,Tryz.results65,h1',h2',asAddr,l1,l2]
theorem par_leave {tmps:Array Value} {W:World} {b1 b2:Nat} {a0 a1 a2 a3:Value} {z:Int} {R:Ending→World→Prop} (B1:Blk W b1 60 #[a0,a1,a2,a3]) (B2:Blk W b2 39 #[.int .i64 z]) (h1:tmps.getD 2 undef=.pointer (some ⟨b1,0,none⟩)) (h2:tmps.getD 3 undef=.pointer (some ⟨b2,0,none⟩))
  (hR:R (.returned (.tuple #[.agg #[a0,a1,a2,a3],.int .i64 z])) W):Leaves Tryz.prog Tryz.f65 tmps R [] .returning W:=⟨_,par_results h1 h2 B1 B2,hR⟩
set_option maxHeartbeats 6400000 in
theorem parse_any (s:ByteArray) (w:World):Calls Tryz.prog 65 #[.string s] w (ParPost w s.data.toList):=by
 have hmf:∀ (fn:Fn) (first cap:Array Value) (w:World),(Instr.makeFunc fn first cap).run Tryz.prog w=.ok (.func fn first cap) w:=fun _ _ _ _=>rfl
 by_cases hs : 1024<s.size
 ·have hs':(1024:Int)<(s.size:Int):=by omega
  have HP:=zh (PrsR.long (s:=s.data.toList) (by rw [bsize]; exact hs))
  have hbl:=zh (((Below.refl w.heap.size w).alloc (zG _) (.cells #[.int .i64 0,.string ⟨#[]⟩,.slice none 0 0,.slice none 0 0] 60)).alloc (by simp) (.cells #[.int .i64 2] 39))
  clear hs
  go_enter_defers Tryz.func65,Tryz.ntmps65
  go_wp2
  exact par_leave (Blk.alloc (Blk.new w 60 #[.int .i64 0,.string ⟨#[]⟩,.slice none 0 0,.slice none 0 0]) _) (by have:=Blk.new (w.alloc (.cells #[.int .i64 0,.string ⟨#[]⟩,.slice none 0 0,.slice none 0 0] 60)) 39 #[.int .i64 2]; rw [World.size_alloc] at this; exact this) rfl rfl ⟨2,none,_,_,_,_,HP.out,rfl,noQ_at _ _,hbl.out⟩
 have hs':(s.size:Int)≤1024:=by omega
 have hs1:s.data.toList.length≤1024:=by rw [bsize]; omega
 have c0:=pieces_any s ((w.alloc (.cells #[.int .i64 0,.string ByteArray.empty,.slice none 0 0,.slice none 0 0] 60)).alloc (.cells #[.int .i64 0] 39)) (by omega)
 have hpc:=pieces_pc s.data.toList.length s.data.toList
 have hpm:=pieces_many s.data.toList.length s.data.toList
 have B1:=zh ((Blk.new w 60 #[.int .i64 0,.string ByteArray.empty,.slice none 0 0,.slice none 0 0]).alloc (.cells #[.int .i64 0] 39))
 have B2:Hid (Blk ((w.alloc (.cells #[.int .i64 0,.string ByteArray.empty,.slice none 0 0,.slice none 0 0] 60)).alloc (.cells #[.int .i64 0] 39)) (w.heap.size+1) 39 #[.int .i64 0]):=zh (by have:=Blk.new (w.alloc (.cells #[.int .i64 0,.string ByteArray.empty,.slice none 0 0,.slice none 0 0] 60)) 39 #[.int .i64 0]; rw [World.size_alloc] at this; exact this)
 have Hb:=zh (((Below.refl w.heap.size w).alloc (zG _) (.cells #[.int .i64 0,.string ByteArray.empty,.slice none 0 0,.slice none 0 0] 60)).alloc (by simp) (.cells #[.int .i64 0] 39))
 have hz:(World.heap ((w.alloc (.cells #[.int .i64 0,.string ByteArray.empty,.slice none 0 0,.slice none 0 0] 60)).alloc (.cells #[.int .i64 0] 39))).size=w.heap.size+2:=by simp
 have Hz:=zh hz
 have Hs1:=zh hs1
 clear hz hs hs1
 go_enter_defers Tryz.func65,Tryz.ntmps65
 go_wp2_with fail
 refine c0.mono ?_
 intro e w3 hpost
 clear c0
 match hpp:pieces s.data.toList,hpost with
 | none,hpost =>
  obtain ⟨rfl,hb3⟩:=hpost
  have HP:=zh (PrsR.noPieces Hs1.out hpp)
  have hsz:=hb3.size
  have B13:=B1.out.below hb3 (by rw [Hz.out]; omega)
  have B23:=B2.out.below hb3 (by rw [Hz.out]; omega)
  have Hb3:=zh (Hb.out.trans (hb3.mono (by rw [Hz.out]; omega)))
  obtain ⟨q0,q1,q2,q3,f0,f1,f2,f3⟩:=B13.four
  have q4:=B23.cell 0
  have f4:=B23.frozen 0
  simp at q4
  have B14:=zh ((B13.set4 (.int .i64 0) (.string ⟨#[]⟩) (.slice none 0 0) (.slice none 0 0)).far (p:=⟨w.heap.size+1,0,none⟩) (by simp) (.int .i64 170))
  have B24:Hid (Blk ((set4 w3 w.heap.size (.int .i64 0) (.string ⟨#[]⟩) (.slice none 0 0) (.slice none 0 0)).setCell ⟨w.heap.size+1,0,none⟩ (.int .i64 170)) (w.heap.size+1) 39 #[.int .i64 170]) :=
   zh (by have:=(show Blk (set4 w3 w.heap.size (.int .i64 0) (.string ⟨#[]⟩) (.slice none 0 0) (.slice none 0 0)) (w.heap.size+1) 39 #[.int .i64 0] from (set4_other w3 w.heap.size _ _ _ _ _ (by omega)).trans B23).set_ 0 (.int .i64 170); simpa using this)
  have Hb4:=zh ((below_set4 Hb3.out (zG _) (.int .i64 0) (.string ⟨#[]⟩) (.slice none 0 0) (.slice none 0 0)).setCell (p:=⟨w.heap.size+1,0,none⟩) (by simp) (.int .i64 170))
  clear hb3 hsz B13 B23 hpc hpm hpp
  go_wp2_with fail
  exact par_leave B14.out B24.out rfl rfl ⟨170,none,_,_,_,_,HP.out,rfl,noQ_at _ _,Hb4.out⟩
 | some l,hpost =>
  obtain ⟨v,rfl,hown,hb3⟩:=hpost
  rw [Hz.out] at hown
  obtain ⟨A,c,rfl,hnc⟩:=own_cap hown
  have hR0:=ReadsS.of_own hown
  have hsz:w.heap.size+2≤w3.heap.size:=by have:=hb3.size; rw [Hz.out] at this; exact this
  have B13:=B1.out.below hb3 (by rw [Hz.out]; omega)
  have B23:=B2.out.below hb3 (by rw [Hz.out]; omega)
  have Hb3:=Hb.out.trans (hb3.mono (by rw [Hz.out]; omega))
  have hbx:=(Below.refl w3.heap.size w3).alloc (zG _) (.cells #[.slice A l.length c] 154)
  have hpa:PcAll l:=fun x hx=>by have:=hpc l (zG _) hpp x hx; exact ⟨this.1,by have:=this.2; have:=Hs1.out; omega⟩
  have hlm:l.length≤1024:=by have:=hpm l (zG _) hpp; have:=Hs1.out; omega
  have hRd:Rd w3.heap.size (w3.alloc (.cells #[.slice A l.length c] 154)) w3.heap.size l :=
   ⟨⟨A,_,c,Blk.new _ _ _,rfl,hnc,(hR0.keep fun b o hS=>hbx.cell (p:=⟨b,o,none⟩) hS.2.1).mono fun b hS=>⟨hS.2.1,by have:=hS.2.1; omega⟩⟩,by rw [World.size_alloc]; omega,fun x hx=>(hpa x hx).1.ne,by omega⟩
  have c1:=(all_ok l.length l (zG _) hpa).2.2 w3.heap.size _ w3.heap.size hRd
  have HB14:=zh (B13.alloc (.cells #[.slice A l.length c] 154))
  have HB24:=zh (B23.alloc (.cells #[.slice A l.length c] 154))
  have Hb4:=zh (Hb3.alloc (by omega) (.cells #[.slice A l.length c] 154))
  have hsz4:(w3.alloc (.cells #[.slice A l.length c] 154)).heap.size=w3.heap.size+1:=by simp
  have Hsz4:=zh hsz4
  have Hpp:=zh hpp
  have Hpa:=zh hpa
  clear hown hR0 B13 B23 Hb3 hbx hb3 hpa hRd hpc hpm hpp B1 B2 Hb hsz4
  go_wp2_with fail
  refine c1.mono ?_
  rintro e w5 ⟨o,hRo,hpost⟩
  have HRo:=zh hRo
  clear c1 hRo
  match o,hpost,HRo with
  | none,hpost,HRo =>
   obtain ⟨rfl,hg5⟩:=hpost
   have B15:=HB14.out.keep4 hg5 (by omega)
   have B25:=HB24.out.keep4 hg5 (by omega)
   have Hb5:=below_of_grown Hb4.out hg5 (by omega)
   unfold badE
   refine leaves_cons (f:=96) (args:=#[.pointer (some ⟨w.heap.size,0,none⟩),.pointer (some ⟨w.heap.size+1,0,none⟩)]) (by simp) (by simp [go_sem]) ?_
   refine (catch_bad w.heap.size (w.heap.size+1) _ _ _ _ _ 170 [] _ B15 B25).mono ?_
   rintro e u' w9 ⟨rfl,rfl,g1,g2,g3⟩
   exact par_leave g1 g2 rfl rfl ⟨170,none,_,_,_,_,PrsR.bad Hs1.out Hpp.out HRo.out,rfl,noQ_at _ _,(Hb5).trans (g3 w.heap.size (zG _) (by omega) (Hb5).size)⟩
  | some (q,r),hpost,HRo =>
   obtain ⟨a0,a1,a2,a3,rfl,hF,hR5,hg5⟩:=hpost
   have B15:=HB14.out.keep4 hg5 (by omega)
   have B25:=HB24.out.keep4 hg5 (by omega)
   have Hb5:=below_of_grown Hb4.out hg5 (by omega)
   have hsz5:w3.heap.size+1≤w5.heap.size:=by have:=hg5.size; rw [Hsz4.out] at this; exact this
   obtain ⟨K,hK,hQW⟩:=or_wide HRo.out (fun x hx=>(Hpa.out x hx).2) (by omega)
   obtain ⟨A',n',c',C',m',d',e4⟩:=hF.four
   simp only [List.cons.injEq,and_true] at e4
   obtain ⟨rfl,rfl,rfl,rfl⟩:=e4
   obtain ⟨q0,q1,q2,q3,f0,f1,f2,f3⟩:=B15.four
   rw [Hsz4.out] at hF
   have HF6:Hid (QF (set4 w5 w.heap.size (.int .i64 q.kind) (.string q.name) (.slice A' n' c') (.slice C' m' d')) (fun b=>w3.heap.size+1≤b∧b<(set4 w5 w.heap.size (.int .i64 q.kind) (.string q.name) (.slice A' n' c') (.slice C' m' d')).heap.size) q [.int .i64 q.kind,.string q.name,.slice A' n' c',.slice C' m' d']):=zh
    ((hF.keep fun b _ hS=>World.cell?_of_block (w:=w5) (set4_other w5 w.heap.size b _ _ _ _ (by have:=hS.1; omega))).mono fun b hS=>⟨hS.1,by rw [set4_size]; exact hS.2⟩)
   have HB16:=zh (B15.set4 (.int .i64 q.kind) (.string q.name) (.slice A' n' c') (.slice C' m' d'))
   have HB26:Hid (Blk (set4 w5 w.heap.size (.int .i64 q.kind) (.string q.name) (.slice A' n' c') (.slice C' m' d')) (w.heap.size+1) 39 #[.int .i64 0]):=zh ((set4_other w5 w.heap.size _ _ _ _ _ (by omega)).trans B25)
   have hg6:=grownBy_set4 w5 w.heap.size (.int .i64 q.kind) (.string q.name) (.slice A' n' c') (.slice C' m' d')
   obtain ⟨A2,n2,c2,hBr,hn2,_,_⟩:=hR5.ex
   have hBr6:Blk (set4 w5 w.heap.size (.int .i64 q.kind) (.string q.name) (.slice A' n' c') (.slice C' m' d')) w3.heap.size 154 #[.slice A2 n2 c2]:=(set4_other w5 w.heap.size _ _ _ _ _ (by omega)).trans hBr
   have Hb6:=zh (below_set4 Hb5 (zG _) (.int .i64 q.kind) (.string q.name) (.slice A' n' c') (.slice C' m' d'))
   have hsz6:=set4_size w5 w.heap.size (.int .i64 q.kind) (.string q.name) (.slice A' n' c') (.slice C' m' d')
   have HQW:=zh hQW
   clear hF hR5 hg5 B15 B25 Hb5 hg6 hBr HB14 HB24 Hb4 hQW
   go_wp2_with fail
   have ew:set4 w5 w.heap.size (.int .i64 q.kind) (.string q.name) (.slice A' n' c') (.slice C' m' d')=(((w5.setCell ⟨w.heap.size,0,none⟩ (.int .i64 q.kind)).setCell ⟨w.heap.size,1,none⟩ (.string q.name)).setCell ⟨w.heap.size,2,none⟩ (.slice A' n' c')).setCell ⟨w.heap.size,3,none⟩ (.slice C' m' d'):=rfl
   rw [← ew]
   clear ew q0 q1 q2 q3 f0 f1 f2 f3
   generalize set4 w5 w.heap.size (.int .i64 q.kind) (.string q.name) (.slice A' n' c') (.slice C' m' d')=w6 at *
   have hl6:w3.heap.size<w6.heap.size:=by omega
   have hcells:∀ wx,Below w6.heap.size w6 wx→wx.cell? ⟨w3.heap.size,0,none⟩=some (.slice A2 n2 c2):=fun wx hb=>by
    rw [hb.cell (p:=⟨w3.heap.size,0,none⟩) hl6]; exact hBr6.cell 0
   have Hcells:=zh hcells
   clear hcells hBr6
   by_cases h0:r=[]
   case' neg =>
    have hn2':((n2:Int) == 0)=false:=by
     have:=List.length_pos_iff.2 h0
     rw [beq_eq_false_iff_ne]; omega
    have HP:=zh (PrsR.left Hs1.out Hpp.out HRo.out h0)
    clear h0 hn2
    refine wp_region_grow_tail 10 (specOf []) (fun wx=>Below w6.heap.size w6 wx) (fun w1 w2=>Below w1.heap.size w1 w2) (by kernel_rfl) (by kernel_rfl) (stab_nil) ((Below.refl _ _).drew) ?_
    simp only [List.take_succ_cons,List.take_zero,List.drop_succ_cons,List.drop_zero]
    iterate 10
     refine grow_fix _ ?_ rfl (by rfl) (by rfl) (fun wx hC hD=>?_) ?_
     rotate_left
     ·have hSw:=Hcells.out wx hC
      go_simp
      all_goals with_reducible rfl
     try simp only [Act.put,zD,zE,zF]
    refine grow_nil (fun wn hC hF=>?_)
    have hbn:=zh hC
    clear hF hC
    go_wp2_with (go_at_call 98; refine (must_no _ _).mono ?_; rintro e w' ⟨rfl,rfl⟩)
    have hz6:w.heap.size+1<w6.heap.size:=by omega
    have B17:=HB16.out.below hbn.out (by omega)
    have B27:=HB26.out.below hbn.out hz6
    have Hb7:=Hb6.out.trans (hbn.out.mono (by omega))
    refine leaves_cons (f:=96) (args:=#[.pointer (some ⟨w.heap.size,0,none⟩),.pointer (some ⟨w.heap.size+1,0,none⟩)]) (by simp) (by simp [go_sem]) ?_
    refine (catch_bad w.heap.size (w.heap.size+1) _ _ _ _ _ 170 [] _ B17 B27).mono ?_
    rintro e u' w9 ⟨rfl,rfl,g1,g2,g3⟩
    exact par_leave g1 g2 rfl rfl ⟨170,none,_,_,_,_,HP.out,rfl,noQ_at _ _,(Hb7).trans (g3 w.heap.size (zG _) (by omega) (Hb7).size)⟩
   case' pos =>
    subst h0
    obtain rfl:n2=0:=by simpa using hn2.symm
    clear hn2
    refine wp_region_grow_tail 10 (specOf []) (fun wx=>Below w6.heap.size w6 wx) (fun w1 w2=>Below w1.heap.size w1 w2) (by kernel_rfl) (by kernel_rfl) (stab_nil) ((Below.refl _ _).drew) ?_
    simp only [List.take_succ_cons,List.take_zero,List.drop_succ_cons,List.drop_zero]
    iterate 10
     refine grow_fix _ ?_ rfl (by rfl) (by rfl) (fun wx hC hD=>?_) ?_
     rotate_left
     ·have hSw:=Hcells.out wx hC
      go_simp
      all_goals with_reducible rfl
     try simp only [Act.put,zD,zE,zF]
    refine grow_nil (fun wn hC hF=>?_)
    have hbn:=zh hC
    clear hF hC
    have hz6:w.heap.size+1<w6.heap.size:=by omega
    have B17:=HB16.out.below hbn.out (by omega)
    have B27:=HB26.out.below hbn.out hz6
    have Hb7:=Hb6.out.trans (hbn.out.mono (by omega))
    have HF7:QF wn (fun b=>w3.heap.size+1≤b∧b<wn.heap.size) q [.int .i64 q.kind,.string q.name,.slice A' n' c',.slice C' m' d']:=HF6.out.grow hbn.out
    have hszn:=hbn.out.size
    have c8:=many_go HQW.out wn _ _ _ _ (HF7.at_ fun b hS=>hS.2)
    obtain ⟨q0,q1,q2,q3,f0,f1,f2,f3⟩:=B17.four
    have HB17:=zh B17
    have HB27:=zh B27
    have HF7':=zh HF7
    have HB7:=zh Hb7
    clear B17 B27 HF7 Hb7 HB16 HB26 HF6 Hb6 Hcells hbn
    go_wp2_with (first
     | (go_at_call 98; refine (must_yes _ _).mono ?_; rintro e w' ⟨rfl,rfl⟩))
    refine c8.mono ?_
    rintro e w8 ⟨rfl,hb8⟩
    clear c8 q0 q1 q2 q3 f0 f1 f2 f3
    have HB18:=HB17.out.below hb8 (by omega)
    have HB28:=HB27.out.below hb8 (by omega)
    have Hb8:=zh (HB7.out.trans (hb8.mono (by omega)))
    have HF8:=zh (HF7'.out.grow hb8)
    have hsz8:=hb8.size
    clear hb8 HB17 HB27 HF7' HB7
    cases hmq:manyB q with
    | true =>
     have HP:=zh (PrsR.many Hs1.out Hpp.out HRo.out hmq)
     obtain ⟨q0,q1,q2,q3,f0,f1,f2,f3⟩:=HB18.four
     have q4:=HB28.cell 0
     have f4:=HB28.frozen 0
     simp at q4
     have BW1:=zh ((HB18.set4 (.int .i64 0) (.string ⟨#[]⟩) (.slice none 0 0) (.slice none 0 0)).far (p:=⟨w.heap.size+1,0,none⟩) (by simp) (.int .i64 3))
     have BW2:Hid (Blk ((set4 w8 w.heap.size (.int .i64 0) (.string ⟨#[]⟩) (.slice none 0 0) (.slice none 0 0)).setCell ⟨w.heap.size+1,0,none⟩ (.int .i64 3)) (w.heap.size+1) 39 #[.int .i64 3]) :=
      zh (by have:=(show Blk (set4 w8 w.heap.size (.int .i64 0) (.string ⟨#[]⟩) (.slice none 0 0) (.slice none 0 0)) (w.heap.size+1) 39 #[.int .i64 0] from (set4_other w8 w.heap.size _ _ _ _ _ (by omega)).trans HB28).set_ 0 (.int .i64 3); simpa using this)
     have BWb:=zh ((below_set4 Hb8.out (zG _) (.int .i64 0) (.string ⟨#[]⟩) (.slice none 0 0) (.slice none 0 0)).setCell (p:=⟨w.heap.size+1,0,none⟩) (by simp) (.int .i64 3))
     clear HB18 HB28 hmq
     go_wp2_with fail
     refine leaves_cons (f:=96) (args:=#[.pointer (some ⟨w.heap.size,0,none⟩),.pointer (some ⟨w.heap.size+1,0,none⟩)]) (by simp) (by simp [go_sem]) ?_
     refine (catch_idle ⟨w.heap.size,0,none⟩ ⟨w.heap.size+1,0,none⟩ _).mono ?_
     rintro e u' w9 ⟨rfl,rfl,rfl⟩
     exact par_leave BW1.out BW2.out rfl rfl ⟨3,none,_,_,_,_,HP.out,rfl,noQ_at _ _,BWb.out⟩
    | false =>
     have Hmq:=zh hmq
     have c9:=depth_go HQW.out hK w8 _ _ _ _ (HF8.out.at_ fun b hS=>hS.2)
     obtain ⟨q0,q1,q2,q3,f0,f1,f2,f3⟩:=HB18.four
     have hK2:depthN q≤16777216:=Nat.le_trans HQW.out.depth hK
     have H1:=zh HB18
     have H2:=zh HB28
     clear hmq HB18 HB28
     go_wp2_with fail
     refine c9.mono ?_
     rintro e wd ⟨rfl,hbd⟩
     clear c9 q0 q1 q2 q3 f0 f1 f2 f3
     have BD1:=H1.out.below hbd (by omega)
     have BD2:=H2.out.below hbd (by omega)
     have Hbd:=zh (Hb8.out.trans (hbd.mono (by omega)))
     have HFd:=zh (HF8.out.grow hbd)
     clear hbd H1 H2 HF8 Hb8
     by_cases hdp : 16<depthN q
     ·have hdp':(16:Int)<(depthN q:Int):=by omega
      have HP:=zh (PrsR.deep Hs1.out Hpp.out HRo.out Hmq.out hdp)
      clear hdp
      generalize depthN q=dq at *
      obtain ⟨q0,q1,q2,q3,f0,f1,f2,f3⟩:=BD1.four
      have q4:=BD2.cell 0
      have f4:=BD2.frozen 0
      simp at q4
      have BW1:=zh ((BD1.set4 (.int .i64 0) (.string ⟨#[]⟩) (.slice none 0 0) (.slice none 0 0)).far (p:=⟨w.heap.size+1,0,none⟩) (by simp) (.int .i64 171))
      have BW2:Hid (Blk ((set4 wd w.heap.size (.int .i64 0) (.string ⟨#[]⟩) (.slice none 0 0) (.slice none 0 0)).setCell ⟨w.heap.size+1,0,none⟩ (.int .i64 171)) (w.heap.size+1) 39 #[.int .i64 171]) :=
       zh (by have:=(show Blk (set4 wd w.heap.size (.int .i64 0) (.string ⟨#[]⟩) (.slice none 0 0) (.slice none 0 0)) (w.heap.size+1) 39 #[.int .i64 0] from (set4_other wd w.heap.size _ _ _ _ _ (by omega)).trans BD2).set_ 0 (.int .i64 171); simpa using this)
      have BWb:=zh ((below_set4 Hbd.out (zG _) (.int .i64 0) (.string ⟨#[]⟩) (.slice none 0 0) (.slice none 0 0)).setCell (p:=⟨w.heap.size+1,0,none⟩) (by simp) (.int .i64 171))
      clear BD1 BD2
      go_wp2_with fail
      refine leaves_cons (f:=96) (args:=#[.pointer (some ⟨w.heap.size,0,none⟩),.pointer (some ⟨w.heap.size+1,0,none⟩)]) (by simp) (by simp [go_sem]) ?_
      refine (catch_idle ⟨w.heap.size,0,none⟩ ⟨w.heap.size+1,0,none⟩ _).mono ?_
      rintro e u' w9 ⟨rfl,rfl,rfl⟩
      exact par_leave BW1.out BW2.out rfl rfl ⟨171,none,_,_,_,_,HP.out,rfl,noQ_at _ _,BWb.out⟩
     ·have hdp':(depthN q:Int)≤16:=by omega
      have HP:=zh (PrsR.ok Hs1.out Hpp.out HRo.out Hmq.out (by omega))
      clear hdp
      generalize depthN q=dq at *
      obtain ⟨q0,q1,q2,q3,f0,f1,f2,f3⟩:=BD1.four
      have q4:=BD2.cell 0
      have f4:=BD2.frozen 0
      simp at q4
      have BW1:=zh ((BD1.set4 (.int .i64 q.kind) (.string q.name) (.slice A' n' c') (.slice C' m' d')).far (p:=⟨w.heap.size+1,0,none⟩) (by simp) (.int .i64 0))
      have BW2:Hid (Blk ((set4 wd w.heap.size (.int .i64 q.kind) (.string q.name) (.slice A' n' c') (.slice C' m' d')).setCell ⟨w.heap.size+1,0,none⟩ (.int .i64 0)) (w.heap.size+1) 39 #[.int .i64 0]) :=
       zh (by have:=(show Blk (set4 wd w.heap.size (.int .i64 q.kind) (.string q.name) (.slice A' n' c') (.slice C' m' d')) (w.heap.size+1) 39 #[.int .i64 0] from (set4_other wd w.heap.size _ _ _ _ _ (by omega)).trans BD2).set_ 0 (.int .i64 0); simpa using this)
      have BWb:=zh ((below_set4 Hbd.out (zG _) (.int .i64 q.kind) (.string q.name) (.slice A' n' c') (.slice C' m' d')).setCell (p:=⟨w.heap.size+1,0,none⟩) (by simp) (.int .i64 0))
      have HFe:Hid (QF ((set4 wd w.heap.size (.int .i64 q.kind) (.string q.name) (.slice A' n' c') (.slice C' m' d')).setCell ⟨w.heap.size+1,0,none⟩ (.int .i64 0)) (fun b=>w.heap.size≤b∧b<((set4 wd w.heap.size (.int .i64 q.kind) (.string q.name) (.slice A' n' c') (.slice C' m' d')).setCell ⟨w.heap.size+1,0,none⟩ (.int .i64 0)).heap.size) q [.int .i64 q.kind,.string q.name,.slice A' n' c',.slice C' m' d']):=zh
       ((HFd.out.keep fun b o hS=>World.cell?_of_block (w:=wd) ((Below.heap_setCell _ ⟨w.heap.size+1,0,none⟩ _ b (by show b≠w.heap.size+1; have:=hS.1; omega)).trans (set4_other wd w.heap.size b _ _ _ _ (by have:=hS.1; omega)))).mono fun b hS=>⟨by have:=hS.1; omega,by simpa [World.setCell,set4_size] using hS.2⟩)
      clear BD1 BD2
      go_wp2_with fail
      refine leaves_cons (f:=96) (args:=#[.pointer (some ⟨w.heap.size,0,none⟩),.pointer (some ⟨w.heap.size+1,0,none⟩)]) (by simp) (by simp [go_sem]) ?_
      refine (catch_idle ⟨w.heap.size,0,none⟩ ⟨w.heap.size+1,0,none⟩ _).mono ?_
      rintro e u' w9 ⟨rfl,rfl,rfl⟩
      exact par_leave BW1.out BW2.out rfl rfl ⟨0,some q,_,_,_,_,HP.out,rfl,HFe.out,BWb.out⟩
end Go.Proofs.YtmomjpolkkbhnaaGreat.Qp
end

section
namespace Go.Proofs.YtmomjpolkkbhnaaGreat.Qp
open Go.RowKit Ut Tk Qy
def colonV (s:P):Int:=if named s then (sepAt s:Nat) else -1
set_option maxHeartbeats 800000 in
theorem colon_ref (s:ByteArray) (w:World) (hs:s.size≤1048576):Calls Tryz.prog 167 #[.string s] w fun e w'=>e=.returned (.int .i64 (colonV s.data.toList))∧w=w':=by
 have Hend:=zh (findIdx_of (fun c=>c == 58 || c == 34) s.data.toList)
 have Hnm:Hid (named s.data.toList=(s.data.toList[sepAt s.data.toList]? == some 58)):=rfl
 have Hcv:Hid (colonV s.data.toList=if named s.data.toList then ((sepAt s.data.toList:Nat):Int) else -1):=rfl
 go_enter Tryz.func167,Tryz.ntmps167
 go_wp2_with fail
 go_loopw [3] (fun i wr=>∃ k:Nat,k≤s.size∧i=.int .i64 (k:Int)∧w=wr∧Hid (∀ x∈s.data.toList.take k,(x == 58 || x == 34)=false)) (fun i _=>s.size - (intOf i).toNat)
 case atStart=>exact ⟨0,Nat.zero_le _,rfl,rfl,zh (fun x hx=>by simp at hx)⟩
 case round =>
  obtain ⟨k,hk,rfl,rfl,hal⟩:=hrel
  have hk0:(0:Int)≤(k:Int):=by omega
  by_cases hlt:k<s.size
  ·have hts:=take_snoc s k hlt
   have g1:=get_of s k hlt
   have u0:=u8_eq s[k] 58
   have u1:=u8_eq s[k] 34
   simp only [show (UInt8.toNat 34:Int)=34 from rfl,show (UInt8.toNat 58:Int)=58 from rfl] at u0 u1
   have Hk:Hid ((s[k]=58∨s[k]=34)→sepAt s.data.toList=k):=zh (fun h=>Hend.out k hal.out (by rw [bsize]; omega) (fun _=>by
    show (s[k] == 58 || s[k] == 34)=true
    rcases h with h | h <;> simp [h]))
   by_cases q1:s[k]=34
   ·have t1:((s[k].toNat:Int) != 34)=false:=by rw [bne_eq_false_iff_eq]; rw [q1]; rfl
    have Fin:Hid (colonV s.data.toList=-1):=zh (by rw [Hcv.out,Hnm.out,Hk.out (.inr q1),g1,q1]; rfl)
    clear hts g1 u0 u1 Hk q1 hal Hend Hnm Hcv
    go_wp2_with fail
    go_ret
    exact ⟨by rw [Fin.out]; rfl,rfl⟩
   ·have t1:((s[k].toNat:Int) != 34)=true:=by
     have:((s[k].toNat:Int) == 34)=false:=by rw [u1]; exact beq_eq_false_iff_ne.2 q1
     simp [bne,this]
    by_cases q2:s[k]=58
    ·have t2:((s[k].toNat:Int) == 58)=true:=by rw [u0]; exact beq_iff_eq.2 q2
     have Fin:Hid (colonV s.data.toList=(k:Int)):=zh (by rw [Hcv.out,Hnm.out,Hk.out (.inl q2),g1,q2]; rfl)
     clear hts g1 u0 u1 Hk q1 q2 hal Hend Hnm Hcv
     go_wp2_with fail
     go_ret
     exact ⟨by rw [Fin.out]; rfl,rfl⟩
    ·have t2:((s[k].toNat:Int) == 58)=false:=by rw [u0]; exact beq_eq_false_iff_ne.2 q2
     have Hnx:Hid (∀ x∈s.data.toList.take (k+1),(x == 58 || x == 34)=false):=zh (fun x hx=>by
      rw [hts,List.mem_append] at hx
      rcases hx with hx | hx
      ·exact hal.out x hx
      ·rw [List.mem_singleton] at hx; rw [hx]; simp [q1,q2])
     clear hts g1 u0 u1 Hk q1 q2 hal Hend Hnm Hcv
     go_wp2_with fail
     go_roundw
     case rel=>exact ⟨k+1,by omega,by go_num,by first | rfl | trivial,Hnx⟩
     case measure=>simp [intOf]; omega
  ·have Fin:Hid (colonV s.data.toList=-1):=zh (by
    have e:sepAt s.data.toList=k:=Hend.out k hal.out (by rw [bsize]; omega) (fun h=>absurd h (by rw [bsize]; omega))
    rw [Hcv.out,Hnm.out,e,List.getElem?_eq_none (by rw [bsize]; omega)]; rfl)
   clear hal Hend Hnm Hcv
   go_wp2_with fail
   go_ret
   exact ⟨by rw [Fin.out]; rfl,rfl⟩
def Four (vs:List Value):Prop:=∃ (k:Int) (nm:ByteArray) (A:Option Addr) (n c:Nat) (C:Option Addr) (m d:Nat),vs=[.int .i64 k,.string nm,.slice A n c,.slice C m d]
def RwPost (base:Nat) (w:World) (o:Option Q) (e:Ending) (w':World):Prop :=
 ∃ a0 a1 a2 a3,e=.returned (.tuple #[.agg #[a0,a1,a2,a3],.bool o.isSome])∧Four [a0,a1,a2,a3]∧(∀ q,o=some q→QF w' (fun b=>base≤b∧b<w'.heap.size) q [a0,a1,a2,a3])∧Below w.heap.size w w'
theorem cs_results {fn:Func} {p1 p2:Tmp} (hf:fn.results=#[.cell p1 60,.tmp p2]) {tmps:Array Value} {W:World} {b1:Nat} {a0 a1 a2 a3 v:Value} (h1:tmps.getD p1 undef=.pointer (some ⟨b1,0,none⟩)) (h2:tmps.getD p2 undef=v) (B1:Blk W b1 60 #[a0,a1,a2,a3]) :
  (results fn tmps).run Tryz.prog W=.ok (.tuple #[.agg #[a0,a1,a2,a3],v]) W:=by
 have l1:=run_loadVar_row (P:=Tryz.prog) W b1 60 60 #[a0,a1,a2,a3] (0,0) _ B1 Tryz.underlying60 rfl (by kernel_rfl)
 have h1':tmps[p1]?.getD undef=.pointer (some ⟨b1,0,none⟩):=by simpa using h1
 have h2':tmps[p2]?.getD undef=v:=by simpa using h2
 simp [results,hf,h1',h2',asAddr,l1]
set_option maxHeartbeats 800000 in
theorem words_rf (base:Nat) (nm:ByteArray) (l:List P) (A:Option Addr) (c:Nat) (w:World) (hR:ReadsS w (fun b=>base≤b∧b<w.heap.size) 1 A l.length (sv l)) :
  Calls Tryz.prog 169 #[.string nm,.slice A l.length c] w (RwPost base w (wordsQ nm.data.toList l)):=by
 have Hnm:=zh (of_str nm)
 by_cases h0:l=[]
 ·have Fin:Hid (wordsQ nm.data.toList l=none):=zh (by unfold wordsQ; rw [if_pos h0])
  have hB:=Blk.new w 60 #[.int .i64 0,.string ⟨#[]⟩,.slice none 0 0,.slice none 0 0]
  have hbl:=zh ((Below.refl w.heap.size w).alloc (zG _) (.cells #[.int .i64 0,.string ⟨#[]⟩,.slice none 0 0,.slice none 0 0] 60))
  clear hR
  subst h0
  go_enter Tryz.func169,Tryz.ntmps169
  go_wp2_with fail
  refine bodyPost_ret (cs_results rfl rfl rfl hB) rfl ?_
  rw [Fin.out]
  exact ⟨_,_,_,_,rfl,⟨_,_,_,_,_,_,_,_,rfl⟩,(fun q h=>by cases h),hbl.out⟩
 have hl0:l.length≠0:=fun e=>h0 (List.length_eq_zero_iff.1 e)
 have z0:((l.length:Int) == 0)=false:=by rw [beq_eq_false_iff_ne]; omega
 by_cases h1:l.length=1
 ·have Fin:Hid (wordsQ nm.data.toList l=some (.mk 2 nm (l.map str) [])):=zh (by unfold wordsQ; rw [if_neg h0,if_pos h1,Hnm.out])
  have z1:((l.length:Int) == 1)=true:=by rw [h1]; rfl
  have hB:=Blk.new w 60 #[.int .i64 2,.string nm,.slice A l.length c,.slice none 0 0]
  have hbl:=(Below.refl w.heap.size w).alloc (zG _) (.cells #[.int .i64 2,.string nm,.slice A l.length c,.slice none 0 0] 60)
  have HF:Hid (QF (w.alloc (.cells #[.int .i64 2,.string nm,.slice A l.length c,.slice none 0 0] 60)) (fun b=>base≤b∧b<(w.alloc (.cells #[.int .i64 2,.string nm,.slice A l.length c,.slice none 0 0] 60)).heap.size) (.mk 2 nm (l.map str) []) [.int .i64 2,.string nm,.slice A l.length c,.slice none 0 0]):=zh
   (.mk [] (by rw [List.length_map]) ((hR.keep fun b o hS=>hbl.cell (p:=⟨b,o,none⟩) hS.2).mono fun b hS=>⟨hS.1,Nat.lt_of_lt_of_le hS.2 hbl.size⟩) rfl rfl (by simp) ReadsS.none_ (fun i hi=>absurd hi (by simp)))
  have Hbl:=zh hbl
  have HB:=zh hB
  clear hR h0 hl0 hbl hB h1
  generalize l.length=n at *
  go_enter Tryz.func169,Tryz.ntmps169
  go_wp2_with fail
  refine bodyPost_ret (cs_results rfl rfl rfl HB.out) rfl ?_
  rw [Fin.out]
  exact ⟨_,_,_,_,rfl,⟨_,_,_,_,_,_,_,_,rfl⟩,(fun q h=>by injection h with h; subst h; exact HF.out),Hbl.out⟩
 ·have Fin:Hid (wordsQ nm.data.toList l=some (.mk 4 nm (l.map str) [])):=zh (by unfold wordsQ; rw [if_neg h0,if_neg h1,Hnm.out])
  have z1:((l.length:Int) == 1)=false:=by rw [beq_eq_false_iff_ne]; omega
  have hB:=Blk.new w 60 #[.int .i64 4,.string nm,.slice A l.length c,.slice none 0 0]
  have hbl:=(Below.refl w.heap.size w).alloc (zG _) (.cells #[.int .i64 4,.string nm,.slice A l.length c,.slice none 0 0] 60)
  have HF:Hid (QF (w.alloc (.cells #[.int .i64 4,.string nm,.slice A l.length c,.slice none 0 0] 60)) (fun b=>base≤b∧b<(w.alloc (.cells #[.int .i64 4,.string nm,.slice A l.length c,.slice none 0 0] 60)).heap.size) (.mk 4 nm (l.map str) []) [.int .i64 4,.string nm,.slice A l.length c,.slice none 0 0]):=zh
   (.mk [] (by rw [List.length_map]) ((hR.keep fun b o hS=>hbl.cell (p:=⟨b,o,none⟩) hS.2).mono fun b hS=>⟨hS.1,Nat.lt_of_lt_of_le hS.2 hbl.size⟩) rfl rfl (by simp) ReadsS.none_ (fun i hi=>absurd hi (by simp)))
  have Hbl:=zh hbl
  have HB:=zh hB
  clear hR h0 hl0 hbl hB h1
  generalize l.length=n at *
  go_enter Tryz.func169,Tryz.ntmps169
  go_wp2_with fail
  refine bodyPost_ret (cs_results rfl rfl rfl HB.out) rfl ?_
  rw [Fin.out]
  exact ⟨_,_,_,_,rfl,⟨_,_,_,_,_,_,_,_,rfl⟩,(fun q h=>by injection h with h; subst h; exact HF.out),Hbl.out⟩
end Go.Proofs.YtmomjpolkkbhnaaGreat.Qp
end
