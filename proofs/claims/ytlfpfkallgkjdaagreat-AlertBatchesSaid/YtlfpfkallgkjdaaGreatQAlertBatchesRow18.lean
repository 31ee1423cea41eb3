/- qparse: part: the walk (printed by gen_qph.py). -/
import Derived.RegionTactic
import Derived.RegionDies
import Derived.Test.YtlfpfkallgkjdaaGreatQAlertBatchesRow17
import Derived.Test.YtlfpfkallgkjdaaGreatQAlertBatchesRow0
set_option linter.unusedSimpArgs false
set_option maxRecDepth 20000
section
namespace Go.Proofs.YtlfpfkallgkjdaaGreat.Qp
open Go.RowKit Ut Tk Qy
def RdPost (B:Nat) (w:World) (g:Nat) (o:Option (Q × List P)) (e:Ending) (w':World):Prop :=
 match o with
 | some (q,r)=>∃ a0 a1 a2 a3,e=.returned (.agg #[a0,a1,a2,a3])∧QF w' (fun b=>w.heap.size≤b∧b<w'.heap.size) q [a0,a1,a2,a3]∧Rd B w' g r∧w.grownBy w' (some g)
 | none=>e=badE∧w.grownBy w' (some g)
def MdPost (B:Nat) (w:World) (g:Nat) (m:Md) (l:List P) (e:Ending) (w':World):Prop:=∃ o,R m l o∧RdPost B w g o e w'
def PcAll (l:List P):Prop:=∀ x∈l,Pc x∧x.length≤1048576
def PartOk (l:List P):Prop:=∀ (B:Nat) (w:World) (g:Nat),Rd B w g l→Calls Tryz.prog 142 #[.pointer (some ⟨g,0,none⟩)] w (MdPost B w g .part l)
def AndOk (l:List P):Prop:=∀ (B:Nat) (w:World) (g:Nat),Rd B w g l→Calls Tryz.prog 99 #[.pointer (some ⟨g,0,none⟩)] w (MdPost B w g (.and []) l)
def OrOk (l:List P):Prop:=∀ (B:Nat) (w:World) (g:Nat),Rd B w g l→Calls Tryz.prog 62 #[.pointer (some ⟨g,0,none⟩)] w (MdPost B w g (.or []) l)
theorem grownBy_set4 (w:World) (g:Nat) (a b c d:Value):w.grownBy (set4 w g a b c d) (some g) :=
 ⟨rfl,rfl,rfl,by rw [set4_size]; exact zG _,fun k _ hk=>set4_other w g k a b c d (fun e=>hk (by rw [e]))⟩
theorem str_is (s:P) (l:P):((str s).toList == l)=decide (s=l):=by
 rw [tl,str_data,Bool.eq_iff_iff,beq_iff_eq,decide_eq_true_iff]
def W0 (w:World):World:=w.alloc (.cells #[.int .i64 0,.string ByteArray.empty,.slice none 0 0,.slice none 0 0] 52)
theorem W0_size (w:World):(W0 w).heap.size=w.heap.size+1:=by simp [W0]
theorem W0_blk (w:World):Blk (W0 w) w.heap.size 52 #[.int .i64 0,.string ByteArray.empty,.slice none 0 0,.slice none 0 0]:=Blk.new w _ _
theorem W0_below (w:World):Below w.heap.size w (W0 w):=(Below.refl _ _).alloc (zG _) _
theorem _root_.Go.Proofs.YtlfpfkallgkjdaaGreat.Blk.keep4 {w w':World} {b g:Nat} {t:TypeId} {cs:Array Value} (h:Blk w b t cs) (hg:w.grownBy w' (some g)) (hne:b≠g):Blk w' b t cs:=h.grown hg (fun e=>hne (by injection e))
set_option maxHeartbeats 1600000 in
theorem part_nil:PartOk []:=by
 intro B w g hR
 have c0:=next_nil B (W0 w) g (hR.below (W0_below w))
 have hb0:=zh (W0_below w)
 clear hR
 unfold W0 at c0
 go_enter Tryz.func142,Tryz.ntmps142
 go_wp2_with (first
  | (go_at_call 101; refine c0.mono ?_; rintro e w' ⟨rfl,rfl⟩)
  | (go_at_call 63; refine (must_no g _).mono ?_; rintro e w' ⟨rfl,rfl⟩))
 exact ⟨rfl,none,.pnil,rfl,grow_of_below hb0.out _⟩
set_option maxHeartbeats 3200000 in
theorem part_leaf (s:P) (t:List P) (hs:word1 s=true) (hp:Pc s) (hl:s.length≤1048576):PartOk (s :: t):=by
 intro B w g hR
 have hgl:=hR.lt
 have c0:=next_cons B (W0 w) g s t (hR.below (W0_below w))
 have hb0:=zh (W0_below w)
 have HB0:=zh (W0_blk w)
 have hz0:=W0_size w
 have he:=str_ne s (hR.ne s (by simp))
 have fNOT:((str s).toList == [78,79,84])=false:=by rw [str_is]; exact decide_eq_false (fun e=>by rw [e] at hs; exact absurd hs (by decide))
 have fLP:((str s).toList == [40])=false:=by rw [str_is]; exact decide_eq_false (fun e=>by rw [e] at hs; exact absurd hs (by decide))
 have fRP:((str s).toList == [41])=false:=by rw [str_is]; exact decide_eq_false (fun e=>by rw [e] at hs; exact absurd hs (by decide))
 have fAND:((str s).toList == [65,78,68])=false:=by rw [str_is]; exact decide_eq_false (fun e=>by rw [e] at hs; exact absurd hs (by decide))
 have fOR:((str s).toList == [79,82])=false:=by rw [str_is]; exact decide_eq_false (fun e=>by rw [e] at hs; exact absurd hs (by decide))
 have hlow:=hR.low
 clear hR
 generalize hW:W0 w=v0 at *
 have HW:=zh hW
 unfold W0 at hW
 have HH:=zh (R.pleaf (t:=t) hs)
 clear hs
 subst hW
 have c1:=fun wx=>leaf_q g s hp hl wx
 generalize leafQ s=oq at *
 have C1:=zh c1
 clear c1 hp hl
 go_enter Tryz.func142,Tryz.ntmps142
 go_wp2_with fail
 refine c0.mono ?_
 rintro e w1 ⟨rfl,hRd,hg1⟩
 have hlt:w.heap.size<w1.heap.size:=by have:=hg1.size; rw [hz0] at this; omega
 have HB1:=zh (HB0.out.keep4 hg1 (by omega))
 have hbw1:w.grownBy w1 (some g):=grownBy_trans (grow_of_below hb0.out _) hg1
 have Hbw1:=zh hbw1
 have HRd:=zh hRd
 clear hg1 hbw1 hRd HB0 hb0 c0
 go_wp2_with fail
 refine (C1.out w1).mono ?_
 intro e w3 hpost
 clear C1
 cases oq with
 | none =>
  obtain ⟨rfl,hb3⟩:=hpost
  have hb3':=zh hb3
  clear hb3
  unfold badE
  exact ⟨rfl,none,HH.out,rfl,grownBy_trans Hbw1.out (grow_of_below hb3'.out _)⟩
 | some q =>
  obtain ⟨a0,a1,a2,a3,rfl,hF,hb3⟩:=hpost
  have HB3:=HB1.out.below hb3 hlt
  obtain ⟨q0,q1,q2,q3,f0,f1,f2,f3⟩:=HB3.four
  obtain ⟨A',n',c',C',m',d',e4⟩:=hF.four
  simp only [List.cons.injEq,and_true] at e4
  obtain ⟨rfl,rfl,rfl,rfl⟩:=e4
  have hh:=HB3.set4 (.int .i64 q.kind) (.string q.name) (.slice A' n' c') (.slice C' m' d')
  have HF:=zh (q_ret (w:=w) hF hlt (zG _))
  have hg4:=grownBy_set4 w3 w.heap.size (.int .i64 q.kind) (.string q.name) (.slice A' n' c') (.slice C' m' d')
  have HR3:=zh ((HRd.out.below hb3).other hg4 (fun b e=>by injection e with e; omega))
  have Hg:=zh (grownBy_new (grownBy_trans Hbw1.out (grow_of_below hb3 _)) hg4 (fun b e=>by injection e with e; omega))
  have Hh:=zh hh
  clear hF hb3 HB3 hh hg4
  go_wp2_with fail
  refine bodyPost_ret (results_cell rfl rfl (run_loadVar_row _ w.heap.size 52 52 #[.int .i64 q.kind,.string q.name,.slice A' n' c',.slice C' m' d'] (0,0) _ Hh.out Tryz.underlying52 rfl (by kernel_rfl))) rfl ?_
  exact ⟨_,HH.out,_,_,_,_,rfl,HF.out,HR3.out,Hg.out⟩
set_option maxHeartbeats 1600000 in
theorem part_RP (t:List P):PartOk (RP :: t):=by
 intro B w g hR
 have hgl:=hR.lt
 have c0:=next_cons B (W0 w) g RP t (hR.below (W0_below w))
 have hb0:=zh (W0_below w)
 have HB0:=zh (W0_blk w)
 have hz0:=W0_size w
 have he:=str_ne RP (hR.ne RP (by simp))
 have fNOT:((str RP).toList == [78,79,84])=false:=by rw [str_is]; decide
 have fLP:((str RP).toList == [40])=false:=by rw [str_is]; decide
 have fRP:((str RP).toList == [41])=true:=by rw [str_is]; decide
 have fAND:((str RP).toList == [65,78,68])=false:=by rw [str_is]; decide
 have fOR:((str RP).toList == [79,82])=false:=by rw [str_is]; decide
 have hlow:=hR.low
 clear hR
 generalize hW:W0 w=v0 at *
 have HW:=zh hW
 unfold W0 at hW
 subst hW
 clear hz0 hlow HB0
 go_enter Tryz.func142,Tryz.ntmps142
 go_wp2_with (first
  | (go_at_call 101; refine c0.mono ?_; rintro e w1 ⟨rfl,hRd,hg1⟩; have Hg1:=zh hg1; clear hRd hg1)
  | (go_at_call 63; refine (must_no g _).mono ?_; rintro e w' ⟨rfl,rfl⟩))
 exact ⟨rfl,none,.pbad (.inl rfl),rfl,grownBy_trans (grow_of_below hb0.out _) Hg1.out⟩
set_option maxHeartbeats 1600000 in
theorem part_AND (t:List P):PartOk (AND :: t):=by
 intro B w g hR
 have hgl:=hR.lt
 have c0:=next_cons B (W0 w) g AND t (hR.below (W0_below w))
 have hb0:=zh (W0_below w)
 have HB0:=zh (W0_blk w)
 have hz0:=W0_size w
 have he:=str_ne AND (hR.ne AND (by simp))
 have fNOT:((str AND).toList == [78,79,84])=false:=by rw [str_is]; decide
 have fLP:((str AND).toList == [40])=false:=by rw [str_is]; decide
 have fRP:((str AND).toList == [41])=false:=by rw [str_is]; decide
 have fAND:((str AND).toList == [65,78,68])=true:=by rw [str_is]; decide
 have fOR:((str AND).toList == [79,82])=false:=by rw [str_is]; decide
 have hlow:=hR.low
 clear hR
 generalize hW:W0 w=v0 at *
 have HW:=zh hW
 unfold W0 at hW
 subst hW
 clear hz0 hlow HB0
 go_enter Tryz.func142,Tryz.ntmps142
 go_wp2_with (first
  | (go_at_call 101; refine c0.mono ?_; rintro e w1 ⟨rfl,hRd,hg1⟩; have Hg1:=zh hg1; clear hRd hg1)
  | (go_at_call 63; refine (must_no g _).mono ?_; rintro e w' ⟨rfl,rfl⟩))
 exact ⟨rfl,none,.pbad (.inr (.inl rfl)),rfl,grownBy_trans (grow_of_below hb0.out _) Hg1.out⟩
set_option maxHeartbeats 1600000 in
theorem part_OR (t:List P):PartOk (OR :: t):=by
 intro B w g hR
 have hgl:=hR.lt
 have c0:=next_cons B (W0 w) g OR t (hR.below (W0_below w))
 have hb0:=zh (W0_below w)
 have HB0:=zh (W0_blk w)
 have hz0:=W0_size w
 have he:=str_ne OR (hR.ne OR (by simp))
 have fNOT:((str OR).toList == [78,79,84])=false:=by rw [str_is]; decide
 have fLP:((str OR).toList == [40])=false:=by rw [str_is]; decide
 have fRP:((str OR).toList == [41])=false:=by rw [str_is]; decide
 have fAND:((str OR).toList == [65,78,68])=false:=by rw [str_is]; decide
 have fOR:((str OR).toList == [79,82])=true:=by rw [str_is]; decide
 have hlow:=hR.low
 clear hR
 generalize hW:W0 w=v0 at *
 have HW:=zh hW
 unfold W0 at hW
 subst hW
 clear hz0 hlow HB0
 go_enter Tryz.func142,Tryz.ntmps142
 go_wp2_with (first
  | (go_at_call 101; refine c0.mono ?_; rintro e w1 ⟨rfl,hRd,hg1⟩; have Hg1:=zh hg1; clear hRd hg1)
  | (go_at_call 63; refine (must_no g _).mono ?_; rintro e w' ⟨rfl,rfl⟩))
 exact ⟨rfl,none,.pbad (.inr (.inr rfl)),rfl,grownBy_trans (grow_of_below hb0.out _) Hg1.out⟩
set_option maxHeartbeats 3200000 in
theorem part_not (t:List P) (ih:PartOk t):PartOk (NOT :: t):=by
 intro B w g hR
 have hgl:=hR.lt
 have c0:=next_cons B (W0 w) g NOT t (hR.below (W0_below w))
 have hb0:=zh (W0_below w)
 have HB0:=zh (W0_blk w)
 have hz0:=W0_size w
 have he:=str_ne NOT (hR.ne NOT (by simp))
 have fNOT:((str NOT).toList == [78,79,84])=true:=by rw [str_is]; decide
 have fLP:((str NOT).toList == [40])=false:=by rw [str_is]; decide
 have fRP:((str NOT).toList == [41])=false:=by rw [str_is]; decide
 have fAND:((str NOT).toList == [65,78,68])=false:=by rw [str_is]; decide
 have fOR:((str NOT).toList == [79,82])=false:=by rw [str_is]; decide
 have hlow:=hR.low
 clear hR
 generalize hW:W0 w=v0 at *
 have HW:=zh hW
 unfold W0 at hW
 subst hW
 go_enter Tryz.func142,Tryz.ntmps142
 go_wp2_with fail
 refine c0.mono ?_
 rintro e w1 ⟨rfl,hRd,hg1⟩
 have hlt:w.heap.size<w1.heap.size:=by have:=hg1.size; rw [hz0] at this; omega
 have HB1:=zh (HB0.out.keep4 hg1 (by omega))
 have Hbw1:=zh (grownBy_trans (grow_of_below hb0.out _) hg1)
 have c1:=ih B w1 g hRd
 clear hg1 hRd HB0 hb0 c0
 go_wp2_with fail
 refine c1.mono ?_
 rintro e w2 ⟨o,hRo,hpost⟩
 have HRo:=zh hRo
 clear c1 hRo
 match o,hpost,HRo with
 | none,hpost,HRo =>
  obtain ⟨rfl,hg2⟩:=hpost
  have Hg2:=zh hg2
  clear hg2
  unfold badE
  exact ⟨rfl,none,.pnot rfl HRo.out,rfl,grownBy_trans Hbw1.out Hg2.out⟩
 | some (q,r),hpost,HRo =>
  obtain ⟨a0,a1,a2,a3,rfl,hF,hR2,hg2⟩:=hpost
  have HB2:=HB1.out.keep4 hg2 (by omega)
  have hlt2:w.heap.size<w2.heap.size:=Nat.lt_of_lt_of_le hlt hg2.size
  have hne2:w.heap.size≠w2.heap.size:=by omega
  obtain ⟨q0,q1,q2,q3,f0,f1,f2,f3⟩:=HB2.four
  obtain ⟨A',n',c',C',m',d',e4⟩:=hF.four
  simp only [List.cons.injEq,and_true] at e4
  obtain ⟨rfl,rfl,rfl,rfl⟩:=e4
  have hX:=HB2.set4 (.int .i64 7) (.string ⟨#[]⟩) (.slice none 0 0) (.slice (some ⟨w2.heap.size,0,none⟩) 1 1)
  have hg4:=grownBy_set4 w2 w.heap.size (.int .i64 7) (.string ⟨#[]⟩) (.slice none 0 0) (.slice (some ⟨w2.heap.size,0,none⟩) 1 1)
  have hz4:=set4_size w2 w.heap.size (.int .i64 7) (.string ⟨#[]⟩) (.slice none 0 0) (.slice (some ⟨w2.heap.size,0,none⟩) 1 1)
  have hF4:QF (set4 w2 w.heap.size (.int .i64 7) (.string ⟨#[]⟩) (.slice none 0 0) (.slice (some ⟨w2.heap.size,0,none⟩) 1 1)) (fun b=>w.heap.size≤b∧b<w2.heap.size) q [.int .i64 q.kind,.string q.name,.slice A' n' c',.slice C' m' d'] :=
   (hF.keep fun b _ hS=>World.cell?_of_block (w:=w2) (set4_other w2 w.heap.size b _ _ _ _ (by have:=hS.1; omega))).mono fun b hS=>⟨by have:=hS.1; omega,hS.2⟩
  have hR4:=hR2.other hg4 (fun b e=>by injection e with e; omega)
  have hgA:=grownBy_new (grownBy_trans Hbw1.out hg2) hg4 (fun b e=>by injection e with e; omega)
  generalize hw4:set4 w2 w.heap.size (.int .i64 7) (.string ⟨#[]⟩) (.slice none 0 0) (.slice (some ⟨w2.heap.size,0,none⟩) 1 1)=w4 at hX hg4 hz4 hF4 hR4 hgA
  have hBn:=Blk.new w4 52 #[.int .i64 q.kind,.string q.name,.slice A' n' c',.slice C' m' d']
  have hbn:=(Below.refl w4.heap.size w4).alloc (zG _) (.cells #[.int .i64 q.kind,.string q.name,.slice A' n' c',.slice C' m' d'] 52)
  have hzn:(w4.alloc (.cells #[.int .i64 q.kind,.string q.name,.slice A' n' c',.slice C' m' d'] 52)).heap.size=w2.heap.size+1:=by rw [World.size_alloc,hz4]
  rw [hz4] at hBn
  have HF:Hid (QF (w4.alloc (.cells #[.int .i64 q.kind,.string q.name,.slice A' n' c',.slice C' m' d'] 52)) (fun b=>w.heap.size≤b∧b<(w4.alloc (.cells #[.int .i64 q.kind,.string q.name,.slice A' n' c',.slice C' m' d'] 52)).heap.size) (notQ q) [.int .i64 7,.string ⟨#[]⟩,.slice none 0 0,.slice (some ⟨w2.heap.size,0,none⟩) 1 1]):=zh (by
   refine QF.mk (nm:=⟨#[]⟩) [[.int .i64 q.kind,.string q.name,.slice A' n' c',.slice C' m' d']] rfl (by simpa using ReadsS.none_) rfl rfl (by simp) ⟨rfl,fun _=>⟨w2.heap.size,0,rfl,⟨by omega,by omega⟩,fun j u hu=>?_⟩⟩ (fun i hi hi'=>?_)
   ·rw [Nat.zero_add,hBn.cell]
    simpa using hu
   ·have:i=0:=by simp at hi; exact hi
    subst this
    exact (hF4.keep fun b o hS=>hbn.cell (p:=⟨b,o,none⟩) (by rw [hz4]; exact hS.2)).mono fun b hS=>⟨hS.1,by have:=hS.2; omega⟩)
  have HX:=zh (hX.alloc (.cells #[.int .i64 q.kind,.string q.name,.slice A' n' c',.slice C' m' d'] 52))
  have HRX:=zh (hR4.below hbn)
  have HGX:=zh (grownBy_trans hgA (grow_of_below hbn _))
  clear hX hg4 hF4 hR4 hgA hBn hbn hzn hF hR2 hg2 HB2 Hbw1 HB1 ih
  subst hw4
  clear hz4
  go_wp2_with fail
  refine bodyPost_ret (results_cell rfl rfl (run_loadVar_row _ w.heap.size 52 52 #[.int .i64 7,.string ⟨#[]⟩,.slice none 0 0,.slice (some ⟨w2.heap.size,0,none⟩) 1 1] (0,0) _ HX.out Tryz.underlying52 rfl (by kernel_rfl))) rfl ?_
  exact ⟨_,R.pnot rfl HRo.out,_,_,_,_,rfl,HF.out,HRX.out,HGX.out⟩
end Go.Proofs.YtlfpfkallgkjdaaGreat.Qp
end

section
namespace Go.Proofs.YtlfpfkallgkjdaaGreat.Qp
open Go.RowKit Ut Tk Qy
theorem grownBy_drew {w w1:World} {row:Option Nat} (h:w.grownBy w1 row):w.grownBy w1.drew row:=⟨h.os,h.tape,h.output,h.size,h.block⟩
set_option maxHeartbeats 6400000 in
theorem part_lp (t:List P) (ih:OrOk t):PartOk (LP :: t):=by
 intro B w g hR
 have hgl:=hR.lt
 have c0:=next_cons B (W0 w) g LP t (hR.below (W0_below w))
 have hb0:=zh (W0_below w)
 have HB0:=zh (W0_blk w)
 have hz0:=W0_size w
 have he:=str_ne LP (hR.ne LP (by simp))
 have fNOT:((str LP).toList == [78,79,84])=false:=by rw [str_is]; decide
 have fLP:((str LP).toList == [40])=true:=by rw [str_is]; decide
 have fRP:((str LP).toList == [41])=false:=by rw [str_is]; decide
 have fAND:((str LP).toList == [65,78,68])=false:=by rw [str_is]; decide
 have fOR:((str LP).toList == [79,82])=false:=by rw [str_is]; decide
 have hlow:=hR.low
 clear hR
 generalize hW:W0 w=v0 at *
 have HW:=zh hW
 unfold W0 at hW
 subst hW
 go_enter Tryz.func142,Tryz.ntmps142
 go_wp2_with fail
 refine c0.mono ?_
 rintro e w1 ⟨rfl,hRd,hg1⟩
 have hlt:w.heap.size<w1.heap.size:=by have:=hg1.size; rw [hz0] at this; omega
 have HB1:=zh (HB0.out.keep4 hg1 (by omega))
 have Hbw1:=zh (grownBy_trans (grow_of_below hb0.out _) hg1)
 have c1:=ih B w1 g hRd
 clear hg1 hRd HB0 hb0 c0
 go_wp2_with fail
 refine c1.mono ?_
 rintro e w2 ⟨o,hRo,hpost⟩
 have HRo:=zh hRo
 clear c1 hRo
 match o,hpost,HRo with
 | none,hpost,HRo =>
  obtain ⟨rfl,hg2⟩:=hpost
  have Hg2:=zh hg2
  clear hg2
  unfold badE
  exact ⟨rfl,none,.plp rfl HRo.out,rfl,grownBy_trans Hbw1.out Hg2.out⟩
 | some (q,r),hpost,HRo =>
  obtain ⟨a0,a1,a2,a3,rfl,hF,hR2,hg2⟩:=hpost
  have HB2:=HB1.out.keep4 hg2 (by omega)
  have hlt2:w.heap.size<w2.heap.size:=Nat.lt_of_lt_of_le hlt hg2.size
  have hne2:w.heap.size≠w2.heap.size:=by omega
  have hgA:=grownBy_trans Hbw1.out hg2
  obtain ⟨A',n',c',C',m',d',e4⟩:=hF.four
  simp only [List.cons.injEq,and_true] at e4
  obtain ⟨rfl,rfl,rfl,rfl⟩:=e4
  have hb3:=(Below.refl w2.heap.size w2).alloc (zG _) (.cells #[.int .i64 q.kind,.string q.name,.slice A' n' c',.slice C' m' d'] 52)
  have hz3:(w2.alloc (.cells #[.int .i64 q.kind,.string q.name,.slice A' n' c',.slice C' m' d'] 52)).heap.size=w2.heap.size+1:=by simp
  have hBx:=Blk.new w2 52 #[.int .i64 q.kind,.string q.name,.slice A' n' c',.slice C' m' d']
  have hR3:=hR2.below hb3
  have hF3:=hF.grow hb3
  have hB3:=HB2.alloc (.cells #[.int .i64 q.kind,.string q.name,.slice A' n' c',.slice C' m' d'] 52)
  have hgB:=grownBy_trans hgA (grow_of_below hb3 _)
  have HF3:=zh hF3
  have HB3:=zh hB3
  have HBx:=zh hBx
  have HgB:=zh hgB
  have HR3:=zh hR3
  clear hF hR2 hg2 HB2 Hbw1 HB1 ih hgA hb3 hBx hR3 hF3 hB3 hgB
  go_wp2_with fail
  generalize hw3:w2.alloc (.cells #[.int .i64 q.kind,.string q.name,.slice A' n' c',.slice C' m' d'] 52)=w3 at *
  clear hw3
  match r,HRo,HR3 with
  | [],HRo,HR3 =>
   have c3:=next_nil B w3.drew g (HR3.out.below ((Below.refl _ _).drew))
   go_region_dies
   rename_i K hK
   refine c3.mono ?_
   rintro e w' ⟨rfl,rfl⟩
   refine hK _ _ ?_
   clear hK K
   refine wpAny_take (i:=7) (v:=.bool false) rfl (by kernel_rfl) (by kernel_rfl) (by kernel_rfl) (fun _ _ _ h=>h) (Or.inl ⟨by rfl,?_⟩) ?_
   ·intro w
    go_simp
   refine wpAny_ready (rs:=[8]) (by kernel_rfl) (by simp) ?_
   refine AllReady.cons rfl (fun K hK=>?_) AllReady.nil
   go_simp
   refine (must_no g _).mono ?_
   rintro e w' ⟨rfl,rfl⟩
   exact ⟨rfl,none,R.plp rfl HRo.out,rfl,grownBy_drew HgB.out⟩
  | s' :: r',HRo,HR3 =>
   have c3:=next_cons B w3.drew g s' r' (HR3.out.below ((Below.refl _ _).drew))
   have hgl3:=HR3.out.lt
   have hne4:w.heap.size≠g:=by omega
   by_cases hs':s'=RP
   ·have f41:((str s').toList == [41])=true:=by rw [str_is]; exact decide_eq_true hs'
    have HH:Hid (R .part (LP :: t) (some (q,r'))):=zh (by
     have:=R.plp (s:=LP) rfl HRo.out
     rw [show closed (some (q,s' :: r'))=some (q,r') from if_pos hs'] at this
     exact this)
    have hs'':=zh hs'
    clear hs' HRo
    go_region_with (first
     | (go_at_call 101; refine c3.mono ?_; rintro e w4 ⟨rfl,hR4,hg4⟩; have HR4:=zh hR4; have Hg4:=zh hg4; clear hR4 hg4)
     | (go_at_call 63; refine (must_yes g _).mono ?_; rintro e w' ⟨rfl,rfl⟩))
    have hne5:w2.heap.size≠g:=by omega
    have hz4:w3.heap.size≤w4.heap.size:=Hg4.out.size
    have hbx4:=(HBx.out.drew).keep4 Hg4.out hne5
    have hB4:=(HB3.out.drew).keep4 Hg4.out hne4
    have hF4:QF w4 (fun b=>w1.heap.size≤b∧b<w4.heap.size) q [.int .i64 q.kind,.string q.name,.slice A' n' c',.slice C' m' d'] :=
     (HF3.out.keep (w':=w4) fun b o hS=>World.cell?_of_block (w:=w3) (Hg4.out.block b hS.2 (fun e=>by injection e with e; have:=hS.1; omega))).mono fun b hS=>⟨hS.1,by have:=hS.2; omega⟩
    obtain ⟨q0,q1,q2,q3,f0,f1,f2,f3⟩:=hB4.four
    obtain ⟨x0,x1,x2,x3,_,_,_,_⟩:=hbx4.four
    have hX:=hB4.set4 (.int .i64 q.kind) (.string q.name) (.slice A' n' c') (.slice C' m' d')
    have hg5:=grownBy_set4 w4 w.heap.size (.int .i64 q.kind) (.string q.name) (.slice A' n' c') (.slice C' m' d')
    have HF:=zh (q_ret (w:=w) hF4 hlt (zG _))
    have HRX:=zh (HR4.out.other hg5 (fun b e=>by injection e with e; omega))
    have HGX:=zh (grownBy_new (grownBy_trans (grownBy_drew HgB.out) Hg4.out) hg5 (fun b e=>by injection e with e; omega))
    have HX:=zh hX
    clear hX hg5 hF4 hbx4 hB4 HBx HB3 HF3 HgB Hg4 HR4 HR3 c3
    go_wp2_with fail
    refine bodyPost_ret (results_cell rfl rfl (run_loadVar_row _ w.heap.size 52 52 #[.int .i64 q.kind,.string q.name,.slice A' n' c',.slice C' m' d'] (0,0) _ HX.out Tryz.underlying52 rfl (by kernel_rfl))) rfl ?_
    exact ⟨_,HH.out,_,_,_,_,rfl,HF.out,HRX.out,HGX.out⟩
   ·have f41:((str s').toList == [41])=false:=by rw [str_is]; exact decide_eq_false hs'
    have HH:Hid (R .part (LP :: t) none):=zh (by
     have:=R.plp (s:=LP) rfl HRo.out
     rw [show closed (some (q,s' :: r'))=none from if_neg hs'] at this
     exact this)
    clear hs' HRo
    go_region_dies
    rename_i K hK
    refine c3.mono ?_
    rintro e w4 ⟨rfl,hR4,hg4⟩
    have Hg4:=zh hg4
    clear hR4 hg4
    refine hK _ _ ?_
    clear hK K
    refine wpAny_take (i:=7) (v:=.bool false) rfl (by kernel_rfl) (by kernel_rfl) (by kernel_rfl) (fun _ _ _ h=>h) (Or.inl ⟨by rfl,?_⟩) ?_
    ·intro w
     go_simp
    refine wpAny_ready (rs:=[8]) (by kernel_rfl) (by simp) ?_
    refine AllReady.cons rfl (fun K hK=>?_) AllReady.nil
    go_simp
    refine (must_no g _).mono ?_
    rintro e w' ⟨rfl,rfl⟩
    exact ⟨rfl,none,HH.out,rfl,grownBy_trans (grownBy_drew HgB.out) Hg4.out⟩
end Go.Proofs.YtlfpfkallgkjdaaGreat.Qp
end
