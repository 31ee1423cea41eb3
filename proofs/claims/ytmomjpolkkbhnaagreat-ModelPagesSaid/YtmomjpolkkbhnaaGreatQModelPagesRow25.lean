/- qparse: part: the walk (printed by gen_qph.py). -/
import Derived.RegionTactic
import Derived.RegionDies
import Derived.Defers
import Derived.Recover
import Derived.Test.YtmomjpolkkbhnaaGreatQModelPagesRow24
import Derived.Test.YtmomjpolkkbhnaaGreatQModelPagesRow0
set_option linter.unusedSimpArgs false
set_option maxRecDepth 20000
section
namespace Go.Proofs.YtmomjpolkkbhnaaGreat.Qp
open Go.RowKit Ut Tk Qy
def RdPost (B:Nat) (w:World) (g:Nat) (o:Option (Q × List P)) (e:Ending) (w':World):Prop :=
 match o with
 | some (q,r)=>∃ a0 a1 a2 a3,e=.returned (.agg #[a0,a1,a2,a3])∧QF w' (fun b=>w.heap.size≤b∧b<w'.heap.size) q [a0,a1,a2,a3]∧Rd B w' g r∧w.grownBy w' (some g)
 | none=>e=badE∧w.grownBy w' (some g)
def MdPost (B:Nat) (w:World) (g:Nat) (m:Md) (l:List P) (e:Ending) (w':World):Prop:=∃ o,R m l o∧RdPost B w g o e w'
def PcAll (l:List P):Prop:=∀ x∈l,Pc x∧x.length≤1048576
def PartOk (l:List P):Prop:=∀ (B:Nat) (w:World) (g:Nat),Rd B w g l→Calls Tryz.prog 152 #[.pointer (some ⟨g,0,none⟩)] w (MdPost B w g .part l)
def AndOk (l:List P):Prop:=∀ (B:Nat) (w:World) (g:Nat),Rd B w g l→Calls Tryz.prog 125 #[.pointer (some ⟨g,0,none⟩)] w (MdPost B w g (.and []) l)
def OrOk (l:List P):Prop:=∀ (B:Nat) (w:World) (g:Nat),Rd B w g l→Calls Tryz.prog 97 #[.pointer (some ⟨g,0,none⟩)] w (MdPost B w g (.or []) l)
theorem grownBy_set4 (w:World) (g:Nat) (a b c d:Value):w.grownBy (set4 w g a b c d) (some g) :=
 ⟨rfl,rfl,rfl,by rw [set4_size]; exact zG _,fun k _ hk=>set4_other w g k a b c d (fun e=>hk (by rw [e]))⟩
theorem str_is (s:P) (l:P):((str s).toList == l)=decide (s=l):=by
 rw [tl,str_data,Bool.eq_iff_iff,beq_iff_eq,decide_eq_true_iff]
def W0 (w:World):World:=w.alloc (.cells #[.int .i64 0,.string ByteArray.empty,.slice none 0 0,.slice none 0 0] 60)
theorem W0_size (w:World):(W0 w).heap.size=w.heap.size+1:=by simp [W0]
theorem W0_blk (w:World):Blk (W0 w) w.heap.size 60 #[.int .i64 0,.string ByteArray.empty,.slice none 0 0,.slice none 0 0]:=Blk.new w _ _
theorem W0_below (w:World):Below w.heap.size w (W0 w):=(Below.refl _ _).alloc (zG _) _
theorem _root_.Go.Proofs.YtmomjpolkkbhnaaGreat.Blk.keep4 {w w':World} {b g:Nat} {t:TypeId} {cs:Array Value} (h:Blk w b t cs) (hg:w.grownBy w' (some g)) (hne:b≠g):Blk w' b t cs:=h.grown hg (fun e=>hne (by injection e))
set_option maxHeartbeats 1600000 in
theorem part_nil:PartOk []:=by
 intro B w g hR
 have c0:=next_nil B (W0 w) g (hR.below (W0_below w))
 have hb0:=zh (W0_below w)
 clear hR
 unfold W0 at c0
 go_enter Tryz.func152,Tryz.ntmps152
 go_wp2_with (first
  | (go_at_call 127; refine c0.mono ?_; rintro e w' ⟨rfl,rfl⟩)
  | (go_at_call 98; refine (must_no g _).mono ?_; rintro e w' ⟨rfl,rfl⟩))
 exact ⟨rfl,none,.pnil,rfl,grow_of_below hb0.out _⟩
set_option maxHeartbeats 3200000 in
theorem part_leaf (s:P) (t:List P) (hs:word1 s=true) (hp:Pc s) (hl:s.length≤1048576):PartOk (s :: t):=by
 intro B w g hR
 have hgl:=hR.lt
 have c0:=next_cons B (W0 w) g s t (hR.below (W0_below w))
 have hb0:=zh (W0_below w)
 have HB0:=zh (W0_blk w)
 have hz0:=W0_size w
 have he:=str_ne s (hR.ne s (by simp))
 have fNOT:((str s).toList == [78,79,84])=false:=by rw [str_is]; exact decide_eq_false (fun e=>by rw [e] at hs; exact absurd hs (by decide))
 have fLP:((str s).toList == [40])=false:=by rw [str_is]; exact decide_eq_false (fun e=>by rw [e] at hs; exact absurd hs (by decide))
 have fRP:((str s).toList == [41])=false:=by rw [str_is]; exact decide_eq_false (fun e=>by rw [e] at hs; exact absurd hs (by decide))
 have fAND:((str s).toList == [65,78,68])=false:=by rw [str_is]; exact decide_eq_false (fun e=>by rw [e] at hs; exact absurd hs (by decide))
 have fOR:((str s).toList == [79,82])=false:=by rw [str_is]; exact decide_eq_false (fun e=>by rw [e] at hs; exact absurd hs (by decide))
 have hlow:=hR.low
 clear hR
 generalize hW:W0 w=v0 at *
 have HW:=zh hW
 unfold W0 at hW
 have HH:=zh (R.pleaf (t:=t) hs)
 clear hs
 subst hW
 have c1:=fun wx=>leaf_q g s hp hl wx
 generalize leafQ s=oq at *
 have C1:=zh c1
 clear c1 hp hl
 go_enter Tryz.func152,Tryz.ntmps152
 go_wp2_with fail
 refine c0.mono ?_
 rintro e w1 ⟨rfl,hRd,hg1⟩
 have hlt:w.heap.size<w1.heap.size:=by have:=hg1.size; rw [hz0] at this; omega
 have HB1:=zh (HB0.out.keep4 hg1 (by omega))
 have hbw1:w.grownBy w1 (some g):=grownBy_trans (grow_of_below hb0.out _) hg1
 have Hbw1:=zh hbw1
 have HRd:=zh hRd
 clear hg1 hbw1 hRd HB0 hb0 c0
 go_wp2_with fail
 refine (C1.out w1).mono ?_
 intro e w3 hpost
 clear C1
 cases oq with
 | none =>
  obtain ⟨rfl,hb3⟩:=hpost
  have hb3':=zh hb3
  clear hb3
  unfold badE
  exact ⟨rfl,none,HH.out,rfl,grownBy_trans Hbw1.out (grow_of_below hb3'.out _)⟩
 | some q =>
  obtain ⟨a0,a1,a2,a3,rfl,hF,hb3⟩:=hpost
  have HB3:=HB1.out.below hb3 hlt
  obtain ⟨q0,q1,q2,q3,f0,f1,f2,f3⟩:=HB3.four
  obtain ⟨A',n',c',C',m',d',e4⟩:=hF.four
  simp only [List.cons.injEq,and_true] at e4
  obtain ⟨rfl,rfl,rfl,rfl⟩:=e4
  have hh:=HB3.set4 (.int .i64 q.kind) (.string q.name) (.slice A' n' c') (.slice C' m' d')
  have HF:=zh (q_ret (w:=w) hF hlt (zG _))
  have hg4:=grownBy_set4 w3 w.heap.size (.int .i64 q.kind) (.string q.name) (.slice A' n' c') (.slice C' m' d')
  have HR3:=zh ((HRd.out.below hb3).other hg4 (fun b e=>by injection e with e; omega))
  have Hg:=zh (grownBy_new (grownBy_trans Hbw1.out (grow_of_below hb3 _)) hg4 (fun b e=>by injection e with e; omega))
  have Hh:=zh hh
  clear hF hb3 HB3 hh hg4
  go_wp2_with fail
  refine bodyPost_ret (results_cell rfl rfl (run_loadVar_row _ w.heap.size 60 60 #[.int .i64 q.kind,.string q.name,.slice A' n' c',.slice C' m' d'] (0,0) _ Hh.out Tryz.underlying60 rfl (by kernel_rfl))) rfl ?_
  exact ⟨_,HH.out,_,_,_,_,rfl,HF.out,HR3.out,Hg.out⟩
set_option maxHeartbeats 1600000 in
theorem part_RP (t:List P):PartOk (RP :: t):=by
 intro B w g hR
 have hgl:=hR.lt
 have c0:=next_cons B (W0 w) g RP t (hR.below (W0_below w))
 have hb0:=zh (W0_below w)
 have HB0:=zh (W0_blk w)
 have hz0:=W0_size w
 have he:=str_ne RP (hR.ne RP (by simp))
 have fNOT:((str RP).toList == [78,79,84])=false:=by rw [str_is]; decide
 have fLP:((str RP).toList == [40])=false:=by rw [str_is]; decide
 have fRP:((str RP).toList == [41])=true:=by rw [str_is]; decide
 have fAND:((str RP).toList == [65,78,68])=false:=by rw [str_is]; decide
 have fOR:((str RP).toList == [79,82])=false:=by rw [str_is]; decide
 have hlow:=hR.low
 clear hR
 generalize hW:W0 w=v0 at *
 have HW:=zh hW
 unfold W0 at hW
 subst hW
 clear hz0 hlow HB0
 go_enter Tryz.func152,Tryz.ntmps152
 go_wp2_with (first
  | (go_at_call 127; refine c0.mono ?_; rintro e w1 ⟨rfl,hRd,hg1⟩; have Hg1:=zh hg1; clear hRd hg1)
  | (go_at_call 98; refine (must_no g _).mono ?_; rintro e w' ⟨rfl,rfl⟩))
 exact ⟨rfl,none,.pbad (.inl rfl),rfl,grownBy_trans (grow_of_below hb0.out _) Hg1.out⟩
set_option maxHeartbeats 1600000 in
theorem part_AND (t:List P):PartOk (AND :: t):=by
 intro B w g hR
 have hgl:=hR.lt
 have c0:=next_cons B (W0 w) g AND t (hR.below (W0_below w))
 have hb0:=zh (W0_below w)
 have HB0:=zh (W0_blk w)
 have hz0:=W0_size w
 have he:=str_ne AND (hR.ne AND (by simp))
 have fNOT:((str AND).toList == [78,79,84])=false:=by rw [str_is]; decide
 have fLP:((str AND).toList == [40])=false:=by rw [str_is]; decide
 have fRP:((str AND).toList == [41])=false:=by rw [str_is]; decide
 have fAND:((str AND).toList == [65,78,68])=true:=by rw [str_is]; decide
 have fOR:((str AND).toList == [79,82])=false:=by rw [str_is]; decide
 have hlow:=hR.low
 clear hR
 generalize hW:W0 w=v0 at *
 have HW:=zh hW
 unfold W0 at hW
 subst hW
 clear hz0 hlow HB0
 go_enter Tryz.func152,Tryz.ntmps152
 go_wp2_with (first
  | (go_at_call 127; refine c0.mono ?_; rintro e w1 ⟨rfl,hRd,hg1⟩; have Hg1:=zh hg1; clear hRd hg1)
  | (go_at_call 98; refine (must_no g _).mono ?_; rintro e w' ⟨rfl,rfl⟩))
 exact ⟨rfl,none,.pbad (.inr (.inl rfl)),rfl,grownBy_trans (grow_of_below hb0.out _) Hg1.out⟩
set_option maxHeartbeats 1600000 in
theorem part_OR (t:List P):PartOk (OR :: t):=by
 intro B w g hR
 have hgl:=hR.lt
 have c0:=next_cons B (W0 w) g OR t (hR.below (W0_below w))
 have hb0:=zh (W0_below w)
 have HB0:=zh (W0_blk w)
 have hz0:=W0_size w
 have he:=str_ne OR (hR.ne OR (by simp))
 have fNOT:((str OR).toList == [78,79,84])=false:=by rw [str_is]; decide
 have fLP:((str OR).toList == [40])=false:=by rw [str_is]; decide
 have fRP:((str OR).toList == [41])=false:=by rw [str_is]; decide
 have fAND:((str OR).toList == [65,78,68])=false:=by rw [str_is]; decide
 have fOR:((str OR).toList == [79,82])=true:=by rw [str_is]; decide
 have hlow:=hR.low
 clear hR
 generalize hW:W0 w=v0 at *
 have HW:=zh hW
 unfold W0 at hW
 subst hW
 clear hz0 hlow HB0
 go_enter Tryz.func152,Tryz.ntmps152
 go_wp2_with (first
  | (go_at_call 127; refine c0.mono ?_; rintro e w1 ⟨rfl,hRd,hg1⟩; have Hg1:=zh hg1; clear hRd hg1)
  | (go_at_call 98; refine (must_no g _).mono ?_; rintro e w' ⟨rfl,rfl⟩))
 exact ⟨rfl,none,.pbad (.inr (.inr rfl)),rfl,grownBy_trans (grow_of_below hb0.out _) Hg1.out⟩
set_option maxHeartbeats 3200000 in
theorem part_not (t:List P) (ih:PartOk t):PartOk (NOT :: t):=by
 intro B w g hR
 have hgl:=hR.lt
 have c0:=next_cons B (W0 w) g NOT t (hR.below (W0_below w))
 have hb0:=zh (W0_below w)
 have HB0:=zh (W0_blk w)
 have hz0:=W0_size w
 have he:=str_ne NOT (hR.ne NOT (by simp))
 have fNOT:((str NOT).toList == [78,79,84])=true:=by rw [str_is]; decide
 have fLP:((str NOT).toList == [40])=false:=by rw [str_is]; decide
 have fRP:((str NOT).toList == [41])=false:=by rw [str_is]; decide
 have fAND:((str NOT).toList == [65,78,68])=false:=by rw [str_is]; decide
 have fOR:((str NOT).toList == [79,82])=false:=by rw [str_is]; decide
 have hlow:=hR.low
 clear hR
 generalize hW:W0 w=v0 at *
 have HW:=zh hW
 unfold W0 at hW
 subst hW
 go_enter Tryz.func152,Tryz.ntmps152
 go_wp2_with fail
 refine c0.mono ?_
 rintro e w1 ⟨rfl,hRd,hg1⟩
 have hlt:w.heap.size<w1.heap.size:=by have:=hg1.size; rw [hz0] at this; omega
 have HB1:=zh (HB0.out.keep4 hg1 (by omega))
 have Hbw1:=zh (grownBy_trans (grow_of_below hb0.out _) hg1)
 have c1:=ih B w1 g hRd
 clear hg1 hRd HB0 hb0 c0
 go_wp2_with fail
 refine c1.mono ?_
 rintro e w2 ⟨o,hRo,hpost⟩
 have HRo:=zh hRo
 clear c1 hRo
 match o,hpost,HRo with
 | none,hpost,HRo =>
  obtain ⟨rfl,hg2⟩:=hpost
  have Hg2:=zh hg2
  clear hg2
  unfold badE
  exact ⟨rfl,none,.pnot rfl HRo.out,rfl,grownBy_trans Hbw1.out Hg2.out⟩
 | some (q,r),hpost,HRo =>
  obtain ⟨a0,a1,a2,a3,rfl,hF,hR2,hg2⟩:=hpost
  have HB2:=HB1.out.keep4 hg2 (by omega)
  have hlt2:w.heap.size<w2.heap.size:=Nat.lt_of_lt_of_le hlt hg2.size
  have hne2:w.heap.size≠w2.heap.size:=by omega
  obtain ⟨q0,q1,q2,q3,f0,f1,f2,f3⟩:=HB2.four
  obtain ⟨A',n',c',C',m',d',e4⟩:=hF.four
  simp only [List.cons.injEq,and_true] at e4
  obtain ⟨rfl,rfl,rfl,rfl⟩:=e4
  have hX:=HB2.set4 (.int .i64 7) (.string ⟨#[]⟩) (.slice none 0 0) (.slice (some ⟨w2.heap.size,0,none⟩) 1 1)
  have hg4:=grownBy_set4 w2 w.heap.size (.int .i64 7) (.string ⟨#[]⟩) (.slice none 0 0) (.slice (some ⟨w2.heap.size,0,none⟩) 1 1)
  have hz4:=set4_size w2 w.heap.size (.int .i64 7) (.string ⟨#[]⟩) (.slice none 0 0) (.slice (some ⟨w2.heap.size,0,none⟩) 1 1)
  have hF4:QF (set4 w2 w.heap.size (.int .i64 7) (.string ⟨#[]⟩) (.slice none 0 0) (.slice (some ⟨w2.heap.size,0,none⟩) 1 1)) (fun b=>w.heap.size≤b∧b<w2.heap.size) q [.int .i64 q.kind,.string q.name,.slice A' n' c',.slice C' m' d'] :=
   (hF.keep fun b _ hS=>World.cell?_of_block (w:=w2) (set4_other w2 w.heap.size b _ _ _ _ (by have:=hS.1; omega))).mono fun b hS=>⟨by have:=hS.1; omega,hS.2⟩
  have hR4:=hR2.other hg4 (fun b e=>by injection e with e; omega)
  have hgA:=grownBy_new (grownBy_trans Hbw1.out hg2) hg4 (fun b e=>by injection e with e; omega)
  generalize hw4:set4 w2 w.heap.size (.int .i64 7) (.string ⟨#[]⟩) (.slice none 0 0) (.slice (some ⟨w2.heap.size,0,none⟩) 1 1)=w4 at hX hg4 hz4 hF4 hR4 hgA
  have hBn:=Blk.new w4 60 #[.int .i64 q.kind,.string q.name,.slice A' n' c',.slice C' m' d']
  have hbn:=(Below.refl w4.heap.size w4).alloc (zG _) (.cells #[.int .i64 q.kind,.string q.name,.slice A' n' c',.slice C' m' d'] 60)
  have hzn:(w4.alloc (.cells #[.int .i64 q.kind,.string q.name,.slice A' n' c',.slice C' m' d'] 60)).heap.size=w2.heap.size+1:=by rw [World.size_alloc,hz4]
  rw [hz4] at hBn
  have HF:Hid (QF (w4.alloc (.cells #[.int .i64 q.kind,.string q.name,.slice A' n' c',.slice C' m' d'] 60)) (fun b=>w.heap.size≤b∧b<(w4.alloc (.cells #[.int .i64 q.kind,.string q.name,.slice A' n' c',.slice C' m' d'] 60)).heap.size) (notQ q) [.int .i64 7,.string ⟨#[]⟩,.slice none 0 0,.slice (some ⟨w2.heap.size,0,none⟩) 1 1]):=zh (by
   refine QF.mk (nm:=⟨#[]⟩) [[.int .i64 q.kind,.string q.name,.slice A' n' c',.slice C' m' d']] rfl (by simpa using ReadsS.none_) rfl rfl (by simp) ⟨rfl,fun _=>⟨w2.heap.size,0,rfl,⟨by omega,by omega⟩,fun j u hu=>?_⟩⟩ (fun i hi hi'=>?_)
   ·rw [Nat.zero_add,hBn.cell]
    simpa using hu
   ·have:i=0:=by simp at hi; exact hi
    subst this
    exact (hF4.keep fun b o hS=>hbn.cell (p:=⟨b,o,none⟩) (by rw [hz4]; exact hS.2)).mono fun b hS=>⟨hS.1,by have:=hS.2; omega⟩)
  have HX:=zh (hX.alloc (.cells #[.int .i64 q.kind,.string q.name,.slice A' n' c',.slice C' m' d'] 60))
  have HRX:=zh (hR4.below hbn)
  have HGX:=zh (grownBy_trans hgA (grow_of_below hbn _))
  clear hX hg4 hF4 hR4 hgA hBn hbn hzn hF hR2 hg2 HB2 Hbw1 HB1 ih
  subst hw4
  clear hz4
  go_wp2_with fail
  refine bodyPost_ret (results_cell rfl rfl (run_loadVar_row _ w.heap.size 60 60 #[.int .i64 7,.string ⟨#[]⟩,.slice none 0 0,.slice (some ⟨w2.heap.size,0,none⟩) 1 1] (0,0) _ HX.out Tryz.underlying60 rfl (by kernel_rfl))) rfl ?_
  exact ⟨_,R.pnot rfl HRo.out,_,_,_,_,rfl,HF.out,HRX.out,HGX.out⟩
end Go.Proofs.YtmomjpolkkbhnaaGreat.Qp
end

section
namespace Go.Proofs.YtmomjpolkkbhnaaGreat.Qp
open Go.RowKit Ut Tk Qy
theorem grownBy_drew {w w1:World} {row:Option Nat} (h:w.grownBy w1 row):w.grownBy w1.drew row:=⟨h.os,h.tape,h.output,h.size,h.block⟩
set_option maxHeartbeats 6400000 in
theorem part_lp (t:List P) (ih:OrOk t):PartOk (LP :: t):=by
 intro B w g hR
 have hgl:=hR.lt
 have c0:=next_cons B (W0 w) g LP t (hR.below (W0_below w))
 have hb0:=zh (W0_below w)
 have HB0:=zh (W0_blk w)
 have hz0:=W0_size w
 have he:=str_ne LP (hR.ne LP (by simp))
 have fNOT:((str LP).toList == [78,79,84])=false:=by rw [str_is]; decide
 have fLP:((str LP).toList == [40])=true:=by rw [str_is]; decide
 have fRP:((str LP).toList == [41])=false:=by rw [str_is]; decide
 have fAND:((str LP).toList == [65,78,68])=false:=by rw [str_is]; decide
 have fOR:((str LP).toList == [79,82])=false:=by rw [str_is]; decide
 have hlow:=hR.low
 clear hR
 generalize hW:W0 w=v0 at *
 have HW:=zh hW
 unfold W0 at hW
 subst hW
 go_enter Tryz.func152,Tryz.ntmps152
 go_wp2_with fail
 refine c0.mono ?_
 rintro e w1 ⟨rfl,hRd,hg1⟩
 have hlt:w.heap.size<w1.heap.size:=by have:=hg1.size; rw [hz0] at this; omega
 have HB1:=zh (HB0.out.keep4 hg1 (by omega))
 have Hbw1:=zh (grownBy_trans (grow_of_below hb0.out _) hg1)
 have c1:=ih B w1 g hRd
 clear hg1 hRd HB0 hb0 c0
 go_wp2_with fail
 refine c1.mono ?_
 rintro e w2 ⟨o,hRo,hpost⟩
 have HRo:=zh hRo
 clear c1 hRo
 match o,hpost,HRo with
 | none,hpost,HRo =>
  obtain ⟨rfl,hg2⟩:=hpost
  have Hg2:=zh hg2
  clear hg2
  unfold badE
  exact ⟨rfl,none,.plp rfl HRo.out,rfl,grownBy_trans Hbw1.out Hg2.out⟩
 | some (q,r),hpost,HRo =>
  obtain ⟨a0,a1,a2,a3,rfl,hF,hR2,hg2⟩:=hpost
  have HB2:=HB1.out.keep4 hg2 (by omega)
  have hlt2:w.heap.size<w2.heap.size:=Nat.lt_of_lt_of_le hlt hg2.size
  have hne2:w.heap.size≠w2.heap.size:=by omega
  have hgA:=grownBy_trans Hbw1.out hg2
  obtain ⟨A',n',c',C',m',d',e4⟩:=hF.four
  simp only [List.cons.injEq,and_true] at e4
  obtain ⟨rfl,rfl,rfl,rfl⟩:=e4
  have hb3:=(Below.refl w2.heap.size w2).alloc (zG _) (.cells #[.int .i64 q.kind,.string q.name,.slice A' n' c',.slice C' m' d'] 60)
  have hz3:(w2.alloc (.cells #[.int .i64 q.kind,.string q.name,.slice A' n' c',.slice C' m' d'] 60)).heap.size=w2.heap.size+1:=by simp
  have hBx:=Blk.new w2 60 #[.int .i64 q.kind,.string q.name,.slice A' n' c',.slice C' m' d']
  have hR3:=hR2.below hb3
  have hF3:=hF.grow hb3
  have hB3:=HB2.alloc (.cells #[.int .i64 q.kind,.string q.name,.slice A' n' c',.slice C' m' d'] 60)
  have hgB:=grownBy_trans hgA (grow_of_below hb3 _)
  have HF3:=zh hF3
  have HB3:=zh hB3
  have HBx:=zh hBx
  have HgB:=zh hgB
  have HR3:=zh hR3
  clear hF hR2 hg2 HB2 Hbw1 HB1 ih hgA hb3 hBx hR3 hF3 hB3 hgB
  go_wp2_with fail
  generalize hw3:w2.alloc (.cells #[.int .i64 q.kind,.string q.name,.slice A' n' c',.slice C' m' d'] 60)=w3 at *
  clear hw3
  match r,HRo,HR3 with
  | [],HRo,HR3 =>
   have c3:=next_nil B w3.drew g (HR3.out.below ((Below.refl _ _).drew))
   go_region_dies
   rename_i K hK
   refine c3.mono ?_
   rintro e w' ⟨rfl,rfl⟩
   refine hK _ _ ?_
   clear hK K
   refine wpAny_take (i:=7) (v:=.bool false) rfl (by kernel_rfl) (by kernel_rfl) (by kernel_rfl) (fun _ _ _ h=>h) (Or.inl ⟨by rfl,?_⟩) ?_
   ·intro w
    go_simp
   refine wpAny_ready (rs:=[8]) (by kernel_rfl) (by simp) ?_
   refine AllReady.cons rfl (fun K hK=>?_) AllReady.nil
   go_simp
   refine (must_no g _).mono ?_
   rintro e w' ⟨rfl,rfl⟩
   exact ⟨rfl,none,R.plp rfl HRo.out,rfl,grownBy_drew HgB.out⟩
  | s' :: r',HRo,HR3 =>
   have c3:=next_cons B w3.drew g s' r' (HR3.out.below ((Below.refl _ _).drew))
   have hgl3:=HR3.out.lt
   have hne4:w.heap.size≠g:=by omega
   by_cases hs':s'=RP
   ·have f41:((str s').toList == [41])=true:=by rw [str_is]; exact decide_eq_true hs'
    have HH:Hid (R .part (LP :: t) (some (q,r'))):=zh (by
     have:=R.plp (s:=LP) rfl HRo.out
     rw [show closed (some (q,s' :: r'))=some (q,r') from if_pos hs'] at this
     exact this)
    have hs'':=zh hs'
    clear hs' HRo
    go_region_with (first
     | (go_at_call 127; refine c3.mono ?_; rintro e w4 ⟨rfl,hR4,hg4⟩; have HR4:=zh hR4; have Hg4:=zh hg4; clear hR4 hg4)
     | (go_at_call 98; refine (must_yes g _).mono ?_; rintro e w' ⟨rfl,rfl⟩))
    have hne5:w2.heap.size≠g:=by omega
    have hz4:w3.heap.size≤w4.heap.size:=Hg4.out.size
    have hbx4:=(HBx.out.drew).keep4 Hg4.out hne5
    have hB4:=(HB3.out.drew).keep4 Hg4.out hne4
    have hF4:QF w4 (fun b=>w1.heap.size≤b∧b<w4.heap.size) q [.int .i64 q.kind,.string q.name,.slice A' n' c',.slice C' m' d'] :=
     (HF3.out.keep (w':=w4) fun b o hS=>World.cell?_of_block (w:=w3) (Hg4.out.block b hS.2 (fun e=>by injection e with e; have:=hS.1; omega))).mono fun b hS=>⟨hS.1,by have:=hS.2; omega⟩
    obtain ⟨q0,q1,q2,q3,f0,f1,f2,f3⟩:=hB4.four
    obtain ⟨x0,x1,x2,x3,_,_,_,_⟩:=hbx4.four
    have hX:=hB4.set4 (.int .i64 q.kind) (.string q.name) (.slice A' n' c') (.slice C' m' d')
    have hg5:=grownBy_set4 w4 w.heap.size (.int .i64 q.kind) (.string q.name) (.slice A' n' c') (.slice C' m' d')
    have HF:=zh (q_ret (w:=w) hF4 hlt (zG _))
    have HRX:=zh (HR4.out.other hg5 (fun b e=>by injection e with e; omega))
    have HGX:=zh (grownBy_new (grownBy_trans (grownBy_drew HgB.out) Hg4.out) hg5 (fun b e=>by injection e with e; omega))
    have HX:=zh hX
    clear hX hg5 hF4 hbx4 hB4 HBx HB3 HF3 HgB Hg4 HR4 HR3 c3
    go_wp2_with fail
    refine bodyPost_ret (results_cell rfl rfl (run_loadVar_row _ w.heap.size 60 60 #[.int .i64 q.kind,.string q.name,.slice A' n' c',.slice C' m' d'] (0,0) _ HX.out Tryz.underlying60 rfl (by kernel_rfl))) rfl ?_
    exact ⟨_,HH.out,_,_,_,_,rfl,HF.out,HRX.out,HGX.out⟩
   ·have f41:((str s').toList == [41])=false:=by rw [str_is]; exact decide_eq_false hs'
    have HH:Hid (R .part (LP :: t) none):=zh (by
     have:=R.plp (s:=LP) rfl HRo.out
     rw [show closed (some (q,s' :: r'))=none from if_neg hs'] at this
     exact this)
    clear hs' HRo
    go_region_dies
    rename_i K hK
    refine c3.mono ?_
    rintro e w4 ⟨rfl,hR4,hg4⟩
    have Hg4:=zh hg4
    clear hR4 hg4
    refine hK _ _ ?_
    clear hK K
    refine wpAny_take (i:=7) (v:=.bool false) rfl (by kernel_rfl) (by kernel_rfl) (by kernel_rfl) (fun _ _ _ h=>h) (Or.inl ⟨by rfl,?_⟩) ?_
    ·intro w
     go_simp
    refine wpAny_ready (rs:=[8]) (by kernel_rfl) (by simp) ?_
    refine AllReady.cons rfl (fun K hK=>?_) AllReady.nil
    go_simp
    refine (must_no g _).mono ?_
    rintro e w' ⟨rfl,rfl⟩
    exact ⟨rfl,none,HH.out,rfl,grownBy_trans (grownBy_drew HgB.out) Hg4.out⟩
end Go.Proofs.YtmomjpolkkbhnaaGreat.Qp
end

section
namespace Go.Proofs.YtmomjpolkkbhnaaGreat.Qp
open Go.RowKit Ut Tk Qy
theorem q_info:(Tryz.prog.info? 60).map (fun i=>(i.zero,i.size,i.bytes))=some (some (.agg #[.int .i64 0,.string ByteArray.empty,.slice none 0 0,.slice none 0 0]),4,72):=by kernel_rfl
def lenOf:Value→Nat | .slice _ n _=>n | _=>0
theorem Qs.one {base:Nat} {w:World} {q:Q} {a0 a1 a2 a3:Value} (h:QF w (fun b=>base≤b∧b<w.heap.size) q [a0,a1,a2,a3]) (hb:base≤w.heap.size) :
  Qs base (w.alloc (.cells #[a0,a1,a2,a3] 60)) (.slice (some ⟨w.heap.size,0,none⟩) 1 1) [q] [[a0,a1,a2,a3]]:=by
 have hB:=Blk.new w 60 #[a0,a1,a2,a3]
 have hbl:=(Below.refl w.heap.size w).alloc (zG _) (.cells #[a0,a1,a2,a3] 60)
 refine ⟨rfl,⟨rfl,.inr ⟨w.heap.size,1,#[a0,a1,a2,a3],rfl,hb,hB,zG _,by unfold maxLen; omega,rfl,rfl⟩⟩,fun i hi hi'=>?_⟩
 have:i=0:=by simp at hi; exact hi
 subst this
 refine (h.keep fun b o hS=>hbl.cell (p:=⟨b,o,none⟩) hS.2).mono fun b hS=>⟨hS.1,by rw [World.size_alloc]; have:=hS.2; omega,fun e=>?_⟩
 have:=hS.2
 simp [Value.ownBlock] at e
 omega
theorem Qs.len {base:Nat} {w:World} {v:Value} {l:List Q} {vss:List (List Value)} (h:Qs base w v l vss):lenOf v=l.length:=by
 obtain ⟨A,c,rfl,_⟩:=own_shape h.own
 rfl
theorem Qs.block {base:Nat} {w:World} {v:Value} {l:List Q} {vss:List (List Value)} (h:Qs base w v l vss):∀ b,v.ownBlock=some b→base≤b∧b<w.heap.size:=fun b hb=>h.own.lt b hb
structure Lp (B:Nat) (w:World) (g:Nat) (l:List P) (F:List Q→Md) (m0:Md) (wr:World) (v:Value) (acc:List Q) (vss:List (List Value)) (r:List P):Prop where
 qs:Qs (w.heap.size+1) wr v acc vss
 rd:Rd B wr g r
 gr:w.grownBy wr (some g)
 bk:Blk wr w.heap.size 60 #[.int .i64 0,.string ByteArray.empty,.slice none 0 0,.slice none 0 0]
 sz:w.heap.size+1≤wr.heap.size
 su:∃ k,r=l.drop k∧1≤k
 ne:acc≠[]
 ln:acc.length+r.length≤l.length
 tk:∀ o,R (F acc) r o→R m0 l o
theorem Lp.moved {B:Nat} {w:World} {g:Nat} {l:List P} {F:List Q→Md} {m0:Md} {wr:World} {v:Value} {acc:List Q} {vss:List (List Value)} {r:List P} (L:Lp B w g l F m0 wr v acc vss r) {w1:World} (hg:wr.grownBy w1 (some g)) (hgl:g<w.heap.size) :
  Qs (w.heap.size+1) w1 v acc vss∧w.grownBy w1 (some g)∧Blk w1 w.heap.size 60 #[.int .i64 0,.string ByteArray.empty,.slice none 0 0,.slice none 0 0]∧w.heap.size+1≤w1.heap.size :=
 ⟨L.qs.grown hg (fun b e=>by injection e with e; omega),grownBy_trans L.gr hg,L.bk.keep4 hg (by omega),Nat.le_trans L.sz hg.size⟩
set_option maxHeartbeats 6400000 in
theorem and_ok (l:List P) (ih:∀ k,PartOk (l.drop k)):AndOk l:=by
 intro B w g hR
 have hgl:=hR.lt
 have hlow:=hR.low
 have hmany:=hR.many
 have hb0:=zh (W0_below w)
 have HB0:=zh (W0_blk w)
 have hz0:=W0_size w
 have c0:=(by have h:=ih 0; rw [List.drop_zero] at h; exact h:PartOk l) B (W0 w) g (hR.below (W0_below w))
 obtain ⟨i0,hi0,hz1,hz2,hz3⟩:=info_parts q_info
 clear hR
 unfold W0 at hb0 HB0 hz0 c0
 go_enter Tryz.func125,Tryz.ntmps125
 go_wp2_with fail
 refine c0.mono ?_
 rintro e w2 ⟨o,hRo,hpost⟩
 have HRo:=zh hRo
 clear c0 hRo
 match o,hpost,HRo with
 | none,hpost,HRo =>
  obtain ⟨rfl,hg2⟩:=hpost
  have Hg2:=zh hg2
  clear hg2
  unfold badE
  exact ⟨rfl,none,.and0 HRo.out,rfl,grownBy_trans (grow_of_below hb0.out _) Hg2.out⟩
 | some (q,r),hpost,HRo =>
  obtain ⟨a0,a1,a2,a3,rfl,hF,hR2,hg2⟩:=hpost
  rw [hz0] at hF
  obtain ⟨k,hk1,hk2,hk3⟩:=HRo.out.less q r rfl
  have hk4 : 1≤k:=hk3 (.inl rfl)
  have hlt2:w.heap.size+1≤w2.heap.size:=by have:=hg2.size; rw [hz0] at this; exact this
  have L0:Lp B w g l Md.andT (.and []) (w2.alloc (.cells #[a0,a1,a2,a3] 60)) (.slice (some ⟨w2.heap.size,0,none⟩) 1 1) [q] [[a0,a1,a2,a3]] r :=
   ⟨Qs.one hF hlt2,hR2.below ((Below.refl _ _).alloc (zG _) _),grownBy_trans (grownBy_trans (grow_of_below hb0.out _) hg2) (World.grownBy_alloc _ _ _),(HB0.out.keep4 hg2 (by omega)).alloc _,by rw [World.size_alloc]; omega,
    ⟨k,hk1,hk4⟩,by simp,by rw [hk1,List.length_singleton,List.length_drop]; omega,fun o h=>.and1 HRo.out h⟩
  have HL0:=zh L0
  obtain ⟨A',n',c',C',m',d',e4⟩:=hF.four
  simp only [List.cons.injEq,and_true] at e4
  obtain ⟨rfl,rfl,rfl,rfl⟩:=e4
  clear L0 hF hR2 hg2 HB0 hb0 hk1 hk2 hk3 hk4 HRo hlt2 hz0
  go_wp2_with fail
  go_loopw [3] (fun v wr=>∃ acc vss r,Lp B w g l Md.andT (.and []) wr v acc vss r) (fun v _=>l.length+1 - lenOf v)
  case atStart=>exact ⟨_,_,_,HL0.out⟩
  case round =>
   obtain ⟨acc,vss,r,L⟩:=hrel
   have hln:=L.ln
   have hlen:=L.qs.len
   match r,L,hln with
   | [],L,hln =>
    have HHR:=zh (L.tk _ (.andE rfl))
    have cp:=peek_nil B wr g L.rd
    have Hlen:=zh hlen
    clear hlen
    have c3:=one_any (w.heap.size+1) 5 u3 acc vss wr L.qs L.ne
    go_wp2_with (go_at_call 126; refine cp.mono ?_; rintro e w' ⟨rfl,rfl⟩)
    refine c3.mono ?_
    rintro e w4 ⟨b0,b1,b2,b3,rfl,hF4,hb4⟩
    have hbk:=L.bk.below hb4 (by have:=L.sz; omega)
    obtain ⟨q0,q1,q2,q3,f0,f1,f2,f3⟩:=hbk.four
    obtain ⟨A',n',c',C',m',d',e4⟩:=hF4.four
    simp only [List.cons.injEq,and_true] at e4
    obtain ⟨rfl,rfl,rfl,rfl⟩:=e4
    have hX:=hbk.set4 (.int .i64 (oneQ 5 acc).kind) (.string (oneQ 5 acc).name) (.slice A' n' c') (.slice C' m' d')
    have hg5:=grownBy_set4 w4 w.heap.size (.int .i64 (oneQ 5 acc).kind) (.string (oneQ 5 acc).name) (.slice A' n' c') (.slice C' m' d')
    have HF:=zh (q_ret (w:=w) hF4 (by omega) (zG _))
    have HRX:=zh ((L.rd.below hb4).other hg5 (fun b e=>by injection e with e; omega))
    have HGX:=zh (grownBy_new (grownBy_trans L.gr (grow_of_below hb4 _)) hg5 (fun b e=>by injection e with e; omega))
    have HX:=zh hX
    clear hX hg5 hF4 hbk hb4 c3 L
    go_wp2_with fail
    refine bodyPost_ret (results_cell rfl rfl (run_loadVar_row _ w.heap.size 60 60 #[.int .i64 (oneQ 5 acc).kind,.string (oneQ 5 acc).name,.slice A' n' c',.slice C' m' d'] (0,0) _ HX.out Tryz.underlying60 rfl (by kernel_rfl))) rfl ?_
    exact ⟨_,HHR.out,_,_,_,_,rfl,HF.out,HRX.out,HGX.out⟩
   | s :: t,L,hln =>
    have f41:((str s).toList == [41])=decide (s=RP):=by rw [str_is]; rfl
    have f79:((str s).toList == [79,82])=decide (s=OR):=by rw [str_is]; rfl
    have f65:((str s).toList == [65,78,68])=decide (s=AND):=by rw [str_is]; rfl
    have fe:=str_ne s (L.rd.ne s (by simp))
    have cp:=peek_cons B wr g s t L.rd
    by_cases hs:stops (s :: t)=true
    ·have hs2:s=RP∨(s≠RP∧s=OR):=by
      unfold stops at hs
      simp only [Bool.or_eq_true,beq_iff_eq] at hs
      by_cases h:s=RP
      ·exact .inl h
      ·exact .inr ⟨h,hs.resolve_left h⟩
     have HHR:=zh (L.tk _ (.andE hs))
     have Hlen:=zh hlen
     clear hlen hs f65
     rcases hs2 with h | ⟨h,h2⟩
     ·rw [decide_eq_true h] at f41
      clear h f79
      have c3:=one_any (w.heap.size+1) 5 u3 acc vss wr L.qs L.ne
      go_wp2_with (go_at_call 126; refine cp.mono ?_; rintro e w' ⟨rfl,rfl⟩)
      refine c3.mono ?_
      rintro e w4 ⟨b0,b1,b2,b3,rfl,hF4,hb4⟩
      have hbk:=L.bk.below hb4 (by have:=L.sz; omega)
      obtain ⟨q0,q1,q2,q3,f0,f1,f2,f3⟩:=hbk.four
      obtain ⟨A',n',c',C',m',d',e4⟩:=hF4.four
      simp only [List.cons.injEq,and_true] at e4
      obtain ⟨rfl,rfl,rfl,rfl⟩:=e4
      have hX:=hbk.set4 (.int .i64 (oneQ 5 acc).kind) (.string (oneQ 5 acc).name) (.slice A' n' c') (.slice C' m' d')
      have hg5:=grownBy_set4 w4 w.heap.size (.int .i64 (oneQ 5 acc).kind) (.string (oneQ 5 acc).name) (.slice A' n' c') (.slice C' m' d')
      have HF:=zh (q_ret (w:=w) hF4 (by omega) (zG _))
      have HRX:=zh ((L.rd.below hb4).other hg5 (fun b e=>by injection e with e; omega))
      have HGX:=zh (grownBy_new (grownBy_trans L.gr (grow_of_below hb4 _)) hg5 (fun b e=>by injection e with e; omega))
      have HX:=zh hX
      clear hX hg5 hF4 hbk hb4 c3 L
      go_wp2_with fail
      refine bodyPost_ret (results_cell rfl rfl (run_loadVar_row _ w.heap.size 60 60 #[.int .i64 (oneQ 5 acc).kind,.string (oneQ 5 acc).name,.slice A' n' c',.slice C' m' d'] (0,0) _ HX.out Tryz.underlying60 rfl (by kernel_rfl))) rfl ?_
      exact ⟨_,HHR.out,_,_,_,_,rfl,HF.out,HRX.out,HGX.out⟩
     ·rw [decide_eq_false h] at f41
      rw [decide_eq_true h2] at f79
      clear h h2
      have c3:=one_any (w.heap.size+1) 5 u3 acc vss wr L.qs L.ne
      go_wp2_with (go_at_call 126; refine cp.mono ?_; rintro e w' ⟨rfl,rfl⟩)
      refine c3.mono ?_
      rintro e w4 ⟨b0,b1,b2,b3,rfl,hF4,hb4⟩
      have hbk:=L.bk.below hb4 (by have:=L.sz; omega)
      obtain ⟨q0,q1,q2,q3,f0,f1,f2,f3⟩:=hbk.four
      obtain ⟨A',n',c',C',m',d',e4⟩:=hF4.four
      simp only [List.cons.injEq,and_true] at e4
      obtain ⟨rfl,rfl,rfl,rfl⟩:=e4
      have hX:=hbk.set4 (.int .i64 (oneQ 5 acc).kind) (.string (oneQ 5 acc).name) (.slice A' n' c') (.slice C' m' d')
      have hg5:=grownBy_set4 w4 w.heap.size (.int .i64 (oneQ 5 acc).kind) (.string (oneQ 5 acc).name) (.slice A' n' c') (.slice C' m' d')
      have HF:=zh (q_ret (w:=w) hF4 (by omega) (zG _))
      have HRX:=zh ((L.rd.below hb4).other hg5 (fun b e=>by injection e with e; omega))
      have HGX:=zh (grownBy_new (grownBy_trans L.gr (grow_of_below hb4 _)) hg5 (fun b e=>by injection e with e; omega))
      have HX:=zh hX
      clear hX hg5 hF4 hbk hb4 c3 L
      go_wp2_with fail
      refine bodyPost_ret (results_cell rfl rfl (run_loadVar_row _ w.heap.size 60 60 #[.int .i64 (oneQ 5 acc).kind,.string (oneQ 5 acc).name,.slice A' n' c',.slice C' m' d'] (0,0) _ HX.out Tryz.underlying60 rfl (by kernel_rfl))) rfl ?_
      exact ⟨_,HHR.out,_,_,_,_,rfl,HF.out,HRX.out,HGX.out⟩
    ·have hs':stops (s :: t)=false:=by simpa using hs
     have h1:s≠RP∧s≠OR:=by
      unfold stops at hs'
      simp only [Bool.or_eq_false_iff,beq_eq_false_iff_ne] at hs'
      exact hs'
     rw [decide_eq_false h1.1] at f41
     rw [decide_eq_false h1.2] at f79
     obtain ⟨k,hk,hkp⟩:=L.su
     have hkt:t=l.drop (k+1):=by rw [← List.drop_drop,← hk]; rfl
     by_cases ha:s=AND
     ·rw [decide_eq_true ha] at f65
      have cx:=next_cons B wr g s t L.rd
      have cq:=fun w1 (h:Rd B w1 g t)=>(by rw [hkt] at h ⊢; exact ih (k+1) B w1 g h:Calls Tryz.prog 152 #[.pointer (some ⟨g,0,none⟩)] w1 (MdPost B w1 g .part t))
      have Cq:=zh cq
      have Ha:=zh ha
      have Hkt:=zh hkt
      clear hs hs' h1 hk hkp hkt ha cq
      go_wp2_with (go_at_call 126; refine cp.mono ?_; rintro e w' ⟨rfl,rfl⟩)
      refine cx.mono ?_
      rintro e w1 ⟨rfl,hR1,hgn⟩
      have c1:=Cq.out w1 hR1
      clear cx Cq hR1 cp
      obtain ⟨Q1,G1,K1,Z1⟩:=L.moved hgn hgl
      have Hlen:=zh hlen
      have HQ1:=zh Q1
      have HG1:=zh G1
      have HK1:=zh K1
      have HL:=zh L
      clear L hlen Q1 G1 K1 hgn
      go_wp2_with fail
      refine c1.mono ?_
      rintro e w3 ⟨o,hRo,hpost⟩
      have HRo:=zh hRo
      clear c1 hRo
      match o,hpost,HRo with
      | none,hpost,HRo =>
       obtain ⟨rfl,hg3⟩:=hpost
       have Hg3:=zh hg3
       clear hg3
       unfold badE
       exact ⟨rfl,none,HL.out.tk _ (.andA Ha.out (.and0 HRo.out)),rfl,grownBy_trans HG1.out Hg3.out⟩
      | some (q,r3),hpost,HRo =>
       obtain ⟨a0,a1,a2,a3,rfl,hF,hR3,hg3⟩:=hpost
       obtain ⟨k3,hk1,hk2,hk3⟩:=HRo.out.less q r3 rfl
       have hk4 : 1≤k3:=hk3 (.inl rfl)
       have hsz3:=hg3.size
       have Q3:=(HQ1.out.grown hg3 (fun b e=>by injection e with e; omega))
       have hblk:=HQ1.out.block
       have hvb:∀ b,u3.ownBlock=some b→b<w1.heap.size:=fun b e=>(hblk b e).2
       have hbl:=(Below.refl w3.heap.size w3).alloc (zG _) (.cells #[a0,a1,a2,a3] 60)
       have Qx:=Q3.grown (grow_of_below hbl none) (fun b e=>by cases e)
       have hqx:QF (w3.alloc (.cells #[a0,a1,a2,a3] 60)) (Kin (w.heap.size+1) (w3.alloc (.cells #[a0,a1,a2,a3] 60)) u3) q [a0,a1,a2,a3] :=
        (hF.keep fun b o hS=>hbl.cell (p:=⟨b,o,none⟩) hS.2).mono fun b hS=>⟨by have:=hS.1; omega,by rw [World.size_alloc]; have:=hS.2; omega,fun e=>by have:=hvb b e; have:=hS.1; omega⟩
       have HRx:=zh (hR3.below hbl)
       have HGx:=zh (grownBy_trans (grownBy_trans HG1.out hg3) (grow_of_below hbl _))
       have HKx:=zh ((HK1.out.keep4 hg3 (by omega)).alloc (.cells #[a0,a1,a2,a3] 60))
       have Hblk:=zh Qx.block
       have HQx:=zh Qx
       have Hqx:=zh hqx
       have hown:=Qx.own
       have hacc:acc.length≤1048576:=by omega
       obtain ⟨A',n',c',C',m',d',e4⟩:=hF.four
       simp only [List.cons.injEq,and_true] at e4
       obtain ⟨rfl,rfl,rfl,rfl⟩:=e4
       have Hk1:=zh hk1
       have hbase:w.heap.size+1≤(w3.alloc (.cells #[.int .i64 q.kind,.string q.name,.slice A' n' c',.slice C' m' d'] 60)).heap.size:=by rw [World.size_alloc]; omega
       clear Q3 hblk hvb hbl Qx hqx hF hR3 hg3 hk1 hk3
       go_wp2_with (at_builtin; refine wpList_append_own_at _ rfl _ _ 58 rfl (w.heap.size+1) 60 i0 _ 4 72 Tryz.underlying58 hi0 hz1 hz2 hz3 rfl (by decide) _ _ _ rfl hown ⟨w3.heap.size,0,none⟩ 1 1 [.int .i64 q.kind,.string q.name,.slice A' n' c',.slice C' m' d'] rfl rfl (World.news_of_block (cs:=#[.int .i64 q.kind,.string q.name,.slice A' n' c',.slice C' m' d']) (t:=60) (fr:=(0,0)) (heap_alloc_new w3 _)) (fun u hu=>by simp at hu; rcases hu with rfl | rfl | rfl | rfl <;> rfl) (by unfold maxLen; omega) (by omega) hbase ?_)
       intro v' w5 hown5 hg5 _ hv5
       have hQ5:=HQx.out.put Hqx.out hown5 hg5 (by rw [World.size_alloc]; exact hv5)
       have L5:Lp B w g l Md.andT (.and []) w5 v' (acc ++ [q]) (vss ++ [[.int .i64 q.kind,.string q.name,.slice A' n' c',.slice C' m' d']]) r3 :=
        ⟨hQ5,HRx.out.other hg5 (fun b e=>by have:=(Hblk.out b e).1; exact ⟨by omega,by omega⟩),grownBy_new HGx.out hg5 (fun b e=>by have:=(Hblk.out b e).1; omega),HKx.out.grown hg5 (fun e=>by have:=(Hblk.out _ e.symm).1; omega),Nat.le_trans hbase hg5.size,
         by obtain ⟨k,h1,h2⟩:=HL.out.su; exact ⟨k+1+k3,by rw [Hk1.out,← List.drop_drop,← List.drop_drop,← h1]; rfl,by omega⟩,by simp,by rw [Hk1.out,List.length_append,List.length_drop,List.length_singleton]; simp only [List.length_cons] at hk2 hln ⊢; omega,fun o h=>HL.out.tk _ (.andA Ha.out (.and1 HRo.out h))⟩
       have HL5:=zh L5
       have Hlen5:Hid (lenOf v'=acc.length+1):=zh (by rw [hQ5.len,List.length_append,List.length_singleton])
       clear hQ5 hown5 hg5 hv5 hown L5 HL HQx Hqx
       go_wp2_with fail
       go_roundw
       case rel=>exact ⟨_,_,_,HL5.out⟩
       case measure=>simp [Hlen5.out,Hlen.out]; omega
     ·rw [decide_eq_false ha] at f65
      have c1:=(by have:=L.rd; rw [hk] at this ⊢; exact ih k B wr g this:Calls Tryz.prog 152 #[.pointer (some ⟨g,0,none⟩)] wr (MdPost B wr g .part (s :: t)))
      have Ha:=zh ha
      have Hs:=zh hs'
      have hgn:=grownBy_refl wr (some g)
      clear hs hs' h1 hk hkp hkt ha
      obtain ⟨Q1,G1,K1,Z1⟩:=L.moved hgn hgl
      have Hlen:=zh hlen
      have HQ1:=zh Q1
      have HG1:=zh G1
      have HK1:=zh K1
      have HL:=zh L
      clear L hlen Q1 G1 K1 hgn
      go_wp2_with (go_at_call 126; refine cp.mono ?_; rintro e w' ⟨rfl,rfl⟩)
      refine c1.mono ?_
      rintro e w3 ⟨o,hRo,hpost⟩
      have HRo:=zh hRo
      clear c1 hRo
      match o,hpost,HRo with
      | none,hpost,HRo =>
       obtain ⟨rfl,hg3⟩:=hpost
       have Hg3:=zh hg3
       clear hg3
       unfold badE
       exact ⟨rfl,none,HL.out.tk _ (.andN Hs.out Ha.out (.and0 HRo.out)),rfl,grownBy_trans HG1.out Hg3.out⟩
      | some (q,r3),hpost,HRo =>
       obtain ⟨a0,a1,a2,a3,rfl,hF,hR3,hg3⟩:=hpost
       obtain ⟨k3,hk1,hk2,hk3⟩:=HRo.out.less q r3 rfl
       have hk4 : 1≤k3:=hk3 (.inl rfl)
       have hsz3:=hg3.size
       have Q3:=(HQ1.out.grown hg3 (fun b e=>by injection e with e; omega))
       have hblk:=HQ1.out.block
       have hvb:∀ b,u3.ownBlock=some b→b<wr.heap.size:=fun b e=>(hblk b e).2
       have hbl:=(Below.refl w3.heap.size w3).alloc (zG _) (.cells #[a0,a1,a2,a3] 60)
       have Qx:=Q3.grown (grow_of_below hbl none) (fun b e=>by cases e)
       have hqx:QF (w3.alloc (.cells #[a0,a1,a2,a3] 60)) (Kin (w.heap.size+1) (w3.alloc (.cells #[a0,a1,a2,a3] 60)) u3) q [a0,a1,a2,a3] :=
        (hF.keep fun b o hS=>hbl.cell (p:=⟨b,o,none⟩) hS.2).mono fun b hS=>⟨by have:=hS.1; omega,by rw [World.size_alloc]; have:=hS.2; omega,fun e=>by have:=hvb b e; have:=hS.1; omega⟩
       have HRx:=zh (hR3.below hbl)
       have HGx:=zh (grownBy_trans (grownBy_trans HG1.out hg3) (grow_of_below hbl _))
       have HKx:=zh ((HK1.out.keep4 hg3 (by omega)).alloc (.cells #[a0,a1,a2,a3] 60))
       have Hblk:=zh Qx.block
       have HQx:=zh Qx
       have Hqx:=zh hqx
       have hown:=Qx.own
       have hacc:acc.length≤1048576:=by omega
       obtain ⟨A',n',c',C',m',d',e4⟩:=hF.four
       simp only [List.cons.injEq,and_true] at e4
       obtain ⟨rfl,rfl,rfl,rfl⟩:=e4
       have Hk1:=zh hk1
       have hbase:w.heap.size+1≤(w3.alloc (.cells #[.int .i64 q.kind,.string q.name,.slice A' n' c',.slice C' m' d'] 60)).heap.size:=by rw [World.size_alloc]; omega
       clear Q3 hblk hvb hbl Qx hqx hF hR3 hg3 hk1 hk3
       go_wp2_with (at_builtin; refine wpList_append_own_at _ rfl _ _ 58 rfl (w.heap.size+1) 60 i0 _ 4 72 Tryz.underlying58 hi0 hz1 hz2 hz3 rfl (by decide) _ _ _ rfl hown ⟨w3.heap.size,0,none⟩ 1 1 [.int .i64 q.kind,.string q.name,.slice A' n' c',.slice C' m' d'] rfl rfl (World.news_of_block (cs:=#[.int .i64 q.kind,.string q.name,.slice A' n' c',.slice C' m' d']) (t:=60) (fr:=(0,0)) (heap_alloc_new w3 _)) (fun u hu=>by simp at hu; rcases hu with rfl | rfl | rfl | rfl <;> rfl) (by unfold maxLen; omega) (by omega) hbase ?_)
       intro v' w5 hown5 hg5 _ hv5
       have hQ5:=HQx.out.put Hqx.out hown5 hg5 (by rw [World.size_alloc]; exact hv5)
       have L5:Lp B w g l Md.andT (.and []) w5 v' (acc ++ [q]) (vss ++ [[.int .i64 q.kind,.string q.name,.slice A' n' c',.slice C' m' d']]) r3 :=
        ⟨hQ5,HRx.out.other hg5 (fun b e=>by have:=(Hblk.out b e).1; exact ⟨by omega,by omega⟩),grownBy_new HGx.out hg5 (fun b e=>by have:=(Hblk.out b e).1; omega),HKx.out.grown hg5 (fun e=>by have:=(Hblk.out _ e.symm).1; omega),Nat.le_trans hbase hg5.size,
         by obtain ⟨k,h1,h2⟩:=HL.out.su; exact ⟨k+k3,by rw [Hk1.out,← List.drop_drop,← h1],by omega⟩,by simp,by rw [Hk1.out,List.length_append,List.length_drop,List.length_singleton]; simp only [List.length_cons] at hk2 hln ⊢; omega,fun o h=>HL.out.tk _ (.andN Hs.out Ha.out (.and1 HRo.out h))⟩
       have HL5:=zh L5
       have Hlen5:Hid (lenOf v'=acc.length+1):=zh (by rw [hQ5.len,List.length_append,List.length_singleton])
       clear hQ5 hown5 hg5 hv5 hown L5 HL HQx Hqx
       go_wp2_with fail
       go_roundw
       case rel=>exact ⟨_,_,_,HL5.out⟩
       case measure=>simp [Hlen5.out,Hlen.out]; omega
set_option maxHeartbeats 6400000 in
theorem or_ok (l:List P) (ih:∀ k,AndOk (l.drop k)):OrOk l:=by
 intro B w g hR
 have hgl:=hR.lt
 have hlow:=hR.low
 have hmany:=hR.many
 have hb0:=zh (W0_below w)
 have HB0:=zh (W0_blk w)
 have hz0:=W0_size w
 have c0:=(by have h:=ih 0; rw [List.drop_zero] at h; exact h:AndOk l) B (W0 w) g (hR.below (W0_below w))
 obtain ⟨i0,hi0,hz1,hz2,hz3⟩:=info_parts q_info
 clear hR
 unfold W0 at hb0 HB0 hz0 c0
 go_enter Tryz.func97,Tryz.ntmps97
 go_wp2_with fail
 refine c0.mono ?_
 rintro e w2 ⟨o,hRo,hpost⟩
 have HRo:=zh hRo
 clear c0 hRo
 match o,hpost,HRo with
 | none,hpost,HRo =>
  obtain ⟨rfl,hg2⟩:=hpost
  have Hg2:=zh hg2
  clear hg2
  unfold badE
  exact ⟨rfl,none,.or0 HRo.out,rfl,grownBy_trans (grow_of_below hb0.out _) Hg2.out⟩
 | some (q,r),hpost,HRo =>
  obtain ⟨a0,a1,a2,a3,rfl,hF,hR2,hg2⟩:=hpost
  rw [hz0] at hF
  obtain ⟨k,hk1,hk2,hk3⟩:=HRo.out.less q r rfl
  have hk4 : 1≤k:=hk3 (.inr (.inl ⟨_,rfl⟩))
  have hlt2:w.heap.size+1≤w2.heap.size:=by have:=hg2.size; rw [hz0] at this; exact this
  have L0:Lp B w g l Md.orT (.or []) (w2.alloc (.cells #[a0,a1,a2,a3] 60)) (.slice (some ⟨w2.heap.size,0,none⟩) 1 1) [q] [[a0,a1,a2,a3]] r :=
   ⟨Qs.one hF hlt2,hR2.below ((Below.refl _ _).alloc (zG _) _),grownBy_trans (grownBy_trans (grow_of_below hb0.out _) hg2) (World.grownBy_alloc _ _ _),(HB0.out.keep4 hg2 (by omega)).alloc _,by rw [World.size_alloc]; omega,
    ⟨k,hk1,hk4⟩,by simp,by rw [hk1,List.length_singleton,List.length_drop]; omega,fun o h=>.or1 HRo.out h⟩
  have HL0:=zh L0
  obtain ⟨A',n',c',C',m',d',e4⟩:=hF.four
  simp only [List.cons.injEq,and_true] at e4
  obtain ⟨rfl,rfl,rfl,rfl⟩:=e4
  clear L0 hF hR2 hg2 HB0 hb0 hk1 hk2 hk3 hk4 HRo hlt2 hz0
  go_wp2_with fail
  go_loopw [3] (fun v wr=>∃ acc vss r,Lp B w g l Md.orT (.or []) wr v acc vss r) (fun v _=>l.length+1 - lenOf v)
  case atStart=>exact ⟨_,_,_,HL0.out⟩
  case round =>
   obtain ⟨acc,vss,r,L⟩:=hrel
   have hln:=L.ln
   have hlen:=L.qs.len
   match r,L,hln with
   | [],L,hln =>
    have HHR:=zh (L.tk _ (.orE (by simp)))
    have cp:=peek_nil B wr g L.rd
    have Hlen:=zh hlen
    clear hlen
    have c3:=one_any (w.heap.size+1) 6 u3 acc vss wr L.qs L.ne
    go_wp2_with (go_at_call 126; refine cp.mono ?_; rintro e w' ⟨rfl,rfl⟩)
    refine c3.mono ?_
    rintro e w4 ⟨b0,b1,b2,b3,rfl,hF4,hb4⟩
    have hbk:=L.bk.below hb4 (by have:=L.sz; omega)
    obtain ⟨q0,q1,q2,q3,f0,f1,f2,f3⟩:=hbk.four
    obtain ⟨A',n',c',C',m',d',e4⟩:=hF4.four
    simp only [List.cons.injEq,and_true] at e4
    obtain ⟨rfl,rfl,rfl,rfl⟩:=e4
    have hX:=hbk.set4 (.int .i64 (oneQ 6 acc).kind) (.string (oneQ 6 acc).name) (.slice A' n' c') (.slice C' m' d')
    have hg5:=grownBy_set4 w4 w.heap.size (.int .i64 (oneQ 6 acc).kind) (.string (oneQ 6 acc).name) (.slice A' n' c') (.slice C' m' d')
    have HF:=zh (q_ret (w:=w) hF4 (by omega) (zG _))
    have HRX:=zh ((L.rd.below hb4).other hg5 (fun b e=>by injection e with e; omega))
    have HGX:=zh (grownBy_new (grownBy_trans L.gr (grow_of_below hb4 _)) hg5 (fun b e=>by injection e with e; omega))
    have HX:=zh hX
    clear hX hg5 hF4 hbk hb4 c3 L
    go_wp2_with fail
    refine bodyPost_ret (results_cell rfl rfl (run_loadVar_row _ w.heap.size 60 60 #[.int .i64 (oneQ 6 acc).kind,.string (oneQ 6 acc).name,.slice A' n' c',.slice C' m' d'] (0,0) _ HX.out Tryz.underlying60 rfl (by kernel_rfl))) rfl ?_
    exact ⟨_,HHR.out,_,_,_,_,rfl,HF.out,HRX.out,HGX.out⟩
   | s :: t,L,hln =>
    have f79:((str s).toList == [79,82])=decide (s=OR):=by rw [str_is]; rfl
    have fe:=str_ne s (L.rd.ne s (by simp))
    have cp:=peek_cons B wr g s t L.rd
    by_cases hs:s=OR
    ·rw [decide_eq_true hs] at f79
     obtain ⟨k,hk,hkp⟩:=L.su
     have hkt:t=l.drop (k+1):=by rw [← List.drop_drop,← hk]; rfl
     have cx:=next_cons B wr g s t L.rd
     have cq:=fun w1 (h:Rd B w1 g t)=>(by rw [hkt] at h ⊢; exact ih (k+1) B w1 g h:Calls Tryz.prog 125 #[.pointer (some ⟨g,0,none⟩)] w1 (MdPost B w1 g (.and []) t))
     have Cq:=zh cq
     have Hs:=zh hs
     have Hkt:=zh hkt
     clear hs hk hkp hkt cq
     go_wp2_with (go_at_call 126; refine cp.mono ?_; rintro e w' ⟨rfl,rfl⟩)
     refine cx.mono ?_
     rintro e w1 ⟨rfl,hR1,hgn⟩
     have c1:=Cq.out w1 hR1
     clear cx Cq hR1 cp
     obtain ⟨Q1,G1,K1,Z1⟩:=L.moved hgn hgl
     have Hlen:=zh hlen
     have HQ1:=zh Q1
     have HG1:=zh G1
     have HK1:=zh K1
     have HL:=zh L
     clear L hlen Q1 G1 K1 hgn
     go_wp2_with fail
     refine c1.mono ?_
     rintro e w3 ⟨o,hRo,hpost⟩
     have HRo:=zh hRo
     clear c1 hRo
     match o,hpost,HRo with
     | none,hpost,HRo =>
      obtain ⟨rfl,hg3⟩:=hpost
      have Hg3:=zh hg3
      clear hg3
      unfold badE
      exact ⟨rfl,none,HL.out.tk _ (.orO Hs.out (.or0 HRo.out)),rfl,grownBy_trans HG1.out Hg3.out⟩
     | some (q,r3),hpost,HRo =>
      obtain ⟨a0,a1,a2,a3,rfl,hF,hR3,hg3⟩:=hpost
      obtain ⟨k3,hk1,hk2,hk3⟩:=HRo.out.less q r3 rfl
      have hk4 : 1≤k3:=hk3 (.inr (.inl ⟨_,rfl⟩))
      have hsz3:=hg3.size
      have Q3:=(HQ1.out.grown hg3 (fun b e=>by injection e with e; omega))
      have hblk:=HQ1.out.block
      have hvb:∀ b,u3.ownBlock=some b→b<w1.heap.size:=fun b e=>(hblk b e).2
      have hbl:=(Below.refl w3.heap.size w3).alloc (zG _) (.cells #[a0,a1,a2,a3] 60)
      have Qx:=Q3.grown (grow_of_below hbl none) (fun b e=>by cases e)
      have hqx:QF (w3.alloc (.cells #[a0,a1,a2,a3] 60)) (Kin (w.heap.size+1) (w3.alloc (.cells #[a0,a1,a2,a3] 60)) u3) q [a0,a1,a2,a3] :=
       (hF.keep fun b o hS=>hbl.cell (p:=⟨b,o,none⟩) hS.2).mono fun b hS=>⟨by have:=hS.1; omega,by rw [World.size_alloc]; have:=hS.2; omega,fun e=>by have:=hvb b e; have:=hS.1; omega⟩
      have HRx:=zh (hR3.below hbl)
      have HGx:=zh (grownBy_trans (grownBy_trans HG1.out hg3) (grow_of_below hbl _))
      have HKx:=zh ((HK1.out.keep4 hg3 (by omega)).alloc (.cells #[a0,a1,a2,a3] 60))
      have Hblk:=zh Qx.block
      have HQx:=zh Qx
      have Hqx:=zh hqx
      have hown:=Qx.own
      have hacc:acc.length≤1048576:=by omega
      obtain ⟨A',n',c',C',m',d',e4⟩:=hF.four
      simp only [List.cons.injEq,and_true] at e4
      obtain ⟨rfl,rfl,rfl,rfl⟩:=e4
      have Hk1:=zh hk1
      have hbase:w.heap.size+1≤(w3.alloc (.cells #[.int .i64 q.kind,.string q.name,.slice A' n' c',.slice C' m' d'] 60)).heap.size:=by rw [World.size_alloc]; omega
      clear Q3 hblk hvb hbl Qx hqx hF hR3 hg3 hk1 hk3
      go_wp2_with (at_builtin; refine wpList_append_own_at _ rfl _ _ 58 rfl (w.heap.size+1) 60 i0 _ 4 72 Tryz.underlying58 hi0 hz1 hz2 hz3 rfl (by decide) _ _ _ rfl hown ⟨w3.heap.size,0,none⟩ 1 1 [.int .i64 q.kind,.string q.name,.slice A' n' c',.slice C' m' d'] rfl rfl (World.news_of_block (cs:=#[.int .i64 q.kind,.string q.name,.slice A' n' c',.slice C' m' d']) (t:=60) (fr:=(0,0)) (heap_alloc_new w3 _)) (fun u hu=>by simp at hu; rcases hu with rfl | rfl | rfl | rfl <;> rfl) (by unfold maxLen; omega) (by omega) hbase ?_)
      intro v' w5 hown5 hg5 _ hv5
      have hQ5:=HQx.out.put Hqx.out hown5 hg5 (by rw [World.size_alloc]; exact hv5)
      have L5:Lp B w g l Md.orT (.or []) w5 v' (acc ++ [q]) (vss ++ [[.int .i64 q.kind,.string q.name,.slice A' n' c',.slice C' m' d']]) r3 :=
       ⟨hQ5,HRx.out.other hg5 (fun b e=>by have:=(Hblk.out b e).1; exact ⟨by omega,by omega⟩),grownBy_new HGx.out hg5 (fun b e=>by have:=(Hblk.out b e).1; omega),HKx.out.grown hg5 (fun e=>by have:=(Hblk.out _ e.symm).1; omega),Nat.le_trans hbase hg5.size,
        by obtain ⟨k,h1,h2⟩:=HL.out.su; exact ⟨k+1+k3,by rw [Hk1.out,← List.drop_drop,← List.drop_drop,← h1]; rfl,by omega⟩,by simp,by rw [Hk1.out,List.length_append,List.length_drop,List.length_singleton]; simp only [List.length_cons] at hk2 hln ⊢; omega,fun o h=>HL.out.tk _ (.orO Hs.out (.or1 HRo.out h))⟩
      have HL5:=zh L5
      have Hlen5:Hid (lenOf v'=acc.length+1):=zh (by rw [hQ5.len,List.length_append,List.length_singleton])
      clear hQ5 hown5 hg5 hv5 hown L5 HL HQx Hqx
      go_wp2_with fail
      go_roundw
      case rel=>exact ⟨_,_,_,HL5.out⟩
      case measure=>simp [Hlen5.out,Hlen.out]; omega
    ·rw [decide_eq_false hs] at f79
     have HHR:=zh (L.tk _ (.orE (by simpa using hs)))
     have Hlen:=zh hlen
     clear hlen hs
     have c3:=one_any (w.heap.size+1) 6 u3 acc vss wr L.qs L.ne
     go_wp2_with (go_at_call 126; refine cp.mono ?_; rintro e w' ⟨rfl,rfl⟩)
     refine c3.mono ?_
     rintro e w4 ⟨b0,b1,b2,b3,rfl,hF4,hb4⟩
     have hbk:=L.bk.below hb4 (by have:=L.sz; omega)
     obtain ⟨q0,q1,q2,q3,f0,f1,f2,f3⟩:=hbk.four
     obtain ⟨A',n',c',C',m',d',e4⟩:=hF4.four
     simp only [List.cons.injEq,and_true] at e4
     obtain ⟨rfl,rfl,rfl,rfl⟩:=e4
     have hX:=hbk.set4 (.int .i64 (oneQ 6 acc).kind) (.string (oneQ 6 acc).name) (.slice A' n' c') (.slice C' m' d')
     have hg5:=grownBy_set4 w4 w.heap.size (.int .i64 (oneQ 6 acc).kind) (.string (oneQ 6 acc).name) (.slice A' n' c') (.slice C' m' d')
     have HF:=zh (q_ret (w:=w) hF4 (by omega) (zG _))
     have HRX:=zh ((L.rd.below hb4).other hg5 (fun b e=>by injection e with e; omega))
     have HGX:=zh (grownBy_new (grownBy_trans L.gr (grow_of_below hb4 _)) hg5 (fun b e=>by injection e with e; omega))
     have HX:=zh hX
     clear hX hg5 hF4 hbk hb4 c3 L
     go_wp2_with fail
     refine bodyPost_ret (results_cell rfl rfl (run_loadVar_row _ w.heap.size 60 60 #[.int .i64 (oneQ 6 acc).kind,.string (oneQ 6 acc).name,.slice A' n' c',.slice C' m' d'] (0,0) _ HX.out Tryz.underlying60 rfl (by kernel_rfl))) rfl ?_
     exact ⟨_,HHR.out,_,_,_,_,rfl,HF.out,HRX.out,HGX.out⟩
theorem all_ok:∀ (n:Nat) (l:List P),l.length≤n→PcAll l→PartOk l∧AndOk l∧OrOk l:=by
 intro n
 induction n with
 | zero =>
  intro l hl hp
  have:l=[]:=List.length_eq_zero_iff.1 (by omega)
  subst this
  have hp0:∀ k,PartOk ([].drop k):=fun k=>by rw [List.drop_nil]; exact part_nil
  have ha:AndOk []:=and_ok [] hp0
  exact ⟨part_nil,ha,or_ok [] fun k=>by rw [List.drop_nil]; exact ha⟩
 | succ n ih =>
  intro l hl hp
  have part:PartOk l:=by
   cases l with
   | nil=>exact part_nil
   | cons s t =>
    have ht:PcAll t:=fun x hx=>hp x (by simp [hx])
    have it:=ih t (by simp at hl; omega) ht
    by_cases h1:s=NOT
    ·subst h1; exact part_not t it.1
    by_cases h2:s=LP
    ·subst h2; exact part_lp t it.2.2
    by_cases h3:s=RP
    ·subst h3; exact part_RP t
    by_cases h4:s=AND
    ·subst h4; exact part_AND t
    by_cases h5:s=OR
    ·subst h5; exact part_OR t
    have hs:=hp s (by simp)
    exact part_leaf s t (by unfold word1; simp [h1,h2,h3,h4,h5]) hs.1 hs.2
  have sub:∀ k,1≤k→l≠[]→PartOk (l.drop k)∧AndOk (l.drop k):=fun k hk hne=>by
   have hd:PcAll (l.drop k):=fun x hx=>hp x (List.mem_of_mem_drop hx)
   have hll:=List.length_pos_iff.2 hne
   have:=ih (l.drop k) (by rw [List.length_drop]; omega) hd
   exact ⟨this.1,this.2.1⟩
  have parts:∀ k,PartOk (l.drop k):=fun k=>by
   by_cases hk:k=0
   ·subst hk; exact part
   ·by_cases hne:l=[]
    ·subst hne; rw [List.drop_nil]; exact part_nil
    ·exact (sub k (by omega) hne).1
  have and_:AndOk l:=and_ok l parts
  exact ⟨part,and_,or_ok l fun k=>by
   by_cases hk:k=0
   ·subst hk; exact and_
   ·by_cases hne:l=[]
    ·subst hne; rw [List.drop_nil]; exact and_
    ·exact (sub k (by omega) hne).2⟩
end Go.Proofs.YtmomjpolkkbhnaaGreat.Qp
end

section
namespace Go.Proofs.YtmomjpolkkbhnaaGreat.Qp
open Go.RowKit Ut Tk Qy
mutual
def depthN:Q→Nat
 | .mk _ _ _ l=>depthL l+1
def depthL:List Q→Nat
 | []=>0
 | q :: l=>max (depthN q) (depthL l)
end
mutual
def manyB:Q→Bool
 | .mk _ _ ws l=>decide (32<l.length) || decide (16<ws.length) || manyL l
def manyL:List Q→Bool
 | []=>false
 | q :: l=>manyB q || manyL l
end
theorem depthN_eq (k:Int) (nm:ByteArray) (ws:List ByteArray) (l:List Q):depthN (.mk k nm ws l)=depthL l+1:=by rw [depthN]
theorem manyB_eq (k:Int) (nm:ByteArray) (ws:List ByteArray) (l:List Q):manyB (.mk k nm ws l)=(decide (32<l.length) || decide (16<ws.length) || manyL l):=by rw [manyB]
theorem depthL_append:∀ a b,depthL (a ++ b)=max (depthL a) (depthL b)
 | [],b=>by simp [depthL]
 | q :: a,b=>by rw [List.cons_append,depthL,depthL,depthL_append a b,Nat.max_assoc]
theorem manyL_append:∀ a b,manyL (a ++ b)=(manyL a || manyL b)
 | [],b=>by simp [manyL]
 | q :: a,b=>by rw [List.cons_append,manyL,manyL,manyL_append a b,Bool.or_assoc]
theorem depthL_take (l:List Q) (k:Nat) (h:k<l.length):depthL (l.take (k+1))=max (depthL (l.take k)) (depthN l[k]):=by
 rw [List.take_succ_eq_append_getElem h,depthL_append]
 simp [depthL]
theorem manyL_take (l:List Q) (k:Nat) (h:k<l.length):manyL (l.take (k+1))=(manyL (l.take k) || manyB l[k]):=by
 rw [List.take_succ_eq_append_getElem h,manyL_append]
 simp [manyL]
theorem manyL_some (l:List Q) (k:Nat) (h:k<l.length) (hb:manyB l[k]=true):manyL l=true:=by
 have e:l=l.take k ++ l[k] :: l.drop (k+1):=by rw [← List.drop_eq_getElem_cons h,List.take_append_drop]
 rw [e,manyL_append,manyL,hb]
 simp
inductive QW:Nat→Q→Prop
 | mk {K:Nat} {k:Int} {nm:ByteArray} {ws:List ByteArray} {l:List Q} (h1:ws.length≤8796093021952) (h2:l.length≤8796093021952) (h3:∀ x∈l,QW K x):QW (K+1) (.mk k nm ws l)
theorem QW.more {K:Nat} {q:Q} (h:QW K q):∀ K',K≤K'→QW K' q:=by
 induction h with
 | mk h1 h2 h3 ih =>
  intro K' hK
  obtain ⟨K2,rfl⟩:∃ K2,K'=K2+1:=⟨K' - 1,by omega⟩
  exact .mk h1 h2 fun x hx=>ih x hx K2 (by omega)
theorem QW.depth {K:Nat} {q:Q} (h:QW K q):depthN q≤K:=by
 induction h with
 | @mk K k nm ws l h1 h2 h3 ih =>
  rw [depthN_eq]
  have:∀ l':List Q,(∀ x∈l',depthN x≤K)→depthL l'≤K:=by
   intro l'
   induction l' with
   | nil=>intro _; simp [depthL]
   | cons q l' ih2 =>
    intro h
    rw [depthL]
    have:=h q (by simp)
    have:=ih2 (fun x hx=>h x (by simp [hx]))
    omega
  have:=this l ih
  omega
def ManyOk (F:Nat) (q:Q):Prop:=∀ (w:World) (a0 a1 a2 a3:Value),QAt w w.heap.size q [a0,a1,a2,a3] →
 Calls Tryz.prog F #[.agg #[a0,a1,a2,a3]] w fun e w'=>e=.returned (.bool (manyB q))∧Below w.heap.size w w'
def DepOk (F:Nat) (q:Q):Prop:=∀ (w:World) (a0 a1 a2 a3:Value),QAt w w.heap.size q [a0,a1,a2,a3] →
 Calls Tryz.prog F #[.agg #[a0,a1,a2,a3]] w fun e w'=>e=.returned (.int .i64 (depthN q:Nat))∧Below w.heap.size w w'
set_option maxHeartbeats 6400000 in
theorem many_ref1 (k:Int) (nm:ByteArray) (ws:List ByteArray) (l:List Q) (hl6:l.length≤8796093021952) (hw6:ws.length≤8796093021952) (ih:∀ x∈l,ManyOk 43 x):ManyOk 43 (.mk k nm ws l):=by
 intro w a0 a1 a2 a3 hQ
 obtain ⟨WA,m,wc,CA,n,c2,e,hI⟩:=hQ.is
 simp only [List.cons.injEq,and_true] at e
 obtain ⟨rfl,rfl,rfl,rfl⟩:=e
 have hb1:Below w.heap.size w (w.alloc (.cells #[.int .i64 k,.string nm,.slice WA m wc,.slice CA n c2] 60)):=(Below.refl _ _).alloc (zG _) _
 have hB1:=Blk.new w 60 #[.int .i64 k,.string nm,.slice WA m wc,.slice CA n c2]
 have hz1:w.heap.size<(w.alloc (.cells #[.int .i64 k,.string nm,.slice WA m wc,.slice CA n c2] 60)).heap.size:=by simp
 have Hb1:=zh hb1
 have HB1:=zh hB1
 have hlm:=hI.lm
 have hn6:n≤8796093021952:=by omega
 have hkid:∀ j (hj:j<l.length),∀ w1,Below w.heap.size w w1→∃ b o A' n' c' C' m' d',CA=some ⟨b,o,none⟩∧b<w.heap.size ∧
   w1.cell? ⟨b,o+j * 4,none⟩=some (.int .i64 l[j].kind)∧w1.cell? ⟨b,o+j * 4+1,none⟩=some (.string l[j].name)∧w1.cell? ⟨b,o+j * 4+2,none⟩=some (.slice A' n' c')∧w1.cell? ⟨b,o+j * 4+3,none⟩=some (.slice C' m' d') ∧
   ∀ w2,Below w1.heap.size w1 w2→Calls Tryz.prog 43 #[.agg #[.int .i64 l[j].kind,.string l[j].name,.slice A' n' c',.slice C' m' d']] w2 fun e w'=>e=.returned (.bool (manyB l[j]))∧Below w2.heap.size w2 w':=by
  intro j hj w1 hb
  obtain ⟨tb,tq,A',n',c',C',m',d',rfl,htb,hq,hc0,hc1,hc2,hc3⟩:=hI.at_ hj
  exact ⟨tb,tq,A',n',c',C',m',d',rfl,htb,(hb.cell (p:=⟨tb,tq+j * 4,none⟩) htb).trans hc0,(hb.cell (p:=⟨tb,tq+j * 4+1,none⟩) htb).trans hc1,(hb.cell (p:=⟨tb,tq+j * 4+2,none⟩) htb).trans hc2,(hb.cell (p:=⟨tb,tq+j * 4+3,none⟩) htb).trans hc3,fun w2 hb2=>ih _ (List.getElem_mem hj) w2 _ _ _ _ ((hq.grow hb).grow hb2)⟩
 have Hlm:=zh hlm
 have Hkid:=zh hkid
 have hwm:=hI.wn
 have hm6:m≤8796093021952:=by omega
 have Fin:=zh (manyB_eq k nm ws l)
 have Hms:=zh (manyL_some l)
 have Hmt:=zh (manyL_take l)
 clear hQ hI hb1 hB1 hkid ih
 by_cases h32 : 32<n
 ·have h32':(32:Int)<(n:Int):=by omega
  have Fin2:Hid (manyB (.mk k nm ws l)=true):=zh (by rw [Fin.out,decide_eq_true (by omega)]; rfl)
  clear hlm hwm h32
  go_enter Tryz.func43,Tryz.ntmps43
  go_wp2
  go_ret
  exact ⟨by rw [Fin2.out]; first | done | rfl,Hb1.out⟩
 have h32':(n:Int)≤32:=by omega
 by_cases h16 : 16<m
 ·have h16':(16:Int)<(m:Int):=by omega
  have Fin2:Hid (manyB (.mk k nm ws l)=true):=zh (by rw [Fin.out,decide_eq_true (p:=16<ws.length) (by omega)]; simp)
  clear hlm hwm h32 h16
  go_enter Tryz.func43,Tryz.ntmps43
  go_wp2
  go_ret
  exact ⟨by rw [Fin2.out]; first | done | rfl,Hb1.out⟩
 have h16':(m:Int)≤16:=by omega
 have Fin2:Hid (manyB (.mk k nm ws l)=manyL l):=zh (by rw [Fin.out,decide_eq_false (by omega),decide_eq_false (by omega)]; rfl)
 clear hlm hwm h32 h16 Fin hl6 hw6
 go_enter Tryz.func43,Tryz.ntmps43
 go_wp2_with fail
 generalize hw1:(w.alloc (.cells #[.int .i64 k,.string nm,.slice WA m wc,.slice CA n c2] 60))=w1 at *
 clear hw1
 go_loopw [3] (fun v wr=>∃ j:Nat,j≤n∧v=.int .i64 (j:Nat)∧Hid (manyL (l.take j)=false)∧Below w1.heap.size w1 wr) (fun v _=>n - (intOf v).toNat)
 case atStart=>exact ⟨0,Nat.zero_le _,rfl,zh rfl,Below.refl _ _⟩
 case round =>
  obtain ⟨j,hj,rfl,hS,hb⟩:=hrel
  have Hb:=zh hb
  have hls:=(hb.cell (p:=⟨w.heap.size,3,none⟩) (by show w.heap.size < _; exact hz1)).trans (HB1.out.cell 3)
  simp at hls
  by_cases hlt:j<n
  ·have hjl:j<l.length:=by rw [Hlm.out]; exact hlt
   have hji:(j:Int)<(n:Int):=by omega
   have hji0:(0:Int)≤(j:Int):=by omega
   have hbx:Below w.heap.size w wr:=Hb1.out.trans (hb.mono Hb1.out.size)
   obtain ⟨tb,tq,A',n',c',C',m',d',rfl,htb,hc0,hc1,hc2',hc3,cK⟩:=Hkid.out j hjl wr hbx
   have c1:=cK wr (Below.refl _ _)
   clear cK
   have Hmm:=zh (Hmt.out j hjl)
   have Hmx:=zh (Hms.out j hjl)
   clear hb hlt hbx
   generalize l[j]=y at *
   generalize (y).kind=x0 at *
   generalize (y).name=x1 at *
   go_wp2_with fail
   refine c1.mono ?_
   rintro e w2 ⟨rfl,hb2⟩
   have FinB:=zh (Hb.out.trans (hb2.mono Hb.out.size))
   clear hb2 c1
   cases hy:manyB y with
   | true =>
    have Fin3:Hid (manyB (.mk k nm ws l)=true):=zh (by rw [Fin2.out]; exact Hmx.out hy)
    clear hy Hmx Hmm
    go_wp2
    go_ret
    exact ⟨by rw [Fin3.out]; first | done | rfl,Hb1.out.trans (FinB.out.mono Hb1.out.size)⟩
   | false =>
    have Hnx:Hid (manyL (l.take (j+1))=false):=zh (by rw [Hmm.out,hS.out,hy]; rfl)
    clear hy Hmx Hmm
    go_wp2
    go_roundw
    case rel=>exact ⟨j+1,by omega,by go_num,Hnx,FinB.out⟩
    case measure=>simp [intOf]; omega
  ·have hji:(n:Int)≤(j:Int):=by omega
   have e:n=j:=by omega
   have Fin3:Hid (manyB (.mk k nm ws l)=false):=zh (by
    rw [Fin2.out,← List.take_length (l:=l),Hlm.out,e]; exact hS.out)
   clear hb hS e
   go_wp2
   go_ret
   exact ⟨by rw [Fin3.out]; first | done | rfl,Hb1.out.trans (Hb.out.mono Hb1.out.size)⟩
set_option maxHeartbeats 6400000 in
theorem many_go1 (k:Int) (nm:ByteArray) (ws:List ByteArray) (l:List Q) (hl6:l.length≤8796093021952) (hw6:ws.length≤8796093021952) (ih:∀ x∈l,ManyOk 99 x):ManyOk 99 (.mk k nm ws l):=by
 intro w a0 a1 a2 a3 hQ
 obtain ⟨WA,m,wc,CA,n,c2,e,hI⟩:=hQ.is
 simp only [List.cons.injEq,and_true] at e
 obtain ⟨rfl,rfl,rfl,rfl⟩:=e
 have hb1:Below w.heap.size w (w.alloc (.cells #[.int .i64 k,.string nm,.slice WA m wc,.slice CA n c2] 60)):=(Below.refl _ _).alloc (zG _) _
 have hB1:=Blk.new w 60 #[.int .i64 k,.string nm,.slice WA m wc,.slice CA n c2]
 have hz1:w.heap.size<(w.alloc (.cells #[.int .i64 k,.string nm,.slice WA m wc,.slice CA n c2] 60)).heap.size:=by simp
 have Hb1:=zh hb1
 have HB1:=zh hB1
 have hlm:=hI.lm
 have hn6:n≤8796093021952:=by omega
 have hkid:∀ j (hj:j<l.length),∀ w1,Below w.heap.size w w1→∃ b o A' n' c' C' m' d',CA=some ⟨b,o,none⟩∧b<w.heap.size ∧
   w1.cell? ⟨b,o+j * 4,none⟩=some (.int .i64 l[j].kind)∧w1.cell? ⟨b,o+j * 4+1,none⟩=some (.string l[j].name)∧w1.cell? ⟨b,o+j * 4+2,none⟩=some (.slice A' n' c')∧w1.cell? ⟨b,o+j * 4+3,none⟩=some (.slice C' m' d') ∧
   ∀ w2,Below w1.heap.size w1 w2→Calls Tryz.prog 99 #[.agg #[.int .i64 l[j].kind,.string l[j].name,.slice A' n' c',.slice C' m' d']] w2 fun e w'=>e=.returned (.bool (manyB l[j]))∧Below w2.heap.size w2 w':=by
  intro j hj w1 hb
  obtain ⟨tb,tq,A',n',c',C',m',d',rfl,htb,hq,hc0,hc1,hc2,hc3⟩:=hI.at_ hj
  exact ⟨tb,tq,A',n',c',C',m',d',rfl,htb,(hb.cell (p:=⟨tb,tq+j * 4,none⟩) htb).trans hc0,(hb.cell (p:=⟨tb,tq+j * 4+1,none⟩) htb).trans hc1,(hb.cell (p:=⟨tb,tq+j * 4+2,none⟩) htb).trans hc2,(hb.cell (p:=⟨tb,tq+j * 4+3,none⟩) htb).trans hc3,fun w2 hb2=>ih _ (List.getElem_mem hj) w2 _ _ _ _ ((hq.grow hb).grow hb2)⟩
 have Hlm:=zh hlm
 have Hkid:=zh hkid
 have hwm:=hI.wn
 have hm6:m≤8796093021952:=by omega
 have Fin:=zh (manyB_eq k nm ws l)
 have Hms:=zh (manyL_some l)
 have Hmt:=zh (manyL_take l)
 clear hQ hI hb1 hB1 hkid ih
 by_cases h32 : 32<n
 ·have h32':(32:Int)<(n:Int):=by omega
  have Fin2:Hid (manyB (.mk k nm ws l)=true):=zh (by rw [Fin.out,decide_eq_true (by omega)]; rfl)
  clear hlm hwm h32
  go_enter Tryz.func99,Tryz.ntmps99
  go_wp2
  go_ret
  exact ⟨by rw [Fin2.out]; first | done | rfl,Hb1.out⟩
 have h32':(n:Int)≤32:=by omega
 by_cases h16 : 16<m
 ·have h16':(16:Int)<(m:Int):=by omega
  have Fin2:Hid (manyB (.mk k nm ws l)=true):=zh (by rw [Fin.out,decide_eq_true (p:=16<ws.length) (by omega)]; simp)
  clear hlm hwm h32 h16
  go_enter Tryz.func99,Tryz.ntmps99
  go_wp2
  go_ret
  exact ⟨by rw [Fin2.out]; first | done | rfl,Hb1.out⟩
 have h16':(m:Int)≤16:=by omega
 have Fin2:Hid (manyB (.mk k nm ws l)=manyL l):=zh (by rw [Fin.out,decide_eq_false (by omega),decide_eq_false (by omega)]; rfl)
 clear hlm hwm h32 h16 Fin hl6 hw6
 go_enter Tryz.func99,Tryz.ntmps99
 go_wp2_with fail
 generalize hw1:(w.alloc (.cells #[.int .i64 k,.string nm,.slice WA m wc,.slice CA n c2] 60))=w1 at *
 clear hw1
 go_loopw [18] (fun v wr=>∃ j:Nat,j≤n∧v=.int .i64 (j:Nat)∧Hid (manyL (l.take j)=false)∧Below w1.heap.size w1 wr) (fun v _=>n - (intOf v).toNat)
 case atStart=>exact ⟨0,Nat.zero_le _,rfl,zh rfl,Below.refl _ _⟩
 case round =>
  obtain ⟨j,hj,rfl,hS,hb⟩:=hrel
  have Hb:=zh hb
  by_cases hlt:j<n
  ·have hjl:j<l.length:=by rw [Hlm.out]; exact hlt
   have hji:(j:Int)<(n:Int):=by omega
   have hji0:(0:Int)≤(j:Int):=by omega
   have hbx:Below w.heap.size w wr:=Hb1.out.trans (hb.mono Hb1.out.size)
   obtain ⟨tb,tq,A',n',c',C',m',d',rfl,htb,hc0,hc1,hc2',hc3,cK⟩:=Hkid.out j hjl wr hbx
   have hal:=(Below.refl wr.heap.size wr).alloc (zG _) (.cells #[.int .i64 l[j].kind,.string l[j].name,.slice A' n' c',.slice C' m' d'] 60)
   have Hal:=zh hal
   have c1:=cK _ hal
   clear cK hal
   have Hmm:=zh (Hmt.out j hjl)
   have Hmx:=zh (Hms.out j hjl)
   clear hb hlt hbx
   generalize l[j]=y at *
   generalize (y).kind=x0 at *
   generalize (y).name=x1 at *
   go_wp2_with fail
   refine c1.mono ?_
   rintro e w2 ⟨rfl,hb2⟩
   have FinB:=zh ((Hb.out.trans (Hal.out.mono Hb.out.size)).trans (hb2.mono (Nat.le_trans Hb.out.size Hal.out.size)))
   clear hb2 c1
   cases hy:manyB y with
   | true =>
    have Fin3:Hid (manyB (.mk k nm ws l)=true):=zh (by rw [Fin2.out]; exact Hmx.out hy)
    clear hy Hmx Hmm
    go_wp2
    go_ret
    exact ⟨by rw [Fin3.out]; first | done | rfl,Hb1.out.trans (FinB.out.mono Hb1.out.size)⟩
   | false =>
    have Hnx:Hid (manyL (l.take (j+1))=false):=zh (by rw [Hmm.out,hS.out,hy]; rfl)
    clear hy Hmx Hmm
    go_wp2
    go_roundw
    case rel=>exact ⟨j+1,by omega,by go_num,Hnx,FinB.out⟩
    case measure=>simp [intOf]; omega
  ·have hji:(n:Int)≤(j:Int):=by omega
   have e:n=j:=by omega
   have Fin3:Hid (manyB (.mk k nm ws l)=false):=zh (by
    rw [Fin2.out,← List.take_length (l:=l),Hlm.out,e]; exact hS.out)
   clear hb hS e
   go_wp2
   go_ret
   exact ⟨by rw [Fin3.out]; first | done | rfl,Hb1.out.trans (Hb.out.mono Hb1.out.size)⟩
set_option maxHeartbeats 6400000 in
theorem depth_ref1 (k:Int) (nm:ByteArray) (ws:List ByteArray) (l:List Q) (K:Nat) (hK:K≤16777216) (hl6:l.length≤8796093021952) (hd:∀ j,depthL (l.take j)≤K) (ih:∀ x∈l,DepOk 44 x):DepOk 44 (.mk k nm ws l):=by
 intro w a0 a1 a2 a3 hQ
 obtain ⟨WA,m,wc,CA,n,c2,e,hI⟩:=hQ.is
 simp only [List.cons.injEq,and_true] at e
 obtain ⟨rfl,rfl,rfl,rfl⟩:=e
 have hb1:Below w.heap.size w (w.alloc (.cells #[.int .i64 k,.string nm,.slice WA m wc,.slice CA n c2] 60)):=(Below.refl _ _).alloc (zG _) _
 have hB1:=Blk.new w 60 #[.int .i64 k,.string nm,.slice WA m wc,.slice CA n c2]
 have hz1:w.heap.size<(w.alloc (.cells #[.int .i64 k,.string nm,.slice WA m wc,.slice CA n c2] 60)).heap.size:=by simp
 have Hb1:=zh hb1
 have HB1:=zh hB1
 have hlm:=hI.lm
 have hn6:n≤8796093021952:=by omega
 have hkid:∀ j (hj:j<l.length),∀ w1,Below w.heap.size w w1→∃ b o A' n' c' C' m' d',CA=some ⟨b,o,none⟩∧b<w.heap.size ∧
   w1.cell? ⟨b,o+j * 4,none⟩=some (.int .i64 l[j].kind)∧w1.cell? ⟨b,o+j * 4+1,none⟩=some (.string l[j].name)∧w1.cell? ⟨b,o+j * 4+2,none⟩=some (.slice A' n' c')∧w1.cell? ⟨b,o+j * 4+3,none⟩=some (.slice C' m' d') ∧
   ∀ w2,Below w1.heap.size w1 w2→Calls Tryz.prog 44 #[.agg #[.int .i64 l[j].kind,.string l[j].name,.slice A' n' c',.slice C' m' d']] w2 fun e w'=>e=.returned (.int .i64 (depthN l[j]:Nat))∧Below w2.heap.size w2 w':=by
  intro j hj w1 hb
  obtain ⟨tb,tq,A',n',c',C',m',d',rfl,htb,hq,hc0,hc1,hc2,hc3⟩:=hI.at_ hj
  exact ⟨tb,tq,A',n',c',C',m',d',rfl,htb,(hb.cell (p:=⟨tb,tq+j * 4,none⟩) htb).trans hc0,(hb.cell (p:=⟨tb,tq+j * 4+1,none⟩) htb).trans hc1,(hb.cell (p:=⟨tb,tq+j * 4+2,none⟩) htb).trans hc2,(hb.cell (p:=⟨tb,tq+j * 4+3,none⟩) htb).trans hc3,fun w2 hb2=>ih _ (List.getElem_mem hj) w2 _ _ _ _ ((hq.grow hb).grow hb2)⟩
 have Hlm:=zh hlm
 have Hkid:=zh hkid
 have Fin:=zh (depthN_eq k nm ws l)
 have Hmt:=zh (depthL_take l)
 have Hd:=zh hd
 clear hQ hI hb1 hB1 hkid ih hlm hl6 hd
 go_enter Tryz.func44,Tryz.ntmps44
 go_wp2_with fail
 generalize hw1:(w.alloc (.cells #[.int .i64 k,.string nm,.slice WA m wc,.slice CA n c2] 60))=w1 at *
 clear hw1
 go_loopw [3,4] (fun d v wr=>∃ j:Nat,j≤n∧v=.int .i64 (j:Nat)∧d=.int .i64 (depthL (l.take j):Nat)∧Below w1.heap.size w1 wr) (fun _ v _=>n - (intOf v).toNat)
 case atStart=>exact ⟨0,Nat.zero_le _,rfl,rfl,Below.refl _ _⟩
 case round =>
  obtain ⟨j,hj,rfl,rfl,hb⟩:=hrel
  have Hb:=zh hb
  have hdj:=Hd.out j
  have hls:=(hb.cell (p:=⟨w.heap.size,3,none⟩) (by show w.heap.size < _; exact hz1)).trans (HB1.out.cell 3)
  simp at hls
  by_cases hlt:j<n
  ·have hjl:j<l.length:=by rw [Hlm.out]; exact hlt
   have hji:(j:Int)<(n:Int):=by omega
   have hji0:(0:Int)≤(j:Int):=by omega
   have hbx:Below w.heap.size w wr:=Hb1.out.trans (hb.mono Hb1.out.size)
   obtain ⟨tb,tq,A',n',c',C',m',d',rfl,htb,hc0,hc1,hc2',hc3,cK⟩:=Hkid.out j hjl wr hbx
   have c1:=cK wr (Below.refl _ _)
   clear cK
   have Hmm:=zh (Hmt.out j hjl)
   have hdn:depthN l[j]≤K:=by have:=Hd.out (j+1); rw [Hmm.out] at this; omega
   clear hb hlt hbx
   generalize l[j]=y at *
   generalize depthN y=dy at *
   generalize hD:depthL (l.take j)=dl at *
   generalize hD2:depthL (l.take (j+1))=dl2 at *
   have HD2:=zh hD2
   clear hD hD2
   generalize (y).kind=x0 at *
   generalize (y).name=x1 at *
   go_wp2_with fail
   refine c1.mono ?_
   rintro e w2 ⟨rfl,hb2⟩
   have FinB:=zh (Hb.out.trans (hb2.mono Hb.out.size))
   clear hb2 c1
   go_wp2_with fail
   go_roundw
   case rel=>exact ⟨j+1,by omega,by go_num,by rw [HD2.out,Hmm.out]; exact congrArg (Value.int .i64) (by omega),FinB.out⟩
   case measure=>simp [intOf]; omega
  ·have hji:(n:Int)≤(j:Int):=by omega
   have e:n=j:=by omega
   have Fin3:Hid (depthN (.mk k nm ws l)=depthL (l.take j)+1):=zh (by
    rw [Fin.out,← e,← Hlm.out,List.take_length])
   clear hb e
   generalize depthL (l.take j)=dl at *
   go_wp2
   go_ret
   exact ⟨ret_int (by rw [Fin3.out]; omega),Hb1.out.trans (Hb.out.mono Hb1.out.size)⟩
set_option maxHeartbeats 6400000 in
theorem depth_go1 (k:Int) (nm:ByteArray) (ws:List ByteArray) (l:List Q) (K:Nat) (hK:K≤16777216) (hl6:l.length≤8796093021952) (hd:∀ j,depthL (l.take j)≤K) (ih:∀ x∈l,DepOk 100 x):DepOk 100 (.mk k nm ws l):=by
 intro w a0 a1 a2 a3 hQ
 obtain ⟨WA,m,wc,CA,n,c2,e,hI⟩:=hQ.is
 simp only [List.cons.injEq,and_true] at e
 obtain ⟨rfl,rfl,rfl,rfl⟩:=e
 have hb1:Below w.heap.size w (w.alloc (.cells #[.int .i64 k,.string nm,.slice WA m wc,.slice CA n c2] 60)):=(Below.refl _ _).alloc (zG _) _
 have hB1:=Blk.new w 60 #[.int .i64 k,.string nm,.slice WA m wc,.slice CA n c2]
 have hz1:w.heap.size<(w.alloc (.cells #[.int .i64 k,.string nm,.slice WA m wc,.slice CA n c2] 60)).heap.size:=by simp
 have Hb1:=zh hb1
 have HB1:=zh hB1
 have hlm:=hI.lm
 have hn6:n≤8796093021952:=by omega
 have hkid:∀ j (hj:j<l.length),∀ w1,Below w.heap.size w w1→∃ b o A' n' c' C' m' d',CA=some ⟨b,o,none⟩∧b<w.heap.size ∧
   w1.cell? ⟨b,o+j * 4,none⟩=some (.int .i64 l[j].kind)∧w1.cell? ⟨b,o+j * 4+1,none⟩=some (.string l[j].name)∧w1.cell? ⟨b,o+j * 4+2,none⟩=some (.slice A' n' c')∧w1.cell? ⟨b,o+j * 4+3,none⟩=some (.slice C' m' d') ∧
   ∀ w2,Below w1.heap.size w1 w2→Calls Tryz.prog 100 #[.agg #[.int .i64 l[j].kind,.string l[j].name,.slice A' n' c',.slice C' m' d']] w2 fun e w'=>e=.returned (.int .i64 (depthN l[j]:Nat))∧Below w2.heap.size w2 w':=by
  intro j hj w1 hb
  obtain ⟨tb,tq,A',n',c',C',m',d',rfl,htb,hq,hc0,hc1,hc2,hc3⟩:=hI.at_ hj
  exact ⟨tb,tq,A',n',c',C',m',d',rfl,htb,(hb.cell (p:=⟨tb,tq+j * 4,none⟩) htb).trans hc0,(hb.cell (p:=⟨tb,tq+j * 4+1,none⟩) htb).trans hc1,(hb.cell (p:=⟨tb,tq+j * 4+2,none⟩) htb).trans hc2,(hb.cell (p:=⟨tb,tq+j * 4+3,none⟩) htb).trans hc3,fun w2 hb2=>ih _ (List.getElem_mem hj) w2 _ _ _ _ ((hq.grow hb).grow hb2)⟩
 have Hlm:=zh hlm
 have Hkid:=zh hkid
 have Fin:=zh (depthN_eq k nm ws l)
 have Hmt:=zh (depthL_take l)
 have Hd:=zh hd
 clear hQ hI hb1 hB1 hkid ih hlm hl6 hd
 go_enter Tryz.func100,Tryz.ntmps100
 go_wp2_with fail
 generalize hw1:(w.alloc (.cells #[.int .i64 k,.string nm,.slice WA m wc,.slice CA n c2] 60))=w1 at *
 clear hw1
 go_loopw [3,9] (fun d v wr=>∃ j:Nat,j≤n∧v=.int .i64 (j:Nat)∧d=.int .i64 (depthL (l.take j):Nat)∧Below w1.heap.size w1 wr) (fun _ v _=>n - (intOf v).toNat)
 case atStart=>exact ⟨0,Nat.zero_le _,rfl,rfl,Below.refl _ _⟩
 case round =>
  obtain ⟨j,hj,rfl,rfl,hb⟩:=hrel
  have Hb:=zh hb
  have hdj:=Hd.out j
  by_cases hlt:j<n
  ·have hjl:j<l.length:=by rw [Hlm.out]; exact hlt
   have hji:(j:Int)<(n:Int):=by omega
   have hji0:(0:Int)≤(j:Int):=by omega
   have hbx:Below w.heap.size w wr:=Hb1.out.trans (hb.mono Hb1.out.size)
   obtain ⟨tb,tq,A',n',c',C',m',d',rfl,htb,hc0,hc1,hc2',hc3,cK⟩:=Hkid.out j hjl wr hbx
   have hal:=(Below.refl wr.heap.size wr).alloc (zG _) (.cells #[.int .i64 l[j].kind,.string l[j].name,.slice A' n' c',.slice C' m' d'] 60)
   have Hal:=zh hal
   have c1:=cK _ hal
   clear cK hal
   have Hmm:=zh (Hmt.out j hjl)
   have hdn:depthN l[j]≤K:=by have:=Hd.out (j+1); rw [Hmm.out] at this; omega
   clear hb hlt hbx
   generalize l[j]=y at *
   generalize depthN y=dy at *
   generalize hD:depthL (l.take j)=dl at *
   generalize hD2:depthL (l.take (j+1))=dl2 at *
   have HD2:=zh hD2
   clear hD hD2
   generalize (y).kind=x0 at *
   generalize (y).name=x1 at *
   go_wp2_with fail
   refine c1.mono ?_
   rintro e w2 ⟨rfl,hb2⟩
   have FinB:=zh ((Hb.out.trans (Hal.out.mono Hb.out.size)).trans (hb2.mono (Nat.le_trans Hb.out.size Hal.out.size)))
   clear hb2 c1
   go_wp2_with fail
   go_roundw
   case rel=>exact ⟨j+1,by omega,by go_num,by rw [HD2.out,Hmm.out]; exact congrArg (Value.int .i64) (by omega),FinB.out⟩
   case measure=>simp [intOf]; omega
  ·have hji:(n:Int)≤(j:Int):=by omega
   have e:n=j:=by omega
   have Fin3:Hid (depthN (.mk k nm ws l)=depthL (l.take j)+1):=zh (by
    rw [Fin.out,← e,← Hlm.out,List.take_length])
   clear hb e
   generalize depthL (l.take j)=dl at *
   go_wp2
   go_ret
   exact ⟨ret_int (by rw [Fin3.out]; omega),Hb1.out.trans (Hb.out.mono Hb1.out.size)⟩
theorem depthL_le (l:List Q) (K:Nat) (h:∀ x∈l,QW K x) (j:Nat):depthL (l.take j)≤K:=by
 have:∀ l':List Q,(∀ x∈l',depthN x≤K)→depthL l'≤K:=by
  intro l'
  induction l' with
  | nil=>intro _; simp [depthL]
  | cons q l' ih2 =>
   intro h
   rw [depthL]
   have:=h q (by simp)
   have:=ih2 (fun x hx=>h x (by simp [hx]))
   omega
 exact this _ fun x hx=>(h x (List.mem_of_mem_take hx)).depth
theorem many_ref {K:Nat} {q:Q} (h:QW K q):ManyOk 43 q:=by
 induction h with
 | mk h1 h2 h3 ih=>exact many_ref1 _ _ _ _ h2 h1 ih
theorem many_go {K:Nat} {q:Q} (h:QW K q):ManyOk 99 q:=by
 induction h with
 | mk h1 h2 h3 ih=>exact many_go1 _ _ _ _ h2 h1 ih
theorem depth_ref {K:Nat} {q:Q} (h:QW K q):K≤16777216→DepOk 44 q:=by
 induction h with
 | mk h1 h2 h3 ih=>intro hK; exact depth_ref1 _ _ _ _ _ (by omega) h2 (depthL_le _ _ h3) fun x hx=>ih x hx (by omega)
theorem depth_go {K:Nat} {q:Q} (h:QW K q):K≤16777216→DepOk 100 q:=by
 induction h with
 | mk h1 h2 h3 ih=>intro hK; exact depth_go1 _ _ _ _ _ (by omega) h2 (depthL_le _ _ h3) fun x hx=>ih x hx (by omega)
end Go.Proofs.YtmomjpolkkbhnaaGreat.Qp
end

section
namespace Go.Proofs.YtmomjpolkkbhnaaGreat.Qp
open Go.RowKit Ut Tk Qy
theorem words_few (s:P):(words s).length≤s.length:=by
 have:=words_len (str s)
 rw [str_data,← bsize,str_data] at this
 exact this
theorem wordsQ_w (nm:P) (l:List P) (q:Q) (hl:l.length≤1048576) (h:wordsQ nm l=some q):QW 1 q:=by
 unfold wordsQ at h
 split at h
 ·cases h
 ·split at h
  ·injection h with h
   subst h
   exact .mk (by rw [List.length_map]; omega) (by simp) (by simp)
  ·injection h with h
   subst h
   exact .mk (by rw [List.length_map]; omega) (by simp) (by simp)
theorem rest_len (s:P):(restOf s).length≤s.length:=by
 unfold restOf
 split
 ·rw [List.length_drop]; omega
 ·exact zG _
theorem leafQ_w (s:P) (q:Q) (hl:s.length≤1048576) (h:leafQ s=some q):QW 1 q:=by
 unfold leafQ at h
 have hr:=rest_len s
 split at h
 ·injection h with h
  subst h
  exact .mk (by simp) (by simp) (by simp)
 ·split at h
  ·cases h
  ·split at h
   ·refine wordsQ_w _ _ q ?_ h
    have:=words_few (((restOf s).take ((restOf s).length - 1)).drop 1)
    rw [List.length_drop,List.length_take] at this
    omega
   ·split at h
    ·split at h
     ·injection h with h
      subst h
      exact .mk (by simp) (by simp) (by simp)
     ·split at h
      ·injection h with h
       subst h
       have:=words_few (restOf s).dropLast
       rw [List.length_dropLast] at this
       exact .mk (by rw [List.length_map]; omega) (by simp) (by simp)
      ·cases h
    ·refine wordsQ_w _ _ q ?_ h
     have:=words_few (restOf s)
     omega
theorem oneQ_w (k:Int) (a:List Q) (K:Nat) (hl:a.length≤8796093021952) (h:∀ x∈a,QW K x):QW (K+1) (oneQ k a):=by
 match a,hl,h with
 | [q],_,h=>exact (h q (by simp)).more _ (by omega)
 | [],hl,h=>exact .mk (by simp) hl h
 | q :: q' :: a,hl,h=>exact .mk (by simp) hl h
def Wide (m:Md) (l:List P) (q:Q):Prop :=
 match m with
 | .part=>∀ K,4 * l.length≤K+3→QW K q
 | .and a=>∀ K,4 * l.length≤K+3→(∀ x∈a,QW K x)→a.length+l.length≤1048577→QW (K+1) q
 | .andT a=>∀ K,4 * l.length≤K+3→(∀ x∈a,QW K x)→a.length+l.length≤1048577→QW (K+1) q
 | .or a=>∀ K,4 * l.length≤K+3→(∀ x∈a,QW (K+1) x)→a.length+l.length≤1048577→QW (K+2) q
 | .orT a=>∀ K,4 * l.length≤K+3→(∀ x∈a,QW (K+1) x)→a.length+l.length≤1048577→QW (K+2) q
theorem R.wide {m:Md} {l:List P} {o:Option (Q × List P)} (h:R m l o) (hp:∀ x∈l,x.length≤1048576) (hm:l.length≤1048576):∀ q r,o=some (q,r)→Wide m l q:=by
 induction h with
 | pnil=>intro q r e; cases e
 | pnot hs h ih =>
  intro q r e K hK
  obtain ⟨⟨q',r'⟩,h1,h2⟩:=Option.map_eq_some_iff.1 e
  simp only [Prod.mk.injEq] at h2
  obtain ⟨rfl,_⟩:=h2
  rw [List.length_cons] at hK hm
  have:=ih (fun x hx=>hp x (by simp [hx])) (by omega) q' r' h1
  obtain ⟨K2,rfl⟩:∃ K2,K=K2+1:=⟨K - 1,by omega⟩
  exact .mk (by simp) (by simp) fun x hx=>by rw [List.mem_singleton] at hx; rw [hx]; exact this K2 (by omega)
 | @plp s t o hs h ih =>
  intro q r e K hK
  match o,e,h,ih with
  | some (q',s' :: r'),e,h,ih =>
   by_cases hp':s'=RP
   ·have e2:closed (some (q',s' :: r'))=some (q',r'):=if_pos hp'
    rw [e2] at e
    simp only [Option.some.injEq,Prod.mk.injEq] at e
    obtain ⟨rfl,_⟩:=e
    rw [List.length_cons] at hK hm
    obtain ⟨k,hk1,hk2,hk3⟩:=h.less _ _ rfl
    have hk4 : 1≤k:=hk3 (.inr (.inr ⟨_,rfl⟩))
    have:=ih (fun x hx=>hp x (by simp [hx])) (by omega) q' _ rfl (4 * t.length - 3) (by omega) (by simp) (by simp; omega)
    exact this.more _ (by omega)
   ·have e2:closed (some (q',s' :: r'))=none:=if_neg hp'
    rw [e2] at e
    cases e
  | some (q',[]),e,_,_=>cases e
  | none,e,_,_=>cases e
 | pbad hs=>intro q r e; cases e
 | pleaf hs =>
  intro q r e K hK
  obtain ⟨q',h1,h2⟩:=Option.map_eq_some_iff.1 e
  simp only [Prod.mk.injEq] at h2
  obtain ⟨rfl,_⟩:=h2
  rw [List.length_cons] at hK
  exact (leafQ_w _ _ (hp _ (by simp)) h1).more _ (by omega)
 | and0 h ih=>intro q r e; cases e
 | and1 h h2 ih ih2 =>
  intro q r e K hK ha hn
  obtain ⟨k,rfl,hk,h1⟩:=h.less _ _ rfl
  have hk1:=h1 (.inl rfl)
  have hq:=ih hp hm _ _ rfl K hK
  rw [List.length_drop] at ih2
  have:=ih2 (fun x hx=>hp x (List.mem_of_mem_drop hx)) (by omega) q r e K (by rw [List.length_drop]; omega) (fun x hx=>by
   rcases List.mem_append.1 hx with hx | hx
   ·exact ha x hx
   ·rw [List.mem_singleton] at hx; rw [hx]; exact hq) (by rw [List.length_append,List.length_singleton,List.length_drop]; omega)
  exact this
 | andE h =>
  intro q r e K hK ha hn
  simp only [Option.some.injEq,Prod.mk.injEq] at e
  obtain ⟨rfl,_⟩:=e
  exact oneQ_w _ _ K (by omega) ha
 | andA hs h ih =>
  intro q r e K hK ha hn
  rw [List.length_cons] at hK hm hn
  exact ih (fun x hx=>hp x (by simp [hx])) (by omega) q r e K (by omega) ha (by omega)
 | andN hs hn h ih =>
  intro q r e K hK ha hn
  exact ih hp hm q r e K hK ha hn
 | or0 h ih=>intro q r e; cases e
 | or1 h h2 ih ih2 =>
  intro q r e K hK ha hn
  obtain ⟨k,rfl,hk,h1⟩:=h.less _ _ rfl
  have hk1:=h1 (.inr (.inl ⟨_,rfl⟩))
  have hq:=ih hp hm _ _ rfl K hK (by simp) (by simp; omega)
  rw [List.length_drop] at ih2
  exact ih2 (fun x hx=>hp x (List.mem_of_mem_drop hx)) (by omega) q r e K (by rw [List.length_drop]; omega) (fun x hx=>by
   rcases List.mem_append.1 hx with hx | hx
   ·exact ha x hx
   ·rw [List.mem_singleton] at hx; rw [hx]; exact hq) (by rw [List.length_append,List.length_singleton,List.length_drop]; omega)
 | orE h =>
  intro q r e K hK ha hn
  simp only [Option.some.injEq,Prod.mk.injEq] at e
  obtain ⟨rfl,_⟩:=e
  exact oneQ_w _ _ (K+1) (by omega) ha
 | orO hs h ih =>
  intro q r e K hK ha hn
  rw [List.length_cons] at hK hm hn
  exact ih (fun x hx=>hp x (by simp [hx])) (by omega) q r e K (by omega) ha (by omega)
theorem or_wide {l:List P} {q:Q} {r:List P} (h:R (.or []) l (some (q,r))) (hp:∀ x∈l,x.length≤1048576) (hm:l.length≤1048576):∃ K,K≤16777216∧QW K q :=
 ⟨4 * l.length+2,by omega,h.wide hp hm q r rfl (4 * l.length) (by omega) (by simp) (by simp; omega)⟩
inductive PrsR:P→Int→Option Q→Prop
 | long {s} (h : 1024<s.length):PrsR s 2 none
 | noPieces {s} (h:s.length≤1024) (hp:pieces s=none):PrsR s 170 none
 | bad {s l} (h:s.length≤1024) (hp:pieces s=some l) (hr:R (.or []) l none):PrsR s 170 none
 | left {s l q r} (h:s.length≤1024) (hp:pieces s=some l) (hr:R (.or []) l (some (q,r))) (hl:r≠[]):PrsR s 170 none
 | many {s l q} (h:s.length≤1024) (hp:pieces s=some l) (hr:R (.or []) l (some (q,[]))) (hm:manyB q=true):PrsR s 3 none
 | deep {s l q} (h:s.length≤1024) (hp:pieces s=some l) (hr:R (.or []) l (some (q,[]))) (hm:manyB q=false) (hd : 16<depthN q):PrsR s 171 none
 | ok {s l q} (h:s.length≤1024) (hp:pieces s=some l) (hr:R (.or []) l (some (q,[]))) (hm:manyB q=false) (hd:depthN q≤16):PrsR s 0 (some q)
theorem PrsR.det {s:P} {e e':Int} {o o':Option Q} (h:PrsR s e o) (h':PrsR s e' o'):e=e'∧o=o':=by
 have key:∀ {l l':List P} {x x':Option (Q × List P)},pieces s=some l→pieces s=some l'→R (.or []) l x→R (.or []) l' x'→x=x':=fun hp hp' hr hr'=>by
  rw [hp] at hp'
  injection hp' with hp'
  subst hp'
  exact hr.det _ hr'
 cases h with
 | long h=>cases h' with
  | long _=>exact ⟨rfl,rfl⟩
  | _=>omega
 | noPieces h hp=>cases h' with
  | long _=>omega
  | noPieces _ _=>exact ⟨rfl,rfl⟩
  | bad _ _ _=>exact ⟨rfl,rfl⟩
  | left _ _ _ _=>exact ⟨rfl,rfl⟩
  | many _ hp' _ _=>rw [hp] at hp'; cases hp'
  | deep _ hp' _ _ _=>rw [hp] at hp'; cases hp'
  | ok _ hp' _ _ _=>rw [hp] at hp'; cases hp'
 | bad h hp hr=>cases h' with
  | long _=>omega
  | noPieces _ _=>exact ⟨rfl,rfl⟩
  | bad _ _ _=>exact ⟨rfl,rfl⟩
  | left _ _ _ _=>exact ⟨rfl,rfl⟩
  | many _ hp' hr' _=>exact absurd (key hp hp' hr hr') (by simp)
  | deep _ hp' hr' _ _=>exact absurd (key hp hp' hr hr') (by simp)
  | ok _ hp' hr' _ _=>exact absurd (key hp hp' hr hr') (by simp)
 | left h hp hr hl=>cases h' with
  | long _=>omega
  | noPieces _ _=>exact ⟨rfl,rfl⟩
  | bad _ _ _=>exact ⟨rfl,rfl⟩
  | left _ _ _ _=>exact ⟨rfl,rfl⟩
  | many _ hp' hr' _=>have:=key hp hp' hr hr'; simp at this; exact absurd this.2 hl
  | deep _ hp' hr' _ _=>have:=key hp hp' hr hr'; simp at this; exact absurd this.2 hl
  | ok _ hp' hr' _ _=>have:=key hp hp' hr hr'; simp at this; exact absurd this.2 hl
 | many h hp hr hm=>cases h' with
  | long _=>omega
  | noPieces _ hp'=>rw [hp] at hp'; cases hp'
  | bad _ hp' hr'=>exact absurd (key hp hp' hr hr') (by simp)
  | left _ hp' hr' hl=>have:=key hp hp' hr hr'; simp at this; exact absurd this.2 hl
  | many _ _ _ _=>exact ⟨rfl,rfl⟩
  | deep _ hp' hr' hm' _=>have:=key hp hp' hr hr'; simp at this; subst this; rw [hm] at hm'; cases hm'
  | ok _ hp' hr' hm' _=>have:=key hp hp' hr hr'; simp at this; subst this; rw [hm] at hm'; cases hm'
 | deep h hp hr hm hd=>cases h' with
  | long _=>omega
  | noPieces _ hp'=>rw [hp] at hp'; cases hp'
  | bad _ hp' hr'=>exact absurd (key hp hp' hr hr') (by simp)
  | left _ hp' hr' hl=>have:=key hp hp' hr hr'; simp at this; exact absurd this.2 hl
  | many _ hp' hr' hm'=>have:=key hp hp' hr hr'; simp at this; subst this; rw [hm] at hm'; cases hm'
  | deep _ _ _ _ _=>exact ⟨rfl,rfl⟩
  | ok _ hp' hr' _ hd'=>have:=key hp hp' hr hr'; simp at this; subst this; omega
 | ok h hp hr hm hd=>cases h' with
  | long _=>omega
  | noPieces _ hp'=>rw [hp] at hp'; cases hp'
  | bad _ hp' hr'=>exact absurd (key hp hp' hr hr') (by simp)
  | left _ hp' hr' hl=>have:=key hp hp' hr hr'; simp at this; exact absurd this.2 hl
  | many _ hp' hr' hm'=>have:=key hp hp' hr hr'; simp at this; subst this; rw [hm] at hm'; cases hm'
  | deep _ hp' hr' _ hd'=>have:=key hp hp' hr hr'; simp at this; subst this; omega
  | ok _ hp' hr' _ _=>have:=key hp hp' hr hr'; simp at this; subst this; exact ⟨rfl,rfl⟩
end Go.Proofs.YtmomjpolkkbhnaaGreat.Qp
end

section
namespace Go.Proofs.YtmomjpolkkbhnaaGreat.Qp
open Go.RowKit Ut Tk Qy
theorem bad_is (v:Value) (xT:TypeId) (w:World):(Instr.typeAssert (.iface 149 v) xT 149 true).run Tryz.prog w=.ok (.tuple #[v,.bool true]) w:=by
 have hu:=Tryz.underlying149
 simp [Instr.typeAssert,run_underlying hu,go_sem,Result.andThen]
theorem catch_idle (p1 p2:Addr) (w:World) :
  CallsD Tryz.prog 96 #[.pointer (some p1),.pointer (some p2)] .returning w fun e u' w'=>e=.returned (.tuple #[])∧u'=.returning∧w'=w:=by
 refine callsD_of_wpS Tryz.func96 rfl fun c₀ cs hu=>?_
 apply wpS_seq
 apply wpS_region
 simp [wpOpsS,go_sem,recoverD,hu,Tryz.ntmps96,Exit.thenS]
 refine wpS_of_wp ?_
 go_wp2
 cases c₀
 simp_all [bodyPostS,results,Tryz.results96]
set_option maxHeartbeats 1600000 in
theorem catch_bad (b1 b2:Nat) (x0 x1 x2 x3 x4:Value) (z:Int) (older:List PanicEntry) (w:World)
  (h1:Blk w b1 60 #[x0,x1,x2,x3]) (h2:Blk w b2 39 #[x4]) :
  CallsD Tryz.prog 96 #[.pointer (some ⟨b1,0,none⟩),.pointer (some ⟨b2,0,none⟩)] (.panicking ({ v:=.iface 149 (.agg #[.int .i64 z]),recovered:=false } :: older)) w fun e u' w' =>
   e=.returned (.tuple #[])∧u'=.panicking ({ v:=.iface 149 (.agg #[.int .i64 z]),recovered:=true } :: older) ∧
   Blk w' b1 60 #[.int .i64 0,.string ⟨#[]⟩,.slice none 0 0,.slice none 0 0]∧Blk w' b2 39 #[.int .i64 z]∧(∀ B,B≤b1→B≤b2→B≤w.heap.size→Below B w w'):=by
 refine callsD_of_wpS Tryz.func96 rfl fun c₀ cs hu=>?_
 apply wpS_seq
 apply wpS_region
 simp [wpOpsS,go_sem,recoverD,hu,Tryz.ntmps96,Exit.thenS]
 refine wpS_of_wp ?_
 obtain ⟨q0,q1,q2,q3,f0,f1,f2,f3⟩:=h1.four
 have q4:=h2.cell 0
 have f4:=h2.frozen 0
 simp at q4
 have hta:=bad_is
 have hl1:=h1.lt
 have hl2:=h2.lt
 have hne:=h1.ne_ h2 (by decide)
 have hne1:b1≠w.heap.size:=by omega
 have hne2:b2≠w.heap.size:=by omega
 have H1:=zh h1
 have H2:=zh h2
 clear h1 h2
 simp only [show Array.replicate 12 undef=#[undef,undef,undef,undef,undef,undef,undef,undef,undef,undef,undef,undef] from rfl,zD,zF,zE,List.append_toArray,List.cons_append,List.nil_append]
 go_wp2
 go_region
 have g1:=(((H1.out.set4 (.int .i64 0) (.string ⟨#[]⟩) (.slice none 0 0) (.slice none 0 0)).far (p:=⟨b2,0,none⟩) hne (.int .i64 z)).alloc (.cells #[.int .i64 z] 149)).drew
 have g2:Blk (set4 w b1 (.int .i64 0) (.string ⟨#[]⟩) (.slice none 0 0) (.slice none 0 0)) b2 39 #[x4]:=(set4_other w b1 b2 _ _ _ _ (fun e=>hne e.symm)).trans H2.out
 have g3:=((g2.set_ 0 (.int .i64 z)).alloc (.cells #[.int .i64 z] 149)).drew
 have g4:∀ B,B≤b1→B≤b2→B≤w.heap.size→Below B w (((set4 w b1 (.int .i64 0) (.string ⟨#[]⟩) (.slice none 0 0) (.slice none 0 0)).setCell ⟨b2,0,none⟩ (.int .i64 z)).alloc (.cells #[.int .i64 z] 149)).drew:=fun B h1 h2 h3 =>
  ((((below_set4 (Below.refl B w) h1 _ _ _ _).setCell (p:=⟨b2,0,none⟩) h2 _).alloc (by simpa [World.setCell,set4_size] using h3) _).drew)
 unfold set4 at g1 g3 g4
 generalize (World.alloc _ (.cells #[.int .i64 z] 149)).drew=X at *
 rename_i QQ
 simp [QQ,Exit.inBlock,bodyPostS,results,Tryz.results96]
 exact ⟨g1,by simpa using g3,g4⟩
end Go.Proofs.YtmomjpolkkbhnaaGreat.Qp
end
