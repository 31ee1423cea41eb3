/- loggiaref17: no, part: the walks (printed by gen_qpt.py). -/
import Derived.Test.YtmomjpolkkbhnaaGreatQModelPagesRow28
import Derived.Test.YtmomjpolkkbhnaaGreatQModelPagesRow19
import Derived.Test.YtmomjpolkkbhnaaGreatQModelPagesRow0
set_option linter.unusedSimpArgs false
set_option maxRecDepth 20000
namespace Go.Proofs.YtmomjpolkkbhnaaGreat.Qp
open Go.RowKit Ut Tk Qy
def set6 (w:World) (g:Nat) (a b c d e f:Value):World:=(((((w.setCell ⟨g,0,none⟩ a).setCell ⟨g,1,none⟩ b).setCell ⟨g,2,none⟩ c).setCell ⟨g,3,none⟩ d).setCell ⟨g,4,none⟩ e).setCell ⟨g,5,none⟩ f
theorem _root_.Go.Proofs.YtmomjpolkkbhnaaGreat.Blk.six {w:World} {g:Nat} {t:TypeId} {x0 x1 x2 x3 x4 x5:Value} (h:Blk w g t #[x0,x1,x2,x3,x4,x5]) :
  w.cell? ⟨g,0,none⟩=some x0∧w.cell? ⟨g,1,none⟩=some x1∧w.cell? ⟨g,2,none⟩=some x2∧w.cell? ⟨g,3,none⟩=some x3∧w.cell? ⟨g,4,none⟩=some x4∧w.cell? ⟨g,5,none⟩=some x5 ∧
  w.frozen? ⟨g,0,none⟩=false∧w.frozen? ⟨g,1,none⟩=false∧w.frozen? ⟨g,2,none⟩=false∧w.frozen? ⟨g,3,none⟩=false∧w.frozen? ⟨g,4,none⟩=false∧w.frozen? ⟨g,5,none⟩=false :=
 ⟨h.cell 0,h.cell 1,h.cell 2,h.cell 3,h.cell 4,h.cell 5,h.frozen 0,h.frozen 1,h.frozen 2,h.frozen 3,h.frozen 4,h.frozen 5⟩
theorem _root_.Go.Proofs.YtmomjpolkkbhnaaGreat.Blk.set6 {w:World} {g:Nat} {t:TypeId} {x0 x1 x2 x3 x4 x5:Value} (h:Blk w g t #[x0,x1,x2,x3,x4,x5]) (a b c d e f:Value):Blk (set6 w g a b c d e f) g t #[a,b,c,d,e,f] :=
 (((((h.set_ 0 a).set_ 1 b).set_ 2 c).set_ 3 d).set_ 4 e).set_ 5 f
theorem set6_other (w:World) (g k:Nat) (a b c d e f:Value) (h:k≠g):(set6 w g a b c d e f).heap[k]?=w.heap[k]?:=by
 unfold set6
 rw [Below.heap_setCell _ _ _ _ h,Below.heap_setCell _ _ _ _ h,Below.heap_setCell _ _ _ _ h,Below.heap_setCell _ _ _ _ h,Below.heap_setCell _ _ _ _ h,Below.heap_setCell _ _ _ _ h]
theorem set6_size (w:World) (g:Nat) (a b c d e f:Value):(set6 w g a b c d e f).heap.size=w.heap.size:=by simp [set6,World.setCell]
theorem below_set6 {B g:Nat} {w0 w:World} (hb:Below B w0 w) (hBg:B≤g) (a b c d e f:Value):Below B w0 (set6 w g a b c d e f) :=
 (((((hb.setCell (p:=⟨g,0,none⟩) hBg a).setCell (p:=⟨g,1,none⟩) hBg b).setCell (p:=⟨g,2,none⟩) hBg c).setCell (p:=⟨g,3,none⟩) hBg d).setCell (p:=⟨g,4,none⟩) hBg e).setCell (p:=⟨g,5,none⟩) hBg f
theorem q_ret6 {w W:World} {g base:Nat} {q:Q} {vs:List Value} {a b c d e f:Value} (hF:QF W (fun x=>base≤x∧x<W.heap.size) q vs) (hb:g<base) (hw:w.heap.size≤g) :
  QF (set6 W g a b c d e f) (fun x=>w.heap.size≤x∧x<(set6 W g a b c d e f).heap.size) q vs :=
 (hF.keep fun x _ hS=>World.cell?_of_block (w:=W) (set6_other W g x _ _ _ _ _ _ (by have:=hS.1; omega))).mono fun x hS=>⟨by have:=hS.1; omega,by rw [set6_size]; exact hS.2⟩
theorem rgrow {w w':World} {size n:Nat} {A:Option Addr} {xs:List Value} (h:Reads w w.heap.size size A n xs) (hb:Below w.heap.size w w'):Reads w' w'.heap.size size A n xs:=(h.below hb).more hb.size
theorem no_ref (w:World):Calls Tryz.prog 80 #[] w fun e w'=>e=.returned (.agg #[.int .i64 0,.string ⟨#[]⟩,.slice none 0 0,.slice none 0 0,.int .i64 0,.bool false])∧Below w.heap.size w w':=by
 have hh:=Blk.new w 96 #[.int .i64 0,.string ⟨#[]⟩,.slice none 0 0,.slice none 0 0,.int .i64 0,.bool false]
 have hbl:=zh ((Below.refl w.heap.size w).alloc (zG _) (.cells #[.int .i64 0,.string ⟨#[]⟩,.slice none 0 0,.slice none 0 0,.int .i64 0,.bool false] 96))
 go_enter Tryz.func80,Tryz.ntmps80
 go_wp2_with fail
 exact bodyPost_ret (results_cell rfl rfl (run_loadVar_row _ w.heap.size 96 96 _ (0,0) _ hh Tryz.underlying96 rfl (by kernel_rfl))) rfl ⟨rfl,hbl.out⟩
def PrPost (w:World) (L:List P) (m:Md) (p:Nat) (e:Ending) (w':World):Prop :=
 ∃ a0 a1 a2 a3 z ok,e=.returned (.agg #[a0,a1,a2,a3,.int .i64 z,.bool ok])∧Four [a0,a1,a2,a3]∧Below w.heap.size w w' ∧
  ∃ o,R m (L.drop p) o∧ok=o.isSome∧∀ q r,o=some (q,r)→∃ k:Nat,z=(k:Int)∧k≤L.length∧r=L.drop k∧QF w' (fun b=>w.heap.size≤b∧b<w'.heap.size) q [a0,a1,a2,a3]
def PartRf (L:List P) (p:Nat):Prop:=∀ (w:World) (A:Option Addr) (c:Nat),Reads w w.heap.size 1 A L.length (sv L)→Calls Tryz.prog 116 #[.slice A L.length c,.int .i64 (p:Int)] w (PrPost w L .part p)
def AndRf (L:List P) (p:Nat):Prop:=∀ (w:World) (A:Option Addr) (c:Nat),Reads w w.heap.size 1 A L.length (sv L)→Calls Tryz.prog 79 #[.slice A L.length c,.int .i64 (p:Int)] w (PrPost w L (.and []) p)
def OrRf (L:List P) (p:Nat):Prop:=∀ (w:World) (A:Option Addr) (c:Nat),Reads w w.heap.size 1 A L.length (sv L)→Calls Tryz.prog 42 #[.slice A L.length c,.int .i64 (p:Int)] w (PrPost w L (.or []) p)
def W1 (w:World):World:=w.alloc (.cells #[.int .i64 0,.string ByteArray.empty,.slice none 0 0,.slice none 0 0,.int .i64 0,.bool false] 96)
theorem W1_size (w:World):(W1 w).heap.size=w.heap.size+1:=by simp [W1]
theorem W1_blk (w:World):Blk (W1 w) w.heap.size 96 #[.int .i64 0,.string ByteArray.empty,.slice none 0 0,.slice none 0 0,.int .i64 0,.bool false]:=Blk.new w _ _
theorem W1_below (w:World):Below w.heap.size w (W1 w):=(Below.refl _ _).alloc (zG _) _
theorem sv_at {w:World} {B:Nat} {A:Option Addr} {L:List P} (h:Reads w B 1 A L.length (sv L)) {p:Nat} (hp:p<L.length):∃ b o,A=some ⟨b,o,none⟩∧b<B∧w.cell? ⟨b,o+p,none⟩=some (.string (str L[p])):=by
 obtain ⟨b,o,u,e,hb,hu,hc⟩:=h.at_ hp
 rw [sv_get L p hp] at hu
 injection hu with hu
 subst hu
 exact ⟨b,o,e,hb,hc⟩
set_option maxHeartbeats 1600000 in
theorem part_end (L:List P) (p:Nat) (hp:L.length≤p):PartRf L p:=by
 intro w A c hR
 have HH:Hid (R .part (L.drop p) none):=zh (by rw [List.drop_of_length_le hp]; exact .pnil)
 have hp':(L.length:Int)≤(p:Int):=by omega
 have c0:=no_ref (W1 w)
 have HB:=W1_blk w
 have Hb:=W1_below w
 have hz:=W1_size w
 unfold W1 at c0 HB Hb hz
 have HB0:=zh HB
 have Hb0:=zh Hb
 have Hz:=zh hz
 clear HB Hb hz hR hp
 generalize L.length=n at *
 go_enter Tryz.func116,Tryz.ntmps116
 go_wp2_with fail
 refine c0.mono ?_
 rintro e w2 ⟨rfl,hb⟩
 have B2:=HB0.out.below hb (by rw [Hz.out]; omega)
 have b2:=Hb0.out.trans (hb.mono (by rw [Hz.out]; omega))
 clear hb c0
 obtain ⟨q0,q1,q2,q3,q4,q5,f0,f1,f2,f3,f4,f5⟩:=B2.six
 have hX:=B2.set6 (.int .i64 0) (.string ⟨#[]⟩) (.slice none 0 0) (.slice none 0 0) (.int .i64 0) (.bool false)
 have Hbl:=zh (below_set6 b2 (zG _) (.int .i64 0) (.string ⟨#[]⟩) (.slice none 0 0) (.slice none 0 0) (.int .i64 0) (.bool false))
 have HX:=zh hX
 clear hX
 go_wp2_with fail
 refine bodyPost_ret (results_cell rfl rfl (run_loadVar_row _ w.heap.size 96 96 _ (0,0) _ HX.out Tryz.underlying96 rfl (by kernel_rfl))) rfl ?_
 exact ⟨_,_,_,_,_,_,rfl,⟨_,_,_,_,_,_,_,_,rfl⟩,Hbl.out,none,HH.out,rfl,(fun q r h=>by cases h)⟩
set_option maxHeartbeats 1600000 in
theorem partr_RP (L:List P) (p:Nat) (hp:p<L.length) (hL:L.length≤1048576) (hs1:L[p]=RP):PartRf L p:=by
 intro w A c hR
 have hp':(p:Int)<(L.length:Int):=by omega
 have hp0:(0:Int)≤(p:Int):=by omega
 have hLi:(L.length:Int)≤1048576:=by omega
 have HB:=W1_blk w
 have Hb:=W1_below w
 have hz:=W1_size w
 have hR1:=rgrow hR Hb
 obtain ⟨b,o,rfl,hbl,hc0⟩:=sv_at hR hp
 have hbne:b≠w.heap.size:=by omega
 have hd:L.drop p=L[p] :: L.drop (p+1):=List.drop_eq_getElem_cons hp
 have HR1:=zh hR1
 have hR0:=zh hR
 have HB0:=zh HB
 have Hb0:=zh Hb
 have Hz:=zh hz
 clear HB Hb hz hR hR1
 generalize hs0:L[p]=s at *
 have hs:s=RP:=hs1
 clear hs1
 have fNOT:((str s).toList == [78,79,84])=decide (s=NOT):=by rw [str_is]; rfl
 have fLP:((str s).toList == [40])=decide (s=LP):=by rw [str_is]; rfl
 have fRP:((str s).toList == [41])=decide (s=RP):=by rw [str_is]; rfl
 have fAND:((str s).toList == [65,78,68])=decide (s=AND):=by rw [str_is]; rfl
 have fOR:((str s).toList == [79,82])=decide (s=OR):=by rw [str_is]; rfl
 rw [show decide (s=NOT)=false from decide_eq_false (fun e=>by rw [e] at hs; exact absurd hs (by decide))] at fNOT
 rw [show decide (s=LP)=false from decide_eq_false (fun e=>by rw [e] at hs; exact absurd hs (by decide))] at fLP
 rw [show decide (s=RP)=true from decide_eq_true hs] at fRP
 rw [show decide (s=AND)=false from decide_eq_false (fun e=>by rw [e] at hs; exact absurd hs (by decide))] at fAND
 rw [show decide (s=OR)=false from decide_eq_false (fun e=>by rw [e] at hs; exact absurd hs (by decide))] at fOR
 have HH:Hid (R .part (L.drop p) none):=zh (by rw [hd]; exact .pbad (.inl hs))
 have c0:=no_ref (W1 w)
 unfold W1 at c0
 clear HR1
 clear hs0 hd hs
 unfold W1 at HB0 Hb0 Hz
 go_enter Tryz.func116,Tryz.ntmps116
 go_wp2_with fail
 refine c0.mono ?_
 rintro e w2 ⟨rfl,hb⟩
 have B2:=HB0.out.below hb (by rw [Hz.out]; omega)
 have b2:=Hb0.out.trans (hb.mono (by rw [Hz.out]; omega))
 clear hb c0 hc0
 obtain ⟨q0,q1,q2,q3,q4,q5,f0,f1,f2,f3,f4,f5⟩:=B2.six
 have hX:=B2.set6 (.int .i64 0) (.string ⟨#[]⟩) (.slice none 0 0) (.slice none 0 0) (.int .i64 0) (.bool false)
 have Hbl:=zh (below_set6 b2 (zG _) (.int .i64 0) (.string ⟨#[]⟩) (.slice none 0 0) (.slice none 0 0) (.int .i64 0) (.bool false))
 have HX:=zh hX
 clear hX
 go_wp2_with fail
 refine bodyPost_ret (results_cell rfl rfl (run_loadVar_row _ w.heap.size 96 96 _ (0,0) _ HX.out Tryz.underlying96 rfl (by kernel_rfl))) rfl ?_
 exact ⟨_,_,_,_,_,_,rfl,⟨_,_,_,_,_,_,_,_,rfl⟩,Hbl.out,none,HH.out,rfl,(fun q r h=>by cases h)⟩
set_option maxHeartbeats 1600000 in
theorem partr_AND (L:List P) (p:Nat) (hp:p<L.length) (hL:L.length≤1048576) (hs1:L[p]=AND):PartRf L p:=by
 intro w A c hR
 have hp':(p:Int)<(L.length:Int):=by omega
 have hp0:(0:Int)≤(p:Int):=by omega
 have hLi:(L.length:Int)≤1048576:=by omega
 have HB:=W1_blk w
 have Hb:=W1_below w
 have hz:=W1_size w
 have hR1:=rgrow hR Hb
 obtain ⟨b,o,rfl,hbl,hc0⟩:=sv_at hR hp
 have hbne:b≠w.heap.size:=by omega
 have hd:L.drop p=L[p] :: L.drop (p+1):=List.drop_eq_getElem_cons hp
 have HR1:=zh hR1
 have hR0:=zh hR
 have HB0:=zh HB
 have Hb0:=zh Hb
 have Hz:=zh hz
 clear HB Hb hz hR hR1
 generalize hs0:L[p]=s at *
 have hs:s=AND:=hs1
 clear hs1
 have fNOT:((str s).toList == [78,79,84])=decide (s=NOT):=by rw [str_is]; rfl
 have fLP:((str s).toList == [40])=decide (s=LP):=by rw [str_is]; rfl
 have fRP:((str s).toList == [41])=decide (s=RP):=by rw [str_is]; rfl
 have fAND:((str s).toList == [65,78,68])=decide (s=AND):=by rw [str_is]; rfl
 have fOR:((str s).toList == [79,82])=decide (s=OR):=by rw [str_is]; rfl
 rw [show decide (s=NOT)=false from decide_eq_false (fun e=>by rw [e] at hs; exact absurd hs (by decide))] at fNOT
 rw [show decide (s=LP)=false from decide_eq_false (fun e=>by rw [e] at hs; exact absurd hs (by decide))] at fLP
 rw [show decide (s=RP)=false from decide_eq_false (fun e=>by rw [e] at hs; exact absurd hs (by decide))] at fRP
 rw [show decide (s=AND)=true from decide_eq_true hs] at fAND
 rw [show decide (s=OR)=false from decide_eq_false (fun e=>by rw [e] at hs; exact absurd hs (by decide))] at fOR
 have HH:Hid (R .part (L.drop p) none):=zh (by rw [hd]; exact .pbad (.inr (.inl hs)))
 have c0:=no_ref (W1 w)
 unfold W1 at c0
 clear HR1
 clear hs0 hd hs
 unfold W1 at HB0 Hb0 Hz
 go_enter Tryz.func116,Tryz.ntmps116
 go_wp2_with fail
 refine c0.mono ?_
 rintro e w2 ⟨rfl,hb⟩
 have B2:=HB0.out.below hb (by rw [Hz.out]; omega)
 have b2:=Hb0.out.trans (hb.mono (by rw [Hz.out]; omega))
 clear hb c0 hc0
 obtain ⟨q0,q1,q2,q3,q4,q5,f0,f1,f2,f3,f4,f5⟩:=B2.six
 have hX:=B2.set6 (.int .i64 0) (.string ⟨#[]⟩) (.slice none 0 0) (.slice none 0 0) (.int .i64 0) (.bool false)
 have Hbl:=zh (below_set6 b2 (zG _) (.int .i64 0) (.string ⟨#[]⟩) (.slice none 0 0) (.slice none 0 0) (.int .i64 0) (.bool false))
 have HX:=zh hX
 clear hX
 go_wp2_with fail
 refine bodyPost_ret (results_cell rfl rfl (run_loadVar_row _ w.heap.size 96 96 _ (0,0) _ HX.out Tryz.underlying96 rfl (by kernel_rfl))) rfl ?_
 exact ⟨_,_,_,_,_,_,rfl,⟨_,_,_,_,_,_,_,_,rfl⟩,Hbl.out,none,HH.out,rfl,(fun q r h=>by cases h)⟩
set_option maxHeartbeats 1600000 in
theorem partr_OR (L:List P) (p:Nat) (hp:p<L.length) (hL:L.length≤1048576) (hs1:L[p]=OR):PartRf L p:=by
 intro w A c hR
 have hp':(p:Int)<(L.length:Int):=by omega
 have hp0:(0:Int)≤(p:Int):=by omega
 have hLi:(L.length:Int)≤1048576:=by omega
 have HB:=W1_blk w
 have Hb:=W1_below w
 have hz:=W1_size w
 have hR1:=rgrow hR Hb
 obtain ⟨b,o,rfl,hbl,hc0⟩:=sv_at hR hp
 have hbne:b≠w.heap.size:=by omega
 have hd:L.drop p=L[p] :: L.drop (p+1):=List.drop_eq_getElem_cons hp
 have HR1:=zh hR1
 have hR0:=zh hR
 have HB0:=zh HB
 have Hb0:=zh Hb
 have Hz:=zh hz
 clear HB Hb hz hR hR1
 generalize hs0:L[p]=s at *
 have hs:s=OR:=hs1
 clear hs1
 have fNOT:((str s).toList == [78,79,84])=decide (s=NOT):=by rw [str_is]; rfl
 have fLP:((str s).toList == [40])=decide (s=LP):=by rw [str_is]; rfl
 have fRP:((str s).toList == [41])=decide (s=RP):=by rw [str_is]; rfl
 have fAND:((str s).toList == [65,78,68])=decide (s=AND):=by rw [str_is]; rfl
 have fOR:((str s).toList == [79,82])=decide (s=OR):=by rw [str_is]; rfl
 rw [show decide (s=NOT)=false from decide_eq_false (fun e=>by rw [e] at hs; exact absurd hs (by decide))] at fNOT
 rw [show decide (s=LP)=false from decide_eq_false (fun e=>by rw [e] at hs; exact absurd hs (by decide))] at fLP
 rw [show decide (s=RP)=false from decide_eq_false (fun e=>by rw [e] at hs; exact absurd hs (by decide))] at fRP
 rw [show decide (s=AND)=false from decide_eq_false (fun e=>by rw [e] at hs; exact absurd hs (by decide))] at fAND
 rw [show decide (s=OR)=true from decide_eq_true hs] at fOR
 have HH:Hid (R .part (L.drop p) none):=zh (by rw [hd]; exact .pbad (.inr (.inr hs)))
 have c0:=no_ref (W1 w)
 unfold W1 at c0
 clear HR1
 clear hs0 hd hs
 unfold W1 at HB0 Hb0 Hz
 go_enter Tryz.func116,Tryz.ntmps116
 go_wp2_with fail
 refine c0.mono ?_
 rintro e w2 ⟨rfl,hb⟩
 have B2:=HB0.out.below hb (by rw [Hz.out]; omega)
 have b2:=Hb0.out.trans (hb.mono (by rw [Hz.out]; omega))
 clear hb c0 hc0
 obtain ⟨q0,q1,q2,q3,q4,q5,f0,f1,f2,f3,f4,f5⟩:=B2.six
 have hX:=B2.set6 (.int .i64 0) (.string ⟨#[]⟩) (.slice none 0 0) (.slice none 0 0) (.int .i64 0) (.bool false)
 have Hbl:=zh (below_set6 b2 (zG _) (.int .i64 0) (.string ⟨#[]⟩) (.slice none 0 0) (.slice none 0 0) (.int .i64 0) (.bool false))
 have HX:=zh hX
 clear hX
 go_wp2_with fail
 refine bodyPost_ret (results_cell rfl rfl (run_loadVar_row _ w.heap.size 96 96 _ (0,0) _ HX.out Tryz.underlying96 rfl (by kernel_rfl))) rfl ?_
 exact ⟨_,_,_,_,_,_,rfl,⟨_,_,_,_,_,_,_,_,rfl⟩,Hbl.out,none,HH.out,rfl,(fun q r h=>by cases h)⟩
set_option maxHeartbeats 3200000 in
theorem partr_leaf (L:List P) (p:Nat) (hp:p<L.length) (hL:L.length≤1048576) (hs1:word1 L[p]=true) (hpc:Pc L[p]) (hpl:L[p].length≤1048576):PartRf L p:=by
 intro w A c hR
 have hp':(p:Int)<(L.length:Int):=by omega
 have hp0:(0:Int)≤(p:Int):=by omega
 have hLi:(L.length:Int)≤1048576:=by omega
 have HB:=W1_blk w
 have Hb:=W1_below w
 have hz:=W1_size w
 have hR1:=rgrow hR Hb
 obtain ⟨b,o,rfl,hbl,hc0⟩:=sv_at hR hp
 have hbne:b≠w.heap.size:=by omega
 have hd:L.drop p=L[p] :: L.drop (p+1):=List.drop_eq_getElem_cons hp
 have HR1:=zh hR1
 have hR0:=zh hR
 have HB0:=zh HB
 have Hb0:=zh Hb
 have Hz:=zh hz
 clear HB Hb hz hR hR1
 generalize hs0:L[p]=s at *
 have hs:word1 s=true:=hs1
 have c0:=leaf_rf s hpc hpl (W1 w)
 clear hs1 hpc hpl
 have fNOT:((str s).toList == [78,79,84])=decide (s=NOT):=by rw [str_is]; rfl
 have fLP:((str s).toList == [40])=decide (s=LP):=by rw [str_is]; rfl
 have fRP:((str s).toList == [41])=decide (s=RP):=by rw [str_is]; rfl
 have fAND:((str s).toList == [65,78,68])=decide (s=AND):=by rw [str_is]; rfl
 have fOR:((str s).toList == [79,82])=decide (s=OR):=by rw [str_is]; rfl
 rw [show decide (s=NOT)=false from decide_eq_false (fun e=>by rw [e] at hs; exact absurd hs (by decide))] at fNOT
 rw [show decide (s=LP)=false from decide_eq_false (fun e=>by rw [e] at hs; exact absurd hs (by decide))] at fLP
 rw [show decide (s=RP)=false from decide_eq_false (fun e=>by rw [e] at hs; exact absurd hs (by decide))] at fRP
 rw [show decide (s=AND)=false from decide_eq_false (fun e=>by rw [e] at hs; exact absurd hs (by decide))] at fAND
 rw [show decide (s=OR)=false from decide_eq_false (fun e=>by rw [e] at hs; exact absurd hs (by decide))] at fOR
 have HH:Hid (R .part (L.drop p) ((leafQ s).map fun q=>(q,L.drop (p+1)))):=zh (by rw [hd]; exact .pleaf hs)
 unfold W1 at c0
 clear HR1
 clear hs0 hd hs
 unfold W1 at HB0 Hb0 Hz
 go_enter Tryz.func116,Tryz.ntmps116
 go_wp2_with fail
 generalize leafQ s=oq at *
 refine c0.mono ?_
 rintro e w2 ⟨a0,a1,a2,a3,rfl,⟨k',nm',A',n',c',C',m',d',e4⟩,hF,hb⟩
 simp only [List.cons.injEq,and_true] at e4
 obtain ⟨rfl,rfl,rfl,rfl⟩:=e4
 have B2:=HB0.out.below hb (by rw [Hz.out]; omega)
 have b2:=Hb0.out.trans (hb.mono (by rw [Hz.out]; omega))
 have hsz:w.heap.size+1≤w2.heap.size:=by have:=hb.size; rw [Hz.out] at this; exact this
 rw [Hz.out] at hF
 generalize hok:oq.isSome=ok
 have Hok:=zh hok
 clear hok
 have hbb:=(Below.refl w2.heap.size w2).alloc (zG _) (.cells #[.int .i64 k',.string nm',.slice A' n' c',.slice C' m' d'] 60)
 have HF0:=zh (fun q h=>(hF q h).grow hbb)
 have HB3:=zh (B2.alloc (.cells #[.int .i64 k',.string nm',.slice A' n' c',.slice C' m' d'] 60))
 have HBx:=zh (Blk.new w2 60 #[.int .i64 k',.string nm',.slice A' n' c',.slice C' m' d'])
 have Hb3:=zh (b2.alloc (by omega) (.cells #[.int .i64 k',.string nm',.slice A' n' c',.slice C' m' d'] 60))
 have hne2:w.heap.size≠w2.heap.size:=by omega
 clear hb c0 hc0 hF B2 b2 Hz HB0 Hb0 hbl hbne hbb
 go_upto_region 17 with (fail)
 generalize hw3:w2.alloc (.cells #[.int .i64 k',.string nm',.slice A' n' c',.slice C' m' d'] 60)=w3 at *
 clear hw3
 obtain ⟨x0,x1,x2,x3,_,_,_,_⟩:=HBx.out.four
 have HF:=zh (fun q h=>q_ret6 (w:=w) (a:=.int .i64 k') (b:=.string nm') (c:=.slice A' n' c') (d:=.slice C' m' d') (e:=.int .i64 ((p:Int)+1)) (f:=.bool ok) (HF0.out q h) (Nat.lt_succ_self _) (zG _))
 obtain ⟨q0,q1,q2,q3,q4,q5,f0,f1,f2,f3,f4,f5⟩:=HB3.out.six
 have hX:=HB3.out.set6 (.int .i64 k') (.string nm') (.slice A' n' c') (.slice C' m' d') (.int .i64 ((p:Int)+1)) (.bool ok)
 have Hbl:=zh (below_set6 Hb3.out (zG _) (.int .i64 k') (.string nm') (.slice A' n' c') (.slice C' m' d') (.int .i64 ((p:Int)+1)) (.bool ok))
 have HX:=zh hX
 clear hX
 go_wp2_with fail
 refine bodyPost_ret (results_cell rfl rfl (run_loadVar_row _ w.heap.size 96 96 _ (0,0) _ HX.out Tryz.underlying96 rfl (by kernel_rfl))) rfl ?_
 exact ⟨_,_,_,_,_,_,rfl,⟨_,_,_,_,_,_,_,_,rfl⟩,Hbl.out,_,HH.out,by rw [← Hok.out]; cases oq <;> rfl,(fun q r h=>by obtain ⟨q',h1,h2⟩:=Option.map_eq_some_iff.1 h; simp only [Prod.mk.injEq] at h2; obtain ⟨rfl,rfl⟩:=h2; exact ⟨p+1,by omega,by omega,rfl,HF.out q' h1⟩)⟩
theorem q_retR {w W:World} {g base:Nat} {q:Q} {vs:List Value} {cs:Array Value} (hF:QF W (fun x=>base≤x∧x<W.heap.size) q vs) (hb:g<base) (hw:w.heap.size≤g) :
  QF (W.setRow g cs) (fun x=>w.heap.size≤x∧x<(W.setRow g cs).heap.size) q vs :=
 (hF.keep fun x _ hS=>World.cell?_of_block (w:=W) (setRow_other W g x _ (by have:=hS.1; omega))).mono fun x hS=>⟨by have:=hS.1; omega,by simpa [World.setRow] using hS.2⟩
theorem notQ_at {w:World} {S:Nat→Prop} {q:Q} {a0 a1 a2 a3:Value} {nb:Nat} (h:QF w S q [a0,a1,a2,a3]) (hB:Blk w nb 60 #[a0,a1,a2,a3]) (hS:S nb):QF w S (notQ q) [.int .i64 7,.string ⟨#[]⟩,.slice none 0 0,.slice (some ⟨nb,0,none⟩) 1 1]:=by
 refine QF.mk (nm:=⟨#[]⟩) [[a0,a1,a2,a3]] rfl (by simpa using ReadsS.none_) rfl rfl (by simp) ⟨rfl,fun _=>⟨nb,0,rfl,hS,fun j u hu=>?_⟩⟩ (fun i hi hi'=>?_)
 ·rw [Nat.zero_add,hB.cell]
  simpa using hu
 ·have:i=0:=by simp at hi; exact hi
  subst this
  exact h
set_option maxHeartbeats 3200000 in
theorem partr_not (L:List P) (p:Nat) (hp:p<L.length) (hL:L.length≤1048576) (hs1:L[p]=NOT) (ih:PartRf L (p+1)):PartRf L p:=by
 intro w A c hR
 have hp':(p:Int)<(L.length:Int):=by omega
 have hp0:(0:Int)≤(p:Int):=by omega
 have hLi:(L.length:Int)≤1048576:=by omega
 have HB:=W1_blk w
 have Hb:=W1_below w
 have hz:=W1_size w
 have hR1:=rgrow hR Hb
 obtain ⟨b,o,rfl,hbl,hc0⟩:=sv_at hR hp
 have hbne:b≠w.heap.size:=by omega
 have hd:L.drop p=L[p] :: L.drop (p+1):=List.drop_eq_getElem_cons hp
 have HR1:=zh hR1
 have hR0:=zh hR
 have HB0:=zh HB
 have Hb0:=zh Hb
 have Hz:=zh hz
 clear HB Hb hz hR hR1
 generalize hs0:L[p]=s at *
 have hs:s=NOT:=hs1
 clear hs1
 have fNOT:((str s).toList == [78,79,84])=decide (s=NOT):=by rw [str_is]; rfl
 have fLP:((str s).toList == [40])=decide (s=LP):=by rw [str_is]; rfl
 have fRP:((str s).toList == [41])=decide (s=RP):=by rw [str_is]; rfl
 have fAND:((str s).toList == [65,78,68])=decide (s=AND):=by rw [str_is]; rfl
 have fOR:((str s).toList == [79,82])=decide (s=OR):=by rw [str_is]; rfl
 rw [show decide (s=NOT)=true from decide_eq_true hs] at fNOT
 rw [show decide (s=LP)=false from decide_eq_false (fun e=>by rw [e] at hs; exact absurd hs (by decide))] at fLP
 rw [show decide (s=RP)=false from decide_eq_false (fun e=>by rw [e] at hs; exact absurd hs (by decide))] at fRP
 rw [show decide (s=AND)=false from decide_eq_false (fun e=>by rw [e] at hs; exact absurd hs (by decide))] at fAND
 rw [show decide (s=OR)=false from decide_eq_false (fun e=>by rw [e] at hs; exact absurd hs (by decide))] at fOR
 have HH:Hid (∀ o,R .part (L.drop (p+1)) o→R .part (L.drop p) (o.map fun x=>(notQ x.1,x.2))):=zh (fun o h=>by rw [hd]; exact .pnot hs h)
 have c0:=ih (W1 w) _ c HR1.out
 have e9:(((p+1:Nat)):Int)=(p:Int)+1:=by omega
 rw [e9] at c0
 clear e9
 unfold W1 at c0
 clear HR1 ih
 clear hs0 hd hs
 unfold W1 at HB0 Hb0 Hz
 go_enter Tryz.func116,Tryz.ntmps116
 go_wp2_with fail
 refine c0.mono ?_
 rintro e w2 ⟨a0,a1,a2,a3,z,ok,rfl,⟨k',nm',A',n',c',C',m',d',e4⟩,hb,o',hRo,hok,hres⟩
 simp only [List.cons.injEq,and_true] at e4
 obtain ⟨rfl,rfl,rfl,rfl⟩:=e4
 have B2:=HB0.out.below hb (by rw [Hz.out]; omega)
 have b2:=Hb0.out.trans (hb.mono (by rw [Hz.out]; omega))
 have hsz:w.heap.size+1≤w2.heap.size:=by have:=hb.size; rw [Hz.out] at this; exact this
 rw [Hz.out] at hres
 have HRo:=zh hRo
 have Hok:=zh hok
 have HZ:=zh (fun q r h=>let ⟨k,h1,h2,h3,_⟩:=hres q r h; (⟨k,h1,h2,h3⟩:∃ k:Nat,z=(k:Int)∧k≤L.length∧r=L.drop k))
 have hq0:∀ q r,o'=some (q,r)→QF w2 (fun x=>w.heap.size+1≤x∧x<w2.heap.size) q [.int .i64 k',.string nm',.slice A' n' c',.slice C' m' d']:=fun q r h=>(hres q r h).choose_spec.2.2.2
 have hbb:=((Below.refl w2.heap.size w2).alloc (zG _) (.cells #[.int .i64 k',.string nm',.slice A' n' c',.slice C' m' d',.int .i64 z,.bool ok] 96)).alloc (by simp) (.cells #[.int .i64 k',.string nm',.slice A' n' c',.slice C' m' d'] 60)
 have hnb:=Blk.new (w2.alloc (.cells #[.int .i64 k',.string nm',.slice A' n' c',.slice C' m' d',.int .i64 z,.bool ok] 96)) 60 #[.int .i64 k',.string nm',.slice A' n' c',.slice C' m' d']
 rw [World.size_alloc] at hnb
 have hbx:=(Blk.new w2 96 #[.int .i64 k',.string nm',.slice A' n' c',.slice C' m' d',.int .i64 z,.bool ok])
 have HBx:=zh hbx
 have HB3:=zh ((B2.alloc (.cells #[.int .i64 k',.string nm',.slice A' n' c',.slice C' m' d',.int .i64 z,.bool ok] 96)).alloc (.cells #[.int .i64 k',.string nm',.slice A' n' c',.slice C' m' d'] 60))
 have Hb3:=zh (b2.trans (hbb.mono (by omega)))
 have hz3:(World.heap ((w2.alloc (.cells #[.int .i64 k',.string nm',.slice A' n' c',.slice C' m' d',.int .i64 z,.bool ok] 96)).alloc (.cells #[.int .i64 k',.string nm',.slice A' n' c',.slice C' m' d'] 60))).size=w2.heap.size+2:=by simp
 have hQ3:=fun q r h=>notQ_at ((hq0 q r h).grow hbb) hnb ⟨by omega,by rw [hz3]; omega⟩
 have hne2:w.heap.size≠w2.heap.size:=by omega
 have hne3:w.heap.size≠w2.heap.size+1:=by omega
 have HO:Hid (((w2.alloc (.cells #[.int .i64 k',.string nm',.slice A' n' c',.slice C' m' d',.int .i64 z,.bool ok] 96)).alloc (.cells #[.int .i64 k',.string nm',.slice A' n' c',.slice C' m' d'] 60)).heap[w.heap.size]?=some (.cells #[.int .i64 0,.string ByteArray.empty,.slice none 0 0,.slice none 0 0,.int .i64 0,.bool false] 96 (0,0))):=zh HB3.out
 have HX:=zh (setRow_heap _ w.heap.size _ #[.int .i64 7,.string ⟨#[]⟩,.slice none 0 0,.slice (some ⟨w2.heap.size+1,0,none⟩) 1 1,.int .i64 z,.bool ok] _ _ HO.out)
 have Hbl:=zh (below_setRow Hb3.out (zG _) #[.int .i64 7,.string ⟨#[]⟩,.slice none 0 0,.slice (some ⟨w2.heap.size+1,0,none⟩) 1 1,.int .i64 z,.bool ok])
 have HF:=zh (fun q r h=>q_retR (w:=w) (g:=w.heap.size) (cs:=#[.int .i64 7,.string ⟨#[]⟩,.slice none 0 0,.slice (some ⟨w2.heap.size+1,0,none⟩) 1 1,.int .i64 z,.bool ok]) (hQ3 q r h) (Nat.lt_succ_self _) (zG _))
 clear hb c0 hc0 hres hq0 B2 b2 Hz HB0 Hb0 hbl hbne hbb hnb hz3 hbx hRo hok hQ3
 go_wp2_with (refine wpList_store_row (o:=⟨none,.store 96 _ _,_,_,_,_⟩) rfl 96 _ _ rfl w.heap.size #[.int .i64 7,.string ⟨#[]⟩,.slice none 0 0,.slice (some ⟨w2.heap.size+1,0,none⟩) 1 1,.int .i64 z,.bool ok] rfl rfl 96 #[.int .i64 0,.string ByteArray.empty,.slice none 0 0,.slice none 0 0,.int .i64 0,.bool false] HO.out (by kernel_rfl) rfl (by simp [Value.oneCell']) ?_)
 refine bodyPost_ret (results_cell rfl rfl (run_loadVar_row _ w.heap.size 96 96 _ (0,0) _ HX.out Tryz.underlying96 rfl (by kernel_rfl))) rfl ?_
 exact ⟨_,_,_,_,_,_,rfl,⟨_,_,_,_,_,_,_,_,rfl⟩,Hbl.out,_,HH.out o' HRo.out,by rw [Hok.out]; cases o' <;> rfl,(fun q r h=>by
  obtain ⟨⟨q',r'⟩,h1,h2⟩:=Option.map_eq_some_iff.1 h
  simp only [Prod.mk.injEq] at h2
  obtain ⟨rfl,rfl⟩:=h2
  obtain ⟨k,h3,h4,h5⟩:=HZ.out q' r' h1
  exact ⟨k,h3,h4,h5,HF.out q' r' h1⟩)⟩
set_option maxHeartbeats 3200000 in
theorem partr_lp (L:List P) (p:Nat) (hp:p<L.length) (hL:L.length≤1048576) (hs1:L[p]=LP) (ih:OrRf L (p+1)):PartRf L p:=by
 intro w A c hR
 have hp':(p:Int)<(L.length:Int):=by omega
 have hp0:(0:Int)≤(p:Int):=by omega
 have hLi:(L.length:Int)≤1048576:=by omega
 have HB:=W1_blk w
 have Hb:=W1_below w
 have hz:=W1_size w
 have hR1:=rgrow hR Hb
 obtain ⟨b,o,rfl,hbl,hc0⟩:=sv_at hR hp
 have hbne:b≠w.heap.size:=by omega
 have hd:L.drop p=L[p] :: L.drop (p+1):=List.drop_eq_getElem_cons hp
 have HR1:=zh hR1
 have hR0:=zh hR
 have HB0:=zh HB
 have Hb0:=zh Hb
 have Hz:=zh hz
 clear HB Hb hz hR hR1
 generalize hs0:L[p]=s at *
 have hs:s=LP:=hs1
 clear hs1
 have fNOT:((str s).toList == [78,79,84])=decide (s=NOT):=by rw [str_is]; rfl
 have fLP:((str s).toList == [40])=decide (s=LP):=by rw [str_is]; rfl
 have fRP:((str s).toList == [41])=decide (s=RP):=by rw [str_is]; rfl
 have fAND:((str s).toList == [65,78,68])=decide (s=AND):=by rw [str_is]; rfl
 have fOR:((str s).toList == [79,82])=decide (s=OR):=by rw [str_is]; rfl
 rw [show decide (s=NOT)=false from decide_eq_false (fun e=>by rw [e] at hs; exact absurd hs (by decide))] at fNOT
 rw [show decide (s=LP)=true from decide_eq_true hs] at fLP
 rw [show decide (s=RP)=false from decide_eq_false (fun e=>by rw [e] at hs; exact absurd hs (by decide))] at fRP
 rw [show decide (s=AND)=false from decide_eq_false (fun e=>by rw [e] at hs; exact absurd hs (by decide))] at fAND
 rw [show decide (s=OR)=false from decide_eq_false (fun e=>by rw [e] at hs; exact absurd hs (by decide))] at fOR
 have HH:Hid (∀ o,R (.or []) (L.drop (p+1)) o→R .part (L.drop p) (closed o)):=zh (fun o h=>by rw [hd]; exact .plp hs h)
 have c0:=ih (W1 w) _ c HR1.out
 have e9:(((p+1:Nat)):Int)=(p:Int)+1:=by omega
 rw [e9] at c0
 have hcw:∀ k (hk:k<L.length),w.cell? ⟨b,o+k,none⟩=some (.string (str L[k])):=fun k hk=>by
  obtain ⟨b',o',e,_,h⟩:=sv_at hR0.out hk
  injection e with e
  injection e with e1 e2
  subst e1 e2
  exact h
 have Hcw:=zh hcw
 clear e9 hcw hR0
 unfold W1 at c0
 clear ih
 clear hs0 hd hs
 unfold W1 at HR1 HB0 Hb0 Hz
 go_enter Tryz.func116,Tryz.ntmps116
 go_wp2_with fail
 refine c0.mono ?_
 rintro e w2 ⟨a0,a1,a2,a3,z,ok,rfl,⟨k',nm',A',n',c',C',m',d',e4⟩,hb,o',hRo,hok,hres⟩
 simp only [List.cons.injEq,and_true] at e4
 obtain ⟨rfl,rfl,rfl,rfl⟩:=e4
 have B2:=HB0.out.below hb (by rw [Hz.out]; omega)
 have b2:=Hb0.out.trans (hb.mono (by rw [Hz.out]; omega))
 have hsz:w.heap.size+1≤w2.heap.size:=by have:=hb.size; rw [Hz.out] at this; exact this
 rw [Hz.out] at hres
 have HRo:=zh hRo
 have Hok:=zh hok
 clear hok
 have hbb:=(Below.refl w2.heap.size w2).alloc (zG _) (.cells #[.int .i64 k',.string nm',.slice A' n' c',.slice C' m' d',.int .i64 z,.bool ok] 96)
 have hbx:=Blk.new w2 96 #[.int .i64 k',.string nm',.slice A' n' c',.slice C' m' d',.int .i64 z,.bool ok]
 have HBx:=zh hbx
 have HB3:=zh (B2.alloc (.cells #[.int .i64 k',.string nm',.slice A' n' c',.slice C' m' d',.int .i64 z,.bool ok] 96))
 have Hb3:=zh (b2.trans (hbb.mono (by omega)))
 have HQ3:=zh (fun q r h=>((hres q r h).choose_spec.2.2.2).grow hbb)
 have HZ:=zh (fun q r h=>let ⟨k,h1,h2,h3,_⟩:=hres q r h; (⟨k,h1,h2,h3⟩:∃ k:Nat,z=(k:Int)∧k≤L.length∧r=L.drop k))
 have hz3:w2.heap.size<(w2.alloc (.cells #[.int .i64 k',.string nm',.slice A' n' c',.slice C' m' d',.int .i64 z,.bool ok] 96)).heap.size:=by simp
 clear hb c0 hc0 hres B2 b2 HB0 Hb0 hbb hbx hRo HR1
 go_upto_region 9 with (fail)
 generalize hw3:w2.alloc (.cells #[.int .i64 k',.string nm',.slice A' n' c',.slice C' m' d',.int .i64 z,.bool ok] 96)=w3 at *
 clear hw3
 obtain ⟨x0,x1,x2,x3,x4,x5,_,_,_,_,_,_⟩:=HBx.out.six
 match o',Hok,HRo,HQ3,HZ with
 | none,Hok,HRo,HQ3,HZ =>
  have HHn:=zh (HH.out _ HRo.out)
  obtain rfl:ok=false:=Hok.out
  have c9:=no_ref w3
  clear HQ3
  go_wp2_with fail
  refine c9.mono ?_
  rintro e w4 ⟨rfl,hb4⟩
  have B4:=HB3.out.below hb4 (by omega)
  have b4:=Hb3.out.trans (hb4.mono (by omega))
  clear hb4 c9
  have HO:Hid ((World.heap w4)[w.heap.size]?=some (.cells #[.int .i64 0,.string ByteArray.empty,.slice none 0 0,.slice none 0 0,.int .i64 0,.bool false] 96 (0,0))):=zh B4
  have HX:=zh (setRow_heap _ w.heap.size _ #[.int .i64 0,.string ⟨#[]⟩,.slice none 0 0,.slice none 0 0,.int .i64 0,.bool false] _ _ HO.out)
  have Hbl:=zh (below_setRow b4 (zG _) #[.int .i64 0,.string ⟨#[]⟩,.slice none 0 0,.slice none 0 0,.int .i64 0,.bool false])
  go_wp2_with (refine wpList_store_row (o:=⟨none,.store 96 _ _,_,_,_,_⟩) rfl 96 _ _ rfl w.heap.size #[.int .i64 0,.string ⟨#[]⟩,.slice none 0 0,.slice none 0 0,.int .i64 0,.bool false] rfl rfl 96 #[.int .i64 0,.string ByteArray.empty,.slice none 0 0,.slice none 0 0,.int .i64 0,.bool false] HO.out (by kernel_rfl) rfl (by simp [Value.oneCell']) ?_)
  refine bodyPost_ret (results_cell rfl rfl (run_loadVar_row _ w.heap.size 96 96 _ (0,0) _ HX.out Tryz.underlying96 rfl (by kernel_rfl))) rfl ?_
  exact ⟨_,_,_,_,_,_,rfl,⟨_,_,_,_,_,_,_,_,rfl⟩,Hbl.out,none,HHn.out,rfl,(fun q r h=>by cases h)⟩
 | some (q,r),Hok,HRo,HQ3,HZ =>
  obtain rfl:ok=true:=Hok.out
  obtain ⟨k,rfl,hk,rfl⟩:=HZ.out q r rfl
  have hk0:(0:Int)≤(k:Int):=by omega
  by_cases hkl:k<L.length
  ·have hki:(k:Int)<(L.length:Int):=by omega
   have hcx:=((Hb3.out.cell (p:=⟨b,o+k,none⟩) hbl).trans (Hcw.out k hkl))
   have hdk:L.drop k=L[k] :: L.drop (k+1):=List.drop_eq_getElem_cons hkl
   by_cases hrp:L[k]=RP
   ·have f41:((str L[k]).toList == [41])=true:=by rw [str_is]; exact decide_eq_true hrp
    have f41':((str L[k]).toList != [41])=false:=by rw [bne,f41]; rfl
    have HHn:Hid (R .part (L.drop p) (some (q,L.drop (k+1)))):=zh (by
     have:=HH.out _ HRo.out
     rw [hdk] at this
     rw [show closed (some (q,L[k] :: L.drop (k+1)))=some (q,L.drop (k+1)) from if_pos hrp] at this
     exact this)
    have HF:=zh (q_retR (w:=w) (g:=w.heap.size) (cs:=#[.int .i64 k',.string nm',.slice A' n' c',.slice C' m' d',.int .i64 ((k:Int)+1),.bool true]) (HQ3.out q _ rfl) (Nat.lt_succ_self _) (zG _))
    clear hdk hrp HQ3
    generalize L[k]=s' at *
    have HO:Hid ((World.heap w3)[w.heap.size]?=some (.cells #[.int .i64 0,.string ByteArray.empty,.slice none 0 0,.slice none 0 0,.int .i64 0,.bool false] 96 (0,0))):=zh HB3.out
    have HX:=zh (setRow_heap _ w.heap.size _ #[.int .i64 k',.string nm',.slice A' n' c',.slice C' m' d',.int .i64 ((k:Int)+1),.bool true] _ _ HO.out)
    have Hbl:=zh (below_setRow Hb3.out (zG _) #[.int .i64 k',.string nm',.slice A' n' c',.slice C' m' d',.int .i64 ((k:Int)+1),.bool true])
    go_wp2_with (refine wpList_store_row (o:=⟨none,.store 96 _ _,_,_,_,_⟩) rfl 96 _ _ rfl w.heap.size #[.int .i64 k',.string nm',.slice A' n' c',.slice C' m' d',.int .i64 ((k:Int)+1),.bool true] rfl rfl 96 #[.int .i64 0,.string ByteArray.empty,.slice none 0 0,.slice none 0 0,.int .i64 0,.bool false] HO.out (by kernel_rfl) rfl (by simp [Value.oneCell']) ?_)
    refine bodyPost_ret (results_cell rfl rfl (run_loadVar_row _ w.heap.size 96 96 _ (0,0) _ HX.out Tryz.underlying96 rfl (by kernel_rfl))) rfl ?_
    exact ⟨_,_,_,_,_,_,rfl,⟨_,_,_,_,_,_,_,_,rfl⟩,Hbl.out,_,HHn.out,rfl,(fun q' r' h=>by injection h with h; simp only [Prod.mk.injEq] at h; obtain ⟨rfl,rfl⟩:=h; exact ⟨k+1,by omega,by omega,rfl,HF.out⟩)⟩
   ·have f41:((str L[k]).toList == [41])=false:=by rw [str_is]; exact decide_eq_false hrp
    have f41':((str L[k]).toList != [41])=true:=by rw [bne,f41]; rfl
    have HHn:Hid (R .part (L.drop p) none):=zh (by
     have:=HH.out _ HRo.out
     rw [hdk] at this
     rw [show closed (some (q,L[k] :: L.drop (k+1)))=none from if_neg hrp] at this
     exact this)
    clear hdk hrp
    generalize L[k]=s' at *
    have c9:=no_ref w3
    clear HQ3
    go_wp2_with fail
    refine c9.mono ?_
    rintro e w4 ⟨rfl,hb4⟩
    have B4:=HB3.out.below hb4 (by omega)
    have b4:=Hb3.out.trans (hb4.mono (by omega))
    clear hb4 c9
    have HO:Hid ((World.heap w4)[w.heap.size]?=some (.cells #[.int .i64 0,.string ByteArray.empty,.slice none 0 0,.slice none 0 0,.int .i64 0,.bool false] 96 (0,0))):=zh B4
    have HX:=zh (setRow_heap _ w.heap.size _ #[.int .i64 0,.string ⟨#[]⟩,.slice none 0 0,.slice none 0 0,.int .i64 0,.bool false] _ _ HO.out)
    have Hbl:=zh (below_setRow b4 (zG _) #[.int .i64 0,.string ⟨#[]⟩,.slice none 0 0,.slice none 0 0,.int .i64 0,.bool false])
    go_wp2_with (refine wpList_store_row (o:=⟨none,.store 96 _ _,_,_,_,_⟩) rfl 96 _ _ rfl w.heap.size #[.int .i64 0,.string ⟨#[]⟩,.slice none 0 0,.slice none 0 0,.int .i64 0,.bool false] rfl rfl 96 #[.int .i64 0,.string ByteArray.empty,.slice none 0 0,.slice none 0 0,.int .i64 0,.bool false] HO.out (by kernel_rfl) rfl (by simp [Value.oneCell']) ?_)
    refine bodyPost_ret (results_cell rfl rfl (run_loadVar_row _ w.heap.size 96 96 _ (0,0) _ HX.out Tryz.underlying96 rfl (by kernel_rfl))) rfl ?_
    exact ⟨_,_,_,_,_,_,rfl,⟨_,_,_,_,_,_,_,_,rfl⟩,Hbl.out,none,HHn.out,rfl,(fun q r h=>by cases h)⟩
  ·have hki:(L.length:Int)≤(k:Int):=by omega
   have HHn:Hid (R .part (L.drop p) none):=zh (by
    have:=HH.out _ HRo.out
    rw [List.drop_of_length_le (show L.length≤k by omega)] at this
    exact this)
   have c9:=no_ref w3
   clear HQ3
   go_wp2_with fail
   refine c9.mono ?_
   rintro e w4 ⟨rfl,hb4⟩
   have B4:=HB3.out.below hb4 (by omega)
   have b4:=Hb3.out.trans (hb4.mono (by omega))
   clear hb4 c9
   have HO:Hid ((World.heap w4)[w.heap.size]?=some (.cells #[.int .i64 0,.string ByteArray.empty,.slice none 0 0,.slice none 0 0,.int .i64 0,.bool false] 96 (0,0))):=zh B4
   have HX:=zh (setRow_heap _ w.heap.size _ #[.int .i64 0,.string ⟨#[]⟩,.slice none 0 0,.slice none 0 0,.int .i64 0,.bool false] _ _ HO.out)
   have Hbl:=zh (below_setRow b4 (zG _) #[.int .i64 0,.string ⟨#[]⟩,.slice none 0 0,.slice none 0 0,.int .i64 0,.bool false])
   go_wp2_with (refine wpList_store_row (o:=⟨none,.store 96 _ _,_,_,_,_⟩) rfl 96 _ _ rfl w.heap.size #[.int .i64 0,.string ⟨#[]⟩,.slice none 0 0,.slice none 0 0,.int .i64 0,.bool false] rfl rfl 96 #[.int .i64 0,.string ByteArray.empty,.slice none 0 0,.slice none 0 0,.int .i64 0,.bool false] HO.out (by kernel_rfl) rfl (by simp [Value.oneCell']) ?_)
   refine bodyPost_ret (results_cell rfl rfl (run_loadVar_row _ w.heap.size 96 96 _ (0,0) _ HX.out Tryz.underlying96 rfl (by kernel_rfl))) rfl ?_
   exact ⟨_,_,_,_,_,_,rfl,⟨_,_,_,_,_,_,_,_,rfl⟩,Hbl.out,none,HHn.out,rfl,(fun q r h=>by cases h)⟩
end Go.Proofs.YtmomjpolkkbhnaaGreat.Qp


