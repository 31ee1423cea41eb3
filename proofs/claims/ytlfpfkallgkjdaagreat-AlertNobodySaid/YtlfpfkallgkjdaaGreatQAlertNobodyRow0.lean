/- Short names for facts that are named often. -/
import Derived.Lib.Hide
import Derived.Lib.SmallJoins
import Derived.Deep.Slices
import Derived.Deep.Strs
import Derived.Test.YtlfpfkallgkjdaaGreatPkAlertManyRow37
import Derived.Test.YtlfpfkallgkjdaaGreatPkAlertManyRow38
import Derived.Test.YtlfpfkallgkjdaaGreatPkAlertManyRow11
import Derived.Test.YtlfpfkallgkjdaaGreatPkAlertManyRow0
set_option linter.unusedSimpArgs false
set_option linter.unusedVariables false
set_option maxRecDepth 100000
section
namespace Go.Proofs.YtlfpfkallgkjdaaGreat
open Go.RowKit
theorem zh {p : Prop} (h : p) : RowKit.Hid p := h
theorem zA.{u} {α : Type u} {xs : List α} {i : Nat} : xs.toArray[i]? = xs[i]? := List.getElem?_toArray
theorem zB.{u} {α : Type u} {a : α} {l : List α} : (a :: l)[0]? = some a := rfl
theorem zC.{u} {α : Type u} {a : α} {i : Nat} {l : List α} : (a :: l)[i + 1]? = l[i]? := rfl
theorem zD.{u} {α : Type u} (l : List α) (i : Nat) (a : α) : l.toArray.setIfInBounds i a = (l.set i a).toArray := List.setIfInBounds_toArray l i a
theorem zE.{u} {α : Type u} {x : α} {xs : List α} {a : α} : (x :: xs).set 0 a = a :: xs := rfl
theorem zF.{u} {α : Type u} {x : α} {xs : List α} {i : Nat} {a : α} : (x :: xs).set (i + 1) a = x :: xs.set i a := rfl
theorem zG (n : Nat) : n ≤ n := Nat.le_refl n
end Go.Proofs.YtlfpfkallgkjdaaGreat
end

section
namespace Go.Proofs.YtlfpfkallgkjdaaGreat.Al
open Go.RowKit Go.Maps Ut Tk Qy Qp Ev Mv
def NobV (w:World) (v:Value):Prop:=v=.pointer none∨∃ X,v=.pointer (some ⟨X,0,none⟩)∧X<w.heap.size∧w.cell? ⟨X,0,none⟩=some (.map none)
theorem NobV.below {w w':World} {v:Value} (h:NobV w v) (hb:Below w.heap.size w w'):NobV w' v:=by
 rcases h with h | ⟨X,h1,h2,h3⟩
 ·exact .inl h
 ·exact .inr ⟨X,h1,Nat.lt_of_lt_of_le h2 hb.size,(hb.cell (p:=⟨X,0,none⟩) h2).trans h3⟩
theorem none_nob {w:World} {v:Value} (h:NobV w v):Calls Tryz.prog 33 #[v] w fun e w'=>e=.returned (.bool true)∧w=w':=by
 rcases h with rfl | ⟨X,rfl,h2,h3⟩
 ·exact none_nil w
 ·exact none_zero X w h3
theorem put_nob {w:World} {v:Value} (h:NobV w v) (i:Int) (s:ByteArray) :
  Calls Tryz.prog 10 #[v,.int .i64 i,.string s] w fun e w'=>e=.returned (.int .i64 4)∧Below w.heap.size w w':=by
 have c1:=none_nob h
 go_enter Tryz.func10,Tryz.ntmps10
 go_wp2_with fail
 refine c1.mono ?_
 rintro e w2 ⟨rfl,rfl⟩
 clear c1
 go_wp2
 go_ret
 exact ⟨rfl,Below.refl _ _⟩
theorem len_nob {w:World} {v:Value} (h:NobV w v)  :
  Calls Tryz.prog 11 #[v] w fun e w'=>e=.returned (.int .i64 0)∧Below w.heap.size w w':=by
 have c1:=none_nob h
 go_enter Tryz.func11,Tryz.ntmps11
 go_wp2_with fail
 refine c1.mono ?_
 rintro e w2 ⟨rfl,rfl⟩
 clear c1
 go_wp2
 go_ret
 exact ⟨rfl,Below.refl _ _⟩
theorem query_nob {w:World} {v:Value} (h:NobV w v) (i:Int) :
  Calls Tryz.prog 25 #[v,.int .i64 i] w fun e w'=>e=.returned (.tuple #[.string ⟨#[]⟩,.bool false])∧Below w.heap.size w w':=by
 have c1:=none_nob h
 go_enter Tryz.func25,Tryz.ntmps25
 go_wp2_with fail
 refine c1.mono ?_
 rintro e w2 ⟨rfl,rfl⟩
 clear c1
 go_wp2
 go_ret2
 exact ⟨rfl,Below.refl _ _⟩
theorem ids_nob {w:World} {v:Value} (h:NobV w v)  :
  Calls Tryz.prog 27 #[v] w fun e w'=>e=.returned (.slice none 0 0)∧Below w.heap.size w w':=by
 have c1:=none_nob h
 go_enter Tryz.func27,Tryz.ntmps27
 go_wp2_with fail
 refine c1.mono ?_
 rintro e w2 ⟨rfl,rfl⟩
 clear c1
 go_wp2
 go_ret
 exact ⟨rfl,Below.refl _ _⟩
theorem fork_nob {w:World} {v:Value} (h:NobV w v)  :
  Calls Tryz.prog 32 #[v] w fun e w'=>e=.returned (.pointer none)∧Below w.heap.size w w':=by
 have c1:=none_nob h
 go_enter Tryz.func32,Tryz.ntmps32
 go_wp2_with fail
 refine c1.mono ?_
 rintro e w2 ⟨rfl,rfl⟩
 clear c1
 go_wp2
 go_ret
 exact ⟨rfl,Below.refl _ _⟩
theorem near_nob {w:World} {v:Value} (h:NobV w v) (t:Int) (F:Option Addr) (fn fc:Nat) :
  Calls Tryz.prog 16 #[v,.agg #[.int .i64 t,.slice F fn fc]] w fun e w'=>e=.returned (.slice none 0 0)∧Below w.heap.size w w':=by
 have hb1:Below w.heap.size w (w.alloc (.cells #[.int .i64 t,.slice F fn fc] 33)):=(Below.refl _ _).alloc (zG _) _
 have HB1:=zh hb1
 have H:=zh h
 clear hb1 h
 go_enter Tryz.func16,Tryz.ntmps16
 go_upto_region 1 with (fail)
 generalize w.alloc (.cells #[.int .i64 t,.slice F fn fc] 33)=w1 at *
 have c1:=none_nob (H.out.below HB1.out)
 go_wp2_with fail
 refine c1.mono ?_
 rintro e w2 ⟨rfl,rfl⟩
 clear c1
 go_wp2
 go_ret
 exact ⟨rfl,HB1.out⟩
theorem batch_nob {w:World} {v:Value} (h:NobV w v) (sq:Int) (E:Option Addr) (m q:Nat) :
  Calls Tryz.prog 30 #[v,.agg #[.int .i64 sq,.slice E m q]] w fun e w'=>e=.returned (.tuple #[.slice none 0 0,.int .i64 4])∧Below w.heap.size w w':=by
 have hb1:Below w.heap.size w (w.alloc (.cells #[.int .i64 sq,.slice E m q] 69)):=(Below.refl _ _).alloc (zG _) _
 have HB1:=zh hb1
 have H:=zh h
 clear hb1 h
 go_enter Tryz.func30,Tryz.ntmps30
 go_upto_region 1 with (fail)
 generalize w.alloc (.cells #[.int .i64 sq,.slice E m q] 69)=w1 at *
 have c1:=none_nob (H.out.below HB1.out)
 go_wp2_with fail
 refine c1.mono ?_
 rintro e w2 ⟨rfl,rfl⟩
 clear c1
 go_wp2
 go_ret2
 exact ⟨rfl,HB1.out⟩
theorem drop_nob {w:World} {v:Value} (h:NobV w v) (A:Option Addr) (n c:Nat) (ids:List Int) (hR:Reads w w.heap.size 1 A n (itv ids)) (hn:ids.length=n) (hn2:n≤4294967296) :
  Calls Tryz.prog 12 #[v,.slice A n c] w fun e w'=>e=.returned (.int .i64 0)∧Below w.heap.size w w':=by
 have H:=zh h
 have HR:=zh hR
 clear h hR
 go_enter Tryz.func12,Tryz.ntmps12
 go_wp2_with fail
 go_loopw [5,10] (fun x i wr=>∃ k:Nat,k≤n∧i=.int .i64 k∧x=.int .i64 0∧Hid (w=wr)) (fun _ i _=>n - (intOf i).toNat)
 case atStart=>exact ⟨0,Nat.zero_le _,rfl,rfl,zh rfl⟩
 case round =>
  obtain ⟨k,hk,rfl,rfl,hw⟩:=hrel
  have hw:=hw.out
  subst hw
  by_cases hlt:k<n
  ·have hki:(k:Int)<(n:Int):=by omega
   have hk0:(0:Int)≤(k:Int):=by omega
   obtain ⟨b,o,rfl,hb,hc⟩:=HR.out.2 (by omega)
   have y0:=hc k _ (itv_get ids k (by omega))
   clear hc
   have c1:=none_nob H.out
   go_wp2_with fail
   refine c1.mono ?_
   rintro e w2 ⟨rfl,rfl⟩
   clear c1
   go_wp2_with fail
   go_roundw
   case rel=>exact ⟨k+1,by omega,by go_num,rfl,by first | exact zh rfl | exact zh trivial⟩
   case measure=>simp [intOf]; omega
  ·obtain rfl:k=n:=by omega
   go_wp2
   go_ret
   exact ⟨rfl,Below.refl _ _⟩
theorem ask_nob {w:World} {v:Value} (h:NobV w v) (t:Int) (F:Option Addr) (fn fc:Nat) :
  Calls Tryz.prog 17 #[v,.agg #[.int .i64 t,.slice F fn fc]] w (NumsP w []):=by
 have hb1:Below w.heap.size w (w.alloc (.cells #[v] 22)):=(Below.refl _ _).alloc (zG _) _
 have hb2:Below (w.alloc (.cells #[v] 22)).heap.size (w.alloc (.cells #[v] 22)) ((w.alloc (.cells #[v] 22)).alloc (.cells #[.int .i64 t,.slice F fn fc] 33)):=(Below.refl _ _).alloc (zG _) _
 have hx1:=(Blk.new w 22 #[v]).below hb2 (by simp)
 have hx2:=Blk.new (w.alloc (.cells #[v] 22)) 33 #[.int .i64 t,.slice F fn fc]
 have hsz:(w.alloc (.cells #[v] 22)).heap.size=w.heap.size+1:=by simp
 rw [hsz] at hx2
 have hb:=hb1.trans (hb2.mono (by omega))
 have HX1:=zh hx1
 have HX2:=zh hx2
 have HB:=zh hb
 have H:=zh h
 clear hb1 hb2 hx1 hx2 hb h hsz
 have hv1:v.oneCell':=by
  rcases H.out with rfl | ⟨X,rfl,_⟩ <;> rfl
 rcases H.out with rfl | ⟨X,rfl,_⟩
 all_goals (
  go_enter Tryz.func17,Tryz.ntmps17
  go_upto_region 1 with (fail)
  first
   | generalize ((w.alloc (.cells #[.pointer none] 22)).alloc (.cells #[.int .i64 t,.slice F fn fc] 33))=w1 at *
   | generalize ((w.alloc (.cells #[.pointer (some ⟨X,0,none⟩)] 22)).alloc (.cells #[.int .i64 t,.slice F fn fc] 33))=w1 at *
  have g1:=HX1.out.cell 0
  have g2:=HX2.out.cell 0
  have g3:=HX2.out.cell 1
  simp only [zA,zB,zC] at g1 g2 g3
  have c1:=near_nob (H.out.below HB.out) t F fn fc
  go_wp2_with fail
  refine c1.mono ?_
  rintro e w2 ⟨rfl,hbw⟩
  have hsz:=HB.out.size
  have hown:w2.ownsRow w.heap.size 3 1 (.slice none 0 0) ([]:List Int).length (itv []):=World.ownsRow_nil _ _ _ _
  have CD:=del_any (w:=w2) hown (by simp) 45 #[.pointer (some ⟨w.heap.size,0,none⟩),.pointer (some ⟨w.heap.size+1,0,none⟩)] (fun _=>false) (callFunc_enter Tryz.func45 (by kernel_rfl) rfl) (fun x hx=>nomatch hx)
  have HCD:=zh CD
  have HBW:=zh hbw
  clear CD hbw hown c1 g1 g2 g3
  go_wp2_with fail
  refine HCD.out.mono ?_
  rintro e w3 ⟨v3,rfl,ho3,hg3,hob3⟩
  have FIN:Hid (NumsP w [] (.returned v3) w3):=zh ⟨v3,rfl,ho3,(HB.out.trans (HBW.out.mono hsz)).grown hg3 (by have:=HBW.out.size; omega) (fun b hb=>nomatch hb)⟩
  clear ho3 hg3 hob3
  go_wp2
  go_ret
  exact FIN.out)
end Go.Proofs.YtlfpfkallgkjdaaGreat.Al
end

section
namespace Go.Proofs.YtlfpfkallgkjdaaGreat.Al
open Go.RowKit Go.Maps Ut Tk Qy Qp Ev Mv
theorem rows_of {w w' wx:World} {L:List Int} {v:Value} (h:w'.ownsRow w.heap.size 3 1 v L.length (itv L)) (hb:Below w'.heap.size w' wx):∃ A c,v=.slice A L.length c∧Reads wx wx.heap.size 1 A L.length (itv L):=by
 obtain ⟨A,c,rfl,hR,hc,hn,_⟩:=Ev.own_shape2 h
 exact ⟨A,c,rfl,(hR.keep fun _ _ hp=>hb.cell hp).more hb.size⟩
theorem nob_start (w:World) (a b c:Array Value) :
  Blk ((((w.alloc (.cells a 60)).alloc (.cells b 33)).alloc (.cells c 69)).alloc (.cells #[.map none,.map none] 86)) w.heap.size 60 a ∧
  Blk ((((w.alloc (.cells a 60)).alloc (.cells b 33)).alloc (.cells c 69)).alloc (.cells #[.map none,.map none] 86)) (w.heap.size+1) 33 b ∧
  Blk ((((w.alloc (.cells a 60)).alloc (.cells b 33)).alloc (.cells c 69)).alloc (.cells #[.map none,.map none] 86)) (w.heap.size+2) 69 c ∧
  Blk ((((w.alloc (.cells a 60)).alloc (.cells b 33)).alloc (.cells c 69)).alloc (.cells #[.map none,.map none] 86)) (w.heap.size+3) 86 #[.map none,.map none] ∧
  Below w.heap.size w ((((w.alloc (.cells a 60)).alloc (.cells b 33)).alloc (.cells c 69)).alloc (.cells #[.map none,.map none] 86)) ∧
  ((((w.alloc (.cells a 60)).alloc (.cells b 33)).alloc (.cells c 69)).alloc (.cells #[.map none,.map none] 86)).heap.size=w.heap.size+4:=by
 have k1:=Blk.new w 60 a
 have k2:=Blk.new (w.alloc (.cells a 60)) 33 b
 have k3:=Blk.new ((w.alloc (.cells a 60)).alloc (.cells b 33)) 69 c
 have k4:=Blk.new (((w.alloc (.cells a 60)).alloc (.cells b 33)).alloc (.cells c 69)) 86 #[.map none,.map none]
 simp only [World.size_alloc] at k2 k3 k4
 refine ⟨((k1.alloc _).alloc _).alloc _,(k2.alloc _).alloc _,k3.alloc _,k4,((((Below.refl _ _).alloc (zG _) _).alloc (by simp) _).alloc (by simp; omega) _).alloc (by simp; omega) _,by simp⟩
set_option maxHeartbeats 12800000 in
theorem nobody_any (d id:Int) (s:ByteArray) (I:Option Addr) (m mc:Nat) (t:Int) (F:Option Addr) (fn fc:Nat) (sq:Int) (E:Option Addr) (n c:Nat) (w:World) :
  Calls Tryz.prog 8 #[.agg #[.int .u8 d,.int .i64 id,.string s,.slice I m mc],.agg #[.int .i64 t,.slice F fn fc],.agg #[.int .i64 sq,.slice E n c]] w fun e w'=>e=.returned (.bool true)∧Below w.heap.size w w':=by
 go_enter Tryz.func8,Tryz.ntmps8
 go_upto_region 3 with (fail)
 obtain ⟨W,hW⟩:∃ W,((((w.alloc (.cells #[.int .u8 d,.int .i64 id,.string s,.slice I m mc] 60)).alloc (.cells #[.int .i64 t,.slice F fn fc] 33)).alloc (.cells #[.int .i64 sq,.slice E n c] 69)).alloc (.cells #[.map none,.map none] 86))=W:=⟨_,rfl⟩
 have hp:=nob_start w #[.int .u8 d,.int .i64 id,.string s,.slice I m mc] #[.int .i64 t,.slice F fn fc] #[.int .i64 sq,.slice E n c]
 rw [hW] at hp
 rw [hW]
 clear hW
 obtain ⟨p1,p2,p3,p4,p5,p6⟩:=hp
 first
  | (obtain ⟨V,hV⟩:∃ V,W.alloc (.cells #[.pointer none,.pointer (some ⟨w.heap.size+3,0,none⟩)] 22)=V:=⟨_,rfl⟩; rw [hV])
  | (obtain ⟨V,hV⟩:∃ V,W.alloc (.cells #[.pointer none,.pointer (some ⟨w.heap.size+1+1+1,0,none⟩)] 22)=V:=⟨_,rfl⟩; rw [hV])
 have hb5:Below W.heap.size W V:=by rw [← hV]; exact (Below.refl _ _).alloc (zG _) _
 have hk5:Blk V W.heap.size 22 #[.pointer none,.pointer (some ⟨w.heap.size+3,0,none⟩)]:=by rw [← hV]; exact Blk.new _ _ _
 rw [p6] at hk5
 have HB:=zh (p5.trans (hb5.mono p5.size))
 have HX0:=zh (p1.below hb5 p1.lt)
 have HX1:=zh (p2.below hb5 p2.lt)
 have HX2:=zh (p3.below hb5 p3.lt)
 have HX3:=zh (p4.below hb5 p4.lt)
 have HX4:=zh hk5
 clear p1 p2 p3 p4 p5 hb5 hk5 hV
 try rw [p6]
 go_wp2_with fail
 go_loopw [9] (fun i wr=>∃ k:Nat,k≤2∧i=.int .i64 k∧Hid (Below V.heap.size V wr)) (fun i _=>2 - (intOf i).toNat)
 case atStart=>exact ⟨0,by omega,rfl,zh (Below.refl _ _)⟩
 case round =>
  obtain ⟨k,hk,rfl,hB⟩:=hrel
  have hBw:=zh (HB.out.trans (hB.out.mono HB.out.size))
  by_cases hlt:k<2
  ·have hki:(k:Int)<2:=by omega
   have hk0:(0:Int)≤(k:Int):=by omega
   obtain ⟨v,hv,hvn⟩:∃ v:Value,(∀ wx,Below wr.heap.size wr wx→wx.cell? ⟨w.heap.size+4,k,none⟩=some v)∧NobV wr v:=by
    have r4:=HX4.out.below hB.out HX4.out.lt
    have r3:=HX3.out.below hB.out HX3.out.lt
    have e0:=r4.cell 0
    have e1:=r4.cell 1
    have e3:=r3.cell 0
    simp only [zA,zB,zC] at e0 e1 e3
    rcases (by omega:k=0∨k=1) with rfl | rfl
    ·exact ⟨_,fun wx hb=>(hb.cell (p:=⟨w.heap.size+4,0,none⟩) r4.lt).trans e0,.inl rfl⟩
    ·exact ⟨_,fun wx hb=>(hb.cell (p:=⟨w.heap.size+4,1,none⟩) r4.lt).trans e1,.inr ⟨_,rfl,r3.lt,e3⟩⟩
   have Hc:Hid (∀ wx,Below wr.heap.size wr wx→wx.cell? ⟨w.heap.size+4,k,none⟩=some v∧wx.cell? ⟨w.heap.size,1,none⟩=some (.int .i64 id)∧wx.cell? ⟨w.heap.size,2,none⟩=some (.string s)∧wx.cell? ⟨w.heap.size+1,0,none⟩=some (.int .i64 t)∧wx.cell? ⟨w.heap.size+1,1,none⟩=some (.slice F fn fc) ∧
     wx.cell? ⟨w.heap.size+2,0,none⟩=some (.int .i64 sq)∧wx.cell? ⟨w.heap.size+2,1,none⟩=some (.slice E n c)):=zh (fun wx hb=>by
    have hb2:=hB.out.trans (hb.mono hB.out.size)
    have r0:=HX0.out.below hb2 HX0.out.lt
    have r1:=HX1.out.below hb2 HX1.out.lt
    have r2:=HX2.out.below hb2 HX2.out.lt
    have a1:=r0.cell 1
    have a2:=r0.cell 2
    have b0:=r1.cell 0
    have b1:=r1.cell 1
    have c0:=r2.cell 0
    have c1:=r2.cell 1
    simp only [zA,zB,zC] at a1 a2 b0 b1 c0 c1
    exact ⟨hv wx hb,a1,a2,b0,b1,c0,c1⟩)
   have HN:=zh hvn
   clear hv hvn
   go_wp2_with fail
   refine wp_region_grow (specOf [(5,⟨Unit,fun _=>(.tuple #[.slice none 0 0,.int .i64 4]),fun _ _=>True⟩)]) (fun wx=>Below (World.heap wr).size wr wx) (fun w1 w2=>Below w1.heap.size w1 w2) (by kernel_rfl) (by kernel_rfl) (stab_cons (fun _ _ _ _ h=>h) (stab_nil)) (Below.refl _ _).drew ?_
   iterate 5
    refine grow_fix _ ?_ rfl (by rfl) (by rfl) (fun wx hC hD=>?_) ?_
    rotate_left
    ·have hSw:=Hc.out wx hC
     go_simp
     all_goals with_reducible rfl
    try simp only [Act.put,zD,zE,zF]
   refine grow_give 6 _ rfl (by rfl) (by rfl) (fun wx hC hD=>?_) (fun x=>?_)
   ·refine give_enter (f:=?_) (args:=?_) ?_ ?_
    rotate_left 2
    ·have hSw:=Hc.out wx hC
     go_simp
     all_goals first | with_reducible rfl | (refine ⟨?_,?_⟩ <;> with_reducible rfl)
    exact calls_cst hC (batch_nob (HN.out.below hC) sq E n c)
   obtain ⟨⟩:=x
   try simp only [Act.put,zD,zE,zF]
   iterate 5
    refine grow_fix _ ?_ rfl (by rfl) (by rfl) (fun wx hC hD=>?_) ?_
    rotate_left
    ·have hSw:=Hc.out wx hC
     go_simp
     all_goals with_reducible rfl
    try simp only [Act.put,zD,zE,zF]
   refine grow_nil (fun w6 hC hF=>?_)
   have HC6:=zh hC
   have Hc2:Hid (∀ wx,Below w6.heap.size w6 wx→_):=zh (fun wx hb=>Hc.out wx (HC6.out.trans (hb.mono HC6.out.size)))
   have HN2:=zh (HN.out.below HC6.out)
   clear hF hC Hc
   go_wp2_with fail
   refine wp_region_grow (specOf [(6,⟨Unit,fun _=>(.tuple #[.string ⟨#[]⟩,.bool false]),fun _ _=>True⟩)]) (fun wx=>Below (World.heap w6).size w6 wx) (fun w1 w2=>Below w1.heap.size w1 w2) (by kernel_rfl) (by kernel_rfl) (stab_cons (fun _ _ _ _ h=>h) (stab_nil)) (Below.refl _ _).drew ?_
   iterate 6
    refine grow_fix _ ?_ rfl (by rfl) (by rfl) (fun wx hC hD=>?_) ?_
    rotate_left
    ·have hSw:=Hc2.out wx hC
     go_simp
     all_goals with_reducible rfl
    try simp only [Act.put,zD,zE,zF]
   refine grow_give 7 _ rfl (by rfl) (by rfl) (fun wx hC hD=>?_) (fun x=>?_)
   ·refine give_enter (f:=?_) (args:=?_) ?_ ?_
    rotate_left 2
    ·have hSw:=Hc2.out wx hC
     go_simp
     all_goals first | with_reducible rfl | (refine ⟨?_,?_⟩ <;> with_reducible rfl)
    exact calls_cst hC (query_nob (HN2.out.below hC) id)
   obtain ⟨⟩:=x
   try simp only [Act.put,zD,zE,zF]
   iterate 5
    refine grow_fix _ ?_ rfl (by rfl) (by rfl) (fun wx hC hD=>?_) ?_
    rotate_left
    ·have hSw:=Hc2.out wx hC
     go_simp
     all_goals with_reducible rfl
    try simp only [Act.put,zD,zE,zF]
   refine grow_nil (fun w7 hC hF=>?_)
   have HC7:=zh hC
   have Hc3:Hid (∀ wx,Below w7.heap.size w7 wx→_):=zh (fun wx hb=>Hc2.out wx (HC7.out.trans (hb.mono HC7.out.size)))
   have HN3:=zh (HN2.out.below HC7.out)
   clear hF hC Hc2
   go_wp2_with fail
   refine wp_region_grow (specOf [(8,⟨Unit,fun _=>(.int .i64 4),fun _ _=>True⟩),(22,⟨Nat,fun x=>.slice (some ⟨x,0,none⟩) 2 2,fun x wz=>Reads wz wz.heap.size 1 (some ⟨x,0,none⟩) 2 (itv [1,2])⟩),(23,⟨Unit,fun _=>(.int .i64 0),fun _ _=>True⟩),(28,⟨Unit,fun _=>(.int .i64 0),fun _ _=>True⟩),(34,⟨Unit,fun _=>(.slice none 0 0),fun _ _=>True⟩),(42,⟨Unit,fun _=>(.slice none 0 0),fun _ _=>True⟩),(50,⟨Option Addr × Nat,fun x=>.slice x.1 0 x.2,fun _ _=>True⟩),(63,⟨Unit,fun _=>(.pointer none),fun _ _=>True⟩)]) (fun wx=>Below (World.heap w7).size w7 wx) (fun w1 w2=>Below w1.heap.size w1 w2) (by kernel_rfl) (by kernel_rfl) (stab_cons (fun _ _ _ _ h=>h) (stab_cons (fun x wa wb hg h=>(h.keep fun _ _ hp=>hg.cell hp).more hg.size) (stab_cons (fun _ _ _ _ h=>h) (stab_cons (fun _ _ _ _ h=>h) (stab_cons (fun _ _ _ _ h=>h) (stab_cons (fun _ _ _ _ h=>h) (stab_cons (fun _ _ _ _ h=>h) (stab_cons (fun _ _ _ _ h=>h) (stab_nil))))))))) (Below.refl _ _).drew ?_
   iterate 8
    refine grow_fix _ ?_ rfl (by rfl) (by rfl) (fun wx hC hD=>?_) ?_
    rotate_left
    ·have hSw:=Hc3.out wx hC
     go_simp
     all_goals with_reducible rfl
    try simp only [Act.put,zD,zE,zF]
   refine grow_give 9 _ rfl (by rfl) (by rfl) (fun wx hC hD=>?_) (fun x=>?_)
   ·refine give_enter (f:=?_) (args:=?_) ?_ ?_
    rotate_left 2
    ·have hSw:=Hc3.out wx hC
     go_simp
     all_goals first | with_reducible rfl | (refine ⟨?_,?_⟩ <;> with_reducible rfl)
    exact calls_cst hC (put_nob (HN3.out.below hC) id s)
   obtain ⟨⟩:=x
   try simp only [Act.put,zD,zE,zF]
   iterate 13
    refine grow_fix _ ?_ rfl (by rfl) (by rfl) (fun wx hC hD=>?_) ?_
    rotate_left
    ·have hSw:=Hc3.out wx hC
     go_simp
     all_goals with_reducible rfl
    try simp only [Act.put,zD,zE,zF]
   refine grow_give 23 _ rfl (by rfl) (by rfl) (fun wx hC hD=>?_) (fun x=>?_)
   ·refine give_value (u:=?_) (w':=?_) ?_ ?_ ?_
    rotate_left 2
    ·have hSw:=Hc3.out wx hC
     go_simp
     all_goals first | with_reducible rfl | (refine ⟨?_,?_⟩ <;> with_reducible rfl)
    ·exact (Below.refl _ _).alloc (zG _) _
    ·exact ⟨hC.alloc hC.size _,wx.heap.size,rfl,Ev.reads_s (Rg.new_row (k:=1) wx 3 [.int .i64 1,.int .i64 2] 2 rfl (by omega))⟩
   rename Nat=>x22
   try simp only [Act.put,zD,zE,zF]
   refine grow_give 24 _ rfl (by rfl) (by rfl) (fun wx hC hD=>?_) (fun x=>?_)
   ·refine give_enter (f:=?_) (args:=?_) ?_ ?_
    rotate_left 2
    ·have hSw:=Hc3.out wx hC
     go_simp
     all_goals first | with_reducible rfl | (refine ⟨?_,?_⟩ <;> with_reducible rfl)
    exact calls_cst hC (drop_nob (HN3.out.below hC) (some ⟨x22,0,none⟩) 2 2 [1,2] (upd_hit (deps_get hD 22 (by kernel_rfl)) (by decide)) rfl (by omega))
   obtain ⟨⟩:=x
   try simp only [Act.put,zD,zE,zF]
   iterate 4
    refine grow_fix _ ?_ rfl (by rfl) (by rfl) (fun wx hC hD=>?_) ?_
    rotate_left
    ·have hSw:=Hc3.out wx hC
     go_simp
     all_goals with_reducible rfl
    try simp only [Act.put,zD,zE,zF]
   refine grow_give 29 _ rfl (by rfl) (by rfl) (fun wx hC hD=>?_) (fun x=>?_)
   ·refine give_enter (f:=?_) (args:=?_) ?_ ?_
    rotate_left 2
    ·have hSw:=Hc3.out wx hC
     go_simp
     all_goals first | with_reducible rfl | (refine ⟨?_,?_⟩ <;> with_reducible rfl)
    exact calls_cst hC (len_nob (HN3.out.below hC))
   obtain ⟨⟩:=x
   try simp only [Act.put,zD,zE,zF]
   iterate 5
    refine grow_fix _ ?_ rfl (by rfl) (by rfl) (fun wx hC hD=>?_) ?_
    rotate_left
    ·have hSw:=Hc3.out wx hC
     go_simp
     all_goals with_reducible rfl
    try simp only [Act.put,zD,zE,zF]
   refine grow_give 35 _ rfl (by rfl) (by rfl) (fun wx hC hD=>?_) (fun x=>?_)
   ·refine give_enter (f:=?_) (args:=?_) ?_ ?_
    rotate_left 2
    ·have hSw:=Hc3.out wx hC
     go_simp
     all_goals first | with_reducible rfl | (refine ⟨?_,?_⟩ <;> with_reducible rfl)
    exact calls_cst hC (ids_nob (HN3.out.below hC))
   obtain ⟨⟩:=x
   try simp only [Act.put,zD,zE,zF]
   iterate 7
    refine grow_fix _ ?_ rfl (by rfl) (by rfl) (fun wx hC hD=>?_) ?_
    rotate_left
    ·have hSw:=Hc3.out wx hC
     go_simp
     all_goals with_reducible rfl
    try simp only [Act.put,zD,zE,zF]
   refine grow_give 43 _ rfl (by rfl) (by rfl) (fun wx hC hD=>?_) (fun x=>?_)
   ·refine give_enter (f:=?_) (args:=?_) ?_ ?_
    rotate_left 2
    ·have hSw:=Hc3.out wx hC
     go_simp
     all_goals first | with_reducible rfl | (refine ⟨?_,?_⟩ <;> with_reducible rfl)
    exact calls_cst hC (near_nob (HN3.out.below hC) t F fn fc)
   obtain ⟨⟩:=x
   try simp only [Act.put,zD,zE,zF]
   iterate 7
    refine grow_fix _ ?_ rfl (by rfl) (by rfl) (fun wx hC hD=>?_) ?_
    rotate_left
    ·have hSw:=Hc3.out wx hC
     go_simp
     all_goals with_reducible rfl
    try simp only [Act.put,zD,zE,zF]
   refine grow_give 51 _ rfl (by rfl) (by rfl) (fun wx hC hD=>?_) (fun x=>?_)
   ·refine give_enter (f:=?_) (args:=?_) ?_ ?_
    rotate_left 2
    ·have hSw:=Hc3.out wx hC
     go_simp
     all_goals first | with_reducible rfl | (refine ⟨?_,?_⟩ <;> with_reducible rfl)
    refine (ask_nob (HN3.out.below hC) t F fn fc).mono ?_
    rintro e w9 ⟨v9,rfl,ho9,hb9⟩
    obtain ⟨A9,c9,rfl,_⟩:=rows_of ho9 (Below.refl _ w9)
    exact ⟨_,rfl,hb9,hC.trans (hb9.mono hC.size),(A9,c9),rfl,trivial⟩
   obtain ⟨A9,c9⟩:=x
   try simp only [Act.put,zD,zE,zF]
   iterate 12
    refine grow_fix _ ?_ rfl (by rfl) (by rfl) (fun wx hC hD=>?_) ?_
    rotate_left
    ·have hSw:=Hc3.out wx hC
     go_simp
     all_goals with_reducible rfl
    try simp only [Act.put,zD,zE,zF]
   refine grow_give 64 _ rfl (by rfl) (by rfl) (fun wx hC hD=>?_) (fun x=>?_)
   ·refine give_enter (f:=?_) (args:=?_) ?_ ?_
    rotate_left 2
    ·have hSw:=Hc3.out wx hC
     go_simp
     all_goals first | with_reducible rfl | (refine ⟨?_,?_⟩ <;> with_reducible rfl)
    exact calls_cst hC (fork_nob (HN3.out.below hC))
   obtain ⟨⟩:=x
   try simp only [Act.put,zD,zE,zF]
   iterate 2
    refine grow_fix _ ?_ rfl (by rfl) (by rfl) (fun wx hC hD=>?_) ?_
    rotate_left
    ·have hSw:=Hc3.out wx hC
     go_simp
     all_goals with_reducible rfl
    try simp only [Act.put,zD,zE,zF]
   refine grow_nil (fun w8 hC hF=>?_)
   have HB8:Hid (Below V.heap.size V w8):=zh (hB.out.trans ((HC6.out.trans ((HC7.out.trans (hC.mono HC7.out.size)).mono HC6.out.size)).mono hB.out.size))
   clear hF hC
   go_wp2_with fail
   go_roundw
   case rel=>exact ⟨k+1,by omega,by go_num,HB8⟩
   case measure=>simp [intOf]; omega
  ·obtain rfl:k=2:=by omega
   have CA:=zh (awake_any wr)
   go_wp2_with fail
   refine CA.out.mono ?_
   rintro e w6 ⟨rfl,hb6⟩
   have HB6:=zh (hBw.out.trans (hb6.mono hBw.out.size))
   clear hb6 CA
   go_wp2
   go_ret
   exact ⟨rfl,HB6.out⟩
end Go.Proofs.YtlfpfkallgkjdaaGreat.Al
end

section
namespace Go.Proofs.YtlfpfkallgkjdaaGreat.Al
open Go.RowKit Go.ChangeShapes Go.WideShapes Go.ChangeAt Go.Deep Go.Joins
section
variable {H:Type} {enc:TypeId × Value→H} {W:World} {base:Nat} {v:Value} {d:DataW H} {p:List MemPlace}
theorem sl_at {t e:TypeId} {fuel:Nat} {x:DataW H × List MemPlace} (ht:Tryz.prog.underlying t=some (.slice e)) (h:DataW.trod enc Tryz.prog W 0 (fun _=>true) true fuel t [v]=some x):∃ A n c,v=.slice A n c:=by
 rcases open_slice ht h with ⟨hcs,_⟩ | ⟨a,len,cap,m,n,D,Pl,hcs,_⟩
 ·simp only [List.cons.injEq,and_true] at hcs
  exact ⟨_,_,_,hcs⟩
 ·simp only [List.cons.injEq,and_true] at hcs
  exact ⟨_,_,_,hcs⟩
theorem two_at {t e:TypeId} {f0 f1:Field} {fuel:Nat} {cs:List Value} {x:DataW H × List MemPlace} (ht:Tryz.prog.underlying t=some (.struct #[f0,f1])) (hc:Tryz.prog.cellsOf t=2) (o0:f0.offset=0) (o1:f1.offset=1) (c0:Tryz.prog.cellsOf f0.type=1) (c1:Tryz.prog.cellsOf f1.type=1)
  (i0:Tryz.prog.underlying f0.type=some (.int .i64)) (i1:Tryz.prog.underlying f1.type=some (.slice e)) (hf:DataW.trod enc Tryz.prog W 0 (fun _=>true) true fuel t cs=some x):∃ (k:Int) (A:Option Addr) (n c:Nat),cs=[.int .i64 k,.slice A n c]:=by
 obtain ⟨y0,y1,n',rfl,hlen,t0,t1⟩:=trod_struct2 ht hf
 rw [hc] at hlen
 match cs,hlen with
 | [u0,u1],_ =>
  simp only [c0,c1,o0,o1,List.drop_zero,List.drop_succ_cons,List.take_succ_cons,List.take_zero] at t0 t1
  obtain ⟨k0,e0,_,_⟩:=DataW.trod_int i0 t0
  obtain ⟨A,n,c,e1⟩:=sl_at i1 t1
  simp only [List.cons.injEq,and_true] at e0
  exact ⟨k0,A,n,c,by rw [e0,e1]⟩
theorem op1_at {fuel:Nat} {cs:List Value} {x:DataW H × List MemPlace} (hf:DataW.trod enc Tryz.prog W 0 (fun _=>true) true fuel 60 cs=some x) :
  ∃ (d id:Int) (s:ByteArray) (I:Option Addr) (m mc:Nat),cs=[.int .u8 d,.int .i64 id,.string s,.slice I m mc]:=by
 obtain ⟨y0,y1,y2,y3,n',rfl,hlen,t0,t1,t2,t3⟩:=trod_struct4 Tryz.underlying60 hf
 rw [show Tryz.prog.cellsOf 60=4 by kernel_rfl] at hlen
 match cs,hlen with
 | [u0,u1,u2,u3],_ =>
  simp only [show Tryz.prog.cellsOf 5=1 by kernel_rfl,show Tryz.prog.cellsOf 3=1 by kernel_rfl,show Tryz.prog.cellsOf 9=1 by kernel_rfl,show Tryz.prog.cellsOf 38=1 by kernel_rfl,List.drop_zero,List.drop_succ_cons,List.take_succ_cons,List.take_zero] at t0 t1 t2 t3
  obtain ⟨k0,e0,_,_⟩:=DataW.trod_int Tryz.underlying5 t0
  obtain ⟨k1,e1,_,_⟩:=DataW.trod_int Tryz.underlying3 t1
  obtain ⟨s2,e2,_,_⟩:=DataW.trod_string Tryz.underlying9 t2
  obtain ⟨A,n,c,e3⟩:=sl_at Tryz.underlying38 t3
  simp only [List.cons.injEq,and_true] at e0 e1 e2
  exact ⟨k0,k1,s2,A,n,c,by rw [e0,e1,e2,e3]⟩
theorem op1_in (hv:Value.okWide Tryz.prog W .any base 60 v) (h:DataW.Trod enc Tryz.prog W 0 (fun _=>true) true 60 v d p) :
  ∃ (d id:Int) (s:ByteArray) (I:Option Addr) (m mc:Nat),v=.agg #[.int .u8 d,.int .i64 id,.string s,.slice I m mc]:=by
 obtain ⟨cs,rfl,_⟩:=okWide_struct Tryz.underlying60 hv
 obtain ⟨fuel,hf⟩:=h
 obtain ⟨d,id,s,I,m,mc,h1⟩:=op1_at hf
 exact ⟨d,id,s,I,m,mc,by rw [show cs=#[.int .u8 d,.int .i64 id,.string s,.slice I m mc] from Array.toList_inj.1 h1]⟩
theorem event1_in (hv:Value.okWide Tryz.prog W .any base 33 v) (h:DataW.Trod enc Tryz.prog W 0 (fun _=>true) true 33 v d p):∃ (k:Int) (F:Option Addr) (n c:Nat),v=.agg #[.int .i64 k,.slice F n c]:=by
 obtain ⟨cs,rfl,_⟩:=okWide_struct Tryz.underlying33 hv
 obtain ⟨fuel,hf⟩:=h
 obtain ⟨k,F,n,c,h1⟩:=two_at Tryz.underlying33 (by kernel_rfl) rfl rfl (by kernel_rfl) (by kernel_rfl) Tryz.underlying3 Tryz.underlying31 hf
 exact ⟨k,F,n,c,by rw [show cs=#[.int .i64 k,.slice F n c] from Array.toList_inj.1 h1]⟩
theorem batch1_in (hv:Value.okWide Tryz.prog W .any base 69 v) (h:DataW.Trod enc Tryz.prog W 0 (fun _=>true) true 69 v d p):∃ (k:Int) (F:Option Addr) (n c:Nat),v=.agg #[.int .i64 k,.slice F n c]:=by
 obtain ⟨cs,rfl,_⟩:=okWide_struct Tryz.underlying69 hv
 obtain ⟨fuel,hf⟩:=h
 obtain ⟨k,F,n,c,h1⟩:=two_at Tryz.underlying69 (by kernel_rfl) rfl rfl (by kernel_rfl) (by kernel_rfl) Tryz.underlying3 Tryz.underlying67 hf
 exact ⟨k,F,n,c,by rw [show cs=#[.int .i64 k,.slice F n c] from Array.toList_inj.1 h1]⟩
end
end Go.Proofs.YtlfpfkallgkjdaaGreat.Al
end
