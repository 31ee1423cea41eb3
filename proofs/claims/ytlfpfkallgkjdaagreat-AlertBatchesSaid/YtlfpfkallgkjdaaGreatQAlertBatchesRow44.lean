/- loggialaw32.step: a fork: the walk (printed by gen_alu.py). -/
import Derived.Deep.CutRange
import Derived.Deep.RegionHeld3
import Derived.Deep.DeepCutAuto
import Derived.Lib.SmallJoins
import Derived.Test.YtlfpfkallgkjdaaGreatQAlertBatchesRow42
import Derived.Test.YtlfpfkallgkjdaaGreatQAlertBatchesRow31
import Derived.Test.YtlfpfkallgkjdaaGreatQAlertBatchesRow0
import Derived.Test.YtlfpfkallgkjdaaGreatQAlertBatchesRow1
set_option linter.unusedSimpArgs false
set_option linter.unusedVariables false
set_option maxRecDepth 40000
section
namespace Go.Proofs.YtlfpfkallgkjdaaGreat.Al
open Go.RowKit Go.Maps Ut Tk Qy Qp Ev Mv
set_option maxHeartbeats 12800000 in
theorem step_fork {n0:Nat} {w:World} {Bb K:Nat} {l:List (Int × Kp)} (o:Opr) (I:Option Addr) (m mc:Nat) (hS:St n0 w Bb K l) (hn0:n0≤w.heap.size) (hK:K≤100000) (hO:OpV w o I m mc) (hd:o.d % 5=4) :
  Calls Tryz.prog 24 #[.pointer (some ⟨Bb,0,none⟩),.agg #[.int .u8 o.d,.int .i64 o.id,.string o.s,.slice I m mc]] w (StepP n0 w Bb K l o):=by
 obtain ⟨X,A,n,c,O,hBb,hA,hR,hL⟩:=hS.ex
 have hb1:Below w.heap.size w (w.alloc (.cells #[.int .u8 o.d,.int .i64 o.id,.string o.s,.slice I m mc] 60)):=(Below.refl _ _).alloc (zG _) _
 have hbx:=Blk.new w 60 #[.int .u8 o.d,.int .i64 o.id,.string o.s,.slice I m mc]
 have p0:=hbx.cell 0
 have p1:=hbx.cell 1
 have p2:=hbx.cell 2
 have p3:=hbx.cell 3
 simp only [zA,zB,zC] at p0 p1 p2 p3
 have HBb:=zh (hBb.below hb1 hBb.lt)
 have HA:=zh (hA.new_below hb1)
 have HR:=zh (hR.below hb1)
 have HL:=zh hL
 have HO:=zh (hO.below hb1)
 have HB:=zh hb1
 have HBX:=zh hbx
 have hfew:=hS.few
 have hbb:=hS.bb
 have hnl:=hL.len
 have hnO:=hR.ln
 have hm2:=hO.few
 have hmcap:=hO.cap
 have hrem:=u8rem hO.wd
 have hwd:=hO.wd
 have hz:w.heap.size<(w.alloc (.cells #[.int .u8 o.d,.int .i64 o.id,.string o.s,.slice I m mc] 60)).heap.size:=by simp
 have HD:=zh hd
 rw [hd] at hrem
 clear hS hBb hA hR hL hO hb1 hbx
 obtain ⟨d,id,s,ids⟩:=o
 simp only at *
 go_enter Tryz.func24,Tryz.ntmps24
 go_upto_region 1 with (fail)
 generalize (w.alloc (.cells #[.int .u8 d,.int .i64 id,.string s,.slice I m mc] 60))=w1 at *
 have hsw:=HB.out.size
 have hbbl:=HBb.out.lt
 go_upto_if 18 with (fail)
 go_cut [5] from 14 to 20 (fun v wx=>∃ s2:ByteArray,v=.string s2∧Hid (cutS s=s2)∧w1=wx)
 case first =>
  by_cases hs : 1100<s.size
  ·have hs':(1100:Int)<(s.size:Int):=by omega
   go_wp2_with fail
   go_meet
   exact ⟨_,rfl,zh (if_pos hs),rfl⟩
  ·have hs':¬ (1100:Int)<(s.size:Int):=by omega
   go_wp2_with fail
   go_meet
   exact ⟨_,rfl,zh (if_neg hs),rfl⟩
 case rest =>
 obtain ⟨s2,rfl,HCS,rfl⟩:=hcut
 go_upto_if 25 with (fail)
 go_cut [6] from 21 to 27 (fun v wx=>∃ m9:Nat,v=.slice I m9 mc∧m9≤10∧Hid (ReadsS w1 (Sc w1) 1 I m9 (itv (cutI ids)))∧Hid ((cutI ids).length=m9)∧w1=wx)
 case first =>
  by_cases hi : 10<m
  ·have hi':(10:Int)<(m:Int):=by omega
   have h10:(10:Int)≤(mc:Int):=by omega
   go_wp2_with fail
   go_meet
   exact ⟨10,rfl,zG _,zh (cutI_reads HO.out (by omega)),zh (by have h9:ids.length=m:=HO.out.ln; unfold cutI; rw [List.length_take]; omega),rfl⟩
  ·have hi':¬ (10:Int)<(m:Int):=by omega
   have hie:cutI ids=ids:=by have h9:ids.length=m:=HO.out.ln; unfold cutI; exact List.take_of_length_le (by omega)
   go_wp2_with fail
   go_meet
   exact ⟨m,rfl,by omega,zh (by rw [hie]; exact HO.out.rd),zh (by rw [hie]; exact HO.out.ln),rfl⟩
 case rest =>
 obtain ⟨m9,rfl,hm9,HRI,HIL,rfl⟩:=hcut
 have HIW:Hid (∀ i∈cutI ids,I64 i):=zh (fun i h=>HO.out.wi i (List.mem_of_mem_take h))
 go_upto_region 7 with (fail)
 have q0:=HBb.out.cell 0
 simp only [zA,zB,zC] at q0
 obtain ⟨cn,M1,Mm,F1,F2,g1,g2,g3⟩:=HA.out.ex
 have CF:=zh (fork_any g2 hfew)
 have G2:=zh g2
 have G3:=zh g3
 clear g2 g3
 go_wp2_with fail
 refine CF.out.mono ?_
 rintro e w2 ⟨Y,rfl,hY,hb2,hYn⟩
 have HY:=zh hY
 have HG2:=zh (G2.out.below hb2)
 have HBb2:=zh (HBb.out.below hb2 hbbl)
 have HR2:=zh (HR.out.below hb2)
 have HB2:=zh ((HB.out.mono hn0).trans (hb2.mono (by omega)))
 have hs2:=hb2.size
 have CP:=zh (puts_any 7 (I64.of (by omega)) ⟨#[122,122,122]⟩ HG2.out hfew (by omega))
 have q0:=HBb2.out.cell 0
 simp only [zA,zB,zC] at q0
 clear hY hb2 CF
 go_wp2_with fail
 refine CP.out.mono ?_
 rintro e w3 ⟨E,l3,F1',F2',hp,rfl,hX3,hc3,ho3⟩
 obtain ⟨cn',N1,N2,H1,H2,y1,y2,y3⟩:=HY.out.ex
 have hs3:=hc3.size
 have hY3:AlX w3 Y cn' N1 N2 H1 H2 l:=⟨blk_chg y2.blk hc3 HG2.out.al.noSc,y2.al.chg hc3 HG2.out.al.noSc (fun b hb ho=>by
  have h1:=(G2.out.al.mo b hb).lt
  have h2:=y3 b ho
  omega)⟩
 have hYlt:∀ b,Own N1 N2 H2 b→b<w2.heap.size:=fun b hb=>(y2.al.mo b hb).lt
 have HY3:=zh hY3
 have HYL:=zh hYlt
 have HYG:=zh y3
 have HO3:=zh ho3
 have HX3:=zh hX3
 have HBb3:=zh (blk_chg HBb2.out hc3 HG2.out.al.noSc)
 have HR3:=zh (HR2.out.chg hc3 HG2.out.al.noSc)
 have HB3:=zh (HB2.out.trans (hc3.below (by omega:n0≤w2.heap.size) (fun b hb=>G3.out b hb)))
 have hl3:=hp.few HG2.out.al.up hfew
 clear hX3 hc3 ho3 hY3 hYlt y2 y3 CP HBb2 HR2 hp
 have hb4:Below w3.heap.size w3 (w3.alloc (.cells #[.int .i64 1,.int .i64 2,.int .i64 3] 3)):=(Below.refl _ _).alloc (zG _) _
 have hr4:=Rg.new_row (k:=1) w3 3 [.int .i64 1,.int .i64 2,.int .i64 3] 3 rfl (by omega)
 have HX4:=zh (HX3.out.below hb4)
 have HY4:=zh (HY3.out.below hb4)
 have HBb4:=zh (HBb3.out.below hb4 HBb3.out.lt)
 have HR4:=zh (HR3.out.below hb4)
 have HB4:=zh (HB3.out.trans (hb4.mono (by omega)))
 have CD:=zh (drops_any (some ⟨w3.heap.size,0,none⟩) 3 3 [1,2,3] (reads_sc (Ev.reads_s hr4) (by decide)) rfl (by omega) (fun i hi=>by
  simp only [List.mem_cons,List.not_mem_nil,or_false] at hi
  rcases hi with rfl | rfl | rfl <;> exact I64.of (by omega)) HX4.out)
 have q0:=HBb3.out.cell 0
 simp only [zA,zB,zC] at q0
 have hbl3:=HBb3.out.lt
 have hs4:=hb4.size
 clear hb4 hr4
 go_wp2_with fail
 refine CD.out.mono ?_
 rintro e w5 ⟨F1b,rfl,hX5,hc5⟩
 have hnS:=HX4.out.al.noSc
 have hY5:AlX w5 Y cn' N1 N2 H1 H2 l:=⟨blk_chg HY4.out.blk hc5 hnS,HY4.out.al.chg hc5 hnS (fun b hb ho=>by
  have h2:=HYG.out b ho
  have h3:=HYL.out b ho
  rcases HO3.out b hb with h | h
  ·have h1:=(G2.out.al.mo b h).lt
   omega
  ·omega)⟩
 have HBb5:=zh (blk_chg HBb4.out hc5 hnS)
 have HR5:=zh (HR4.out.chg hc5 hnS)
 have HB5:=zh (HB4.out.trans (hc5.below (by simp; omega) (fun b hb=>by
  rcases HO3.out b hb with h | h
  ·exact G3.out b h
  ·omega)))
 have HY5:=zh hY5
 have hs5:=hc5.size
 have hbl5:=HBb5.out.lt
 clear hY5 hX5 hc5 hnS CD
 have z1:=HBb5.out.cell 0
 have zf:=HBb5.out.frozen 0
 simp only [zA,zB,zC] at z1
 have hfin:StepP n0 w Bb K l ⟨d,id,s,ids⟩ (.returned (.bool true)) (w5.setCell ⟨Bb,0,none⟩ (.pointer (some ⟨Y,0,none⟩))):=by
  refine ⟨l,StepR.fork HD.out,rfl,⟨⟨Y,A,n,c,O,by simpa using HBb5.out.set_ 0 (.pointer (some ⟨Y,0,none⟩)),?_,rat_set HBb5.out (noIS_two _ _ _ _) HR5.out 0 _,HL.out⟩,hfew,hbb⟩,?_⟩
  ·have ha:AlN n0 w5 Y l.length l:=⟨cn',N1,N2,H1,H2,y1,HY5.out,fun b hb=>by have:=HYG.out b hb; omega⟩
   have:=aln_set HBb5.out (noIS_two _ _ _ _) (by decide) ha 0 (.pointer (some ⟨Y,0,none⟩))
   obtain ⟨cn9,R1,R2,E1,E2,r1,r2⟩:=this.ex
   exact ⟨cn9,R1,R2,E1,E2,by omega,r2⟩
  ·exact HB5.out.grown (grownBy_set w5 Bb 0 _) (by omega) (fun b hb=>by injection hb with hb; omega)
 have FIN:=zh hfin
 clear hfin
 go_wp2
 go_ret
 exact FIN.out
end Go.Proofs.YtlfpfkallgkjdaaGreat.Al
end

section
namespace Go.Proofs.YtlfpfkallgkjdaaGreat.Al
open Go.RowKit Go.Maps Ut Tk Qy Qp Ev Mv
def CutR (w4:World) (l:List (Int × Kp)) (i:Int) (s:ByteArray) (s12 s13:Value) (wx:World):Prop :=
 ∃ p A n c O E l',s12=.pointer (some ⟨p,0,none⟩)∧s13=.int .i64 E∧PutR l i s E l'∧RIs O l'∧Blk wx p 41 #[.slice A n c]∧RAt wx A n c O∧Below w4.heap.size w4 wx
theorem cutR_1 {w4 w2:World} {l l':List (Int × Kp)} {i E:Int} {s:ByteArray} {A:Option Addr} {n c:Nat} {O:List Rk} (hp:PutR l i s E l') (hl:RIs O l') (hr:RAt w2 A n c O) (hb:Below w4.drew.heap.size w4.drew w2) :
  CutR w4 l i s (.pointer (some ⟨w2.heap.size,0,none⟩)) (.int .i64 E) (w2.alloc (.cells #[.slice A n c] 41)):=by
 have hs:w4.heap.size≤w2.heap.size:=hb.size
 have hba:Below w2.heap.size w2 (w2.alloc (.cells #[.slice A n c] 41)):=(Below.refl _ _).alloc (zG _) _
 exact ⟨_,A,n,c,O,E,l',rfl,rfl,hp,hl,Blk.new w2 _ _,hr.below hba,((Below.refl _ _).drew.trans hb).alloc hs _⟩
theorem cutR_2 {w4 w2:World} {l l':List (Int × Kp)} {i E:Int} {s:ByteArray} {A:Option Addr} {n c:Nat} {O:List Rk} (hp:PutR l i s E l') (hl:RIs O l') (hr:RAt w2 A n c O)
  (hb:Below (w4.alloc (.cells #[.slice none 0 0] 41)).drew.heap.size (w4.alloc (.cells #[.slice none 0 0] 41)).drew w2) :
  CutR w4 l i s (.pointer (some ⟨w4.heap.size,0,none⟩)) (.int .i64 E) (w2.setCell ⟨w4.heap.size,0,none⟩ (.slice A n c)):=by
 have hbx:Below w4.heap.size w4 w2:=((Below.refl _ _).alloc (zG _) (.cells #[.slice none 0 0] 41)).drew.trans (hb.mono (by simp))
 have hk:Blk w2 w4.heap.size 41 #[.slice none 0 0]:=((Blk.new w4 _ _).drew).below hb (by simp)
 refine ⟨_,A,n,c,O,E,l',rfl,rfl,hp,hl,?_,rat_set hk (noIS_one _ _ _) hr 0 _,hbx.setCell (p:=⟨w4.heap.size,0,none⟩) (zG _) _⟩
 simpa using hk.set_ 0 (.slice A n c)
set_option maxHeartbeats 12800000 in
theorem step_put {n0:Nat} {w:World} {Bb K:Nat} {l:List (Int × Kp)} (o:Opr) (I:Option Addr) (m mc:Nat) (hS:St n0 w Bb K l) (hn0:n0≤w.heap.size) (hK:K≤100000) (hO:OpV w o I m mc) (h3:o.d % 5≠3) (h4:o.d % 5≠4) :
  Calls Tryz.prog 24 #[.pointer (some ⟨Bb,0,none⟩),.agg #[.int .u8 o.d,.int .i64 o.id,.string o.s,.slice I m mc]] w (StepP n0 w Bb K l o):=by
 obtain ⟨X,A,n,c,O,hBb,hA,hR,hL⟩:=hS.ex
 have hb1:Below w.heap.size w (w.alloc (.cells #[.int .u8 o.d,.int .i64 o.id,.string o.s,.slice I m mc] 60)):=(Below.refl _ _).alloc (zG _) _
 have hbx:=Blk.new w 60 #[.int .u8 o.d,.int .i64 o.id,.string o.s,.slice I m mc]
 have p0:=hbx.cell 0
 have p1:=hbx.cell 1
 have p2:=hbx.cell 2
 have p3:=hbx.cell 3
 simp only [zA,zB,zC] at p0 p1 p2 p3
 have HBb:=zh (hBb.below hb1 hBb.lt)
 have HA:=zh (hA.new_below hb1)
 have HR:=zh (hR.below hb1)
 have HL:=zh hL
 have HO:=zh (hO.below hb1)
 have HB:=zh hb1
 have HBX:=zh hbx
 have hfew:=hS.few
 have hbb:=hS.bb
 have hnl:=hL.len
 have hnO:=hR.ln
 have hm2:=hO.few
 have hmcap:=hO.cap
 have hrem:=u8rem hO.wd
 have hwd:=hO.wd
 have hz:w.heap.size<(w.alloc (.cells #[.int .u8 o.d,.int .i64 o.id,.string o.s,.slice I m mc] 60)).heap.size:=by simp
 have H3:=zh h3
 have H4:=zh h4
 obtain ⟨r5,hr5⟩:∃ r5,o.d % 5=r5:=⟨_,rfl⟩
 rw [hr5] at hrem
 have hn3:(r5 == 3)=false:=beq_eq_false_iff_ne.2 (by rw [← hr5]; exact h3)
 have hn4:(r5 == 4)=false:=beq_eq_false_iff_ne.2 (by rw [← hr5]; exact h4)
 have hr0 : 0≤r5∧r5<5:=by omega
 clear h3 h4
 clear hS hBb hA hR hL hO hb1 hbx
 obtain ⟨d,id,s,ids⟩:=o
 simp only at *
 go_enter Tryz.func24,Tryz.ntmps24
 go_upto_region 1 with (fail)
 generalize (w.alloc (.cells #[.int .u8 d,.int .i64 id,.string s,.slice I m mc] 60))=w1 at *
 have hsw:=HB.out.size
 have hbbl:=HBb.out.lt
 go_upto_if 18 with (fail)
 go_cut [5] from 14 to 20 (fun v wx=>∃ s2:ByteArray,v=.string s2∧Hid (cutS s=s2)∧w1=wx)
 case first =>
  by_cases hs : 1100<s.size
  ·have hs':(1100:Int)<(s.size:Int):=by omega
   go_wp2_with fail
   go_meet
   exact ⟨_,rfl,zh (if_pos hs),rfl⟩
  ·have hs':¬ (1100:Int)<(s.size:Int):=by omega
   go_wp2_with fail
   go_meet
   exact ⟨_,rfl,zh (if_neg hs),rfl⟩
 case rest =>
 obtain ⟨s2,rfl,HCS,rfl⟩:=hcut
 go_upto_if 25 with (fail)
 go_cut [6] from 21 to 27 (fun v wx=>∃ m9:Nat,v=.slice I m9 mc∧m9≤10∧Hid (ReadsS w1 (Sc w1) 1 I m9 (itv (cutI ids)))∧Hid ((cutI ids).length=m9)∧w1=wx)
 case first =>
  by_cases hi : 10<m
  ·have hi':(10:Int)<(m:Int):=by omega
   have h10:(10:Int)≤(mc:Int):=by omega
   go_wp2_with fail
   go_meet
   exact ⟨10,rfl,zG _,zh (cutI_reads HO.out (by omega)),zh (by have h9:ids.length=m:=HO.out.ln; unfold cutI; rw [List.length_take]; omega),rfl⟩
  ·have hi':¬ (10:Int)<(m:Int):=by omega
   have hie:cutI ids=ids:=by have h9:ids.length=m:=HO.out.ln; unfold cutI; exact List.take_of_length_le (by omega)
   go_wp2_with fail
   go_meet
   exact ⟨m,rfl,by omega,zh (by rw [hie]; exact HO.out.rd),zh (by rw [hie]; exact HO.out.ln),rfl⟩
 case rest =>
 obtain ⟨m9,rfl,hm9,HRI,HIL,rfl⟩:=hcut
 have HIW:Hid (∀ i∈cutI ids,I64 i):=zh (fun i h=>HO.out.wi i (List.mem_of_mem_take h))
 go_upto_region 7 with (fail)
 have Hc8:Hid (∀ wx,Below w1.heap.size w1 wx→wx.cell? ⟨Bb,0,none⟩=some (.pointer (some ⟨X,0,none⟩))∧wx.cell? ⟨w.heap.size,1,none⟩=some (.int .i64 id)):=zh (fun wx hb=>by
  have r0:=(HBb.out.below hb hbbl).cell 0
  simp only [zA,zB,zC] at r0
  exact ⟨r0,(hb.cell (p:=⟨w.heap.size,1,none⟩) hz).trans p1⟩)
 have hwid:I64 id:=HO.out.wid
 go_upto_region 8 with (fail)
 refine wp_region_grow_tail 7 (specOf []) (fun wx=>Below w1.heap.size w1 wx) (fun w1 w2=>Below w1.heap.size w1 w2) (by kernel_rfl) (by kernel_rfl) (stab_nil) ((Below.refl _ _).drew) ?_
 simp only [List.take_succ_cons,List.take_zero,List.drop_succ_cons,List.drop_zero]
 iterate 7
  refine grow_fix _ ?_ rfl (by rfl) (by rfl) (fun wx hC hD=>?_) ?_
  rotate_left
  ·have hSw:=Hc8.out wx hC
   go_simp
   all_goals with_reducible rfl
  try simp only [Act.put,zD,zE,zF]
 refine grow_nil (fun w4 hC hF=>?_)
 try simp only [List.drop_succ_cons,List.drop_zero]
 have CP:=zh (put_n (HA.out.new_below hC) (by have:=hC.size; omega) id hwid s2 hfew (by omega))
 have HC8:=zh hC
 clear hF hC
 go_wp2_with (first
  | (go_at_call 10; refine CP.out.mono ?_; rintro e w5 ⟨E,l5,hp,rfl,hA5,hf5⟩)
  | go_in)
 have HP5:=zh hp
 have HA5:=zh hA5
 have hb5:Below n0 w w5:=(HB.out.mono hn0).trans ((HC8.out.mono (by omega)).trans (hf5.below (by have:=HC8.out.size; omega)))
 have HB5:=zh hb5
 have HBb5:=zh (hf5.blk (HBb.out.below HC8.out hbbl))
 have HR5:=zh ((HR.out.below HC8.out).chg hf5 Frm.noSc)
 have HX5:=zh (hf5.blk (HBX.out.below HC8.out (by omega)))
 have hl5:=hp.few HA.out.up hfew
 have hup:=HA.out.up
 have q0:=HBb5.out.cell 1
 have g0':=HX5.out.cell 1
 simp only [zA,zB,zC] at q0 g0'
 have hsz:Bb<w5.heap.size:=HBb5.out.lt
 have hbl:w.heap.size<w5.heap.size:=HX5.out.lt
 have CA:Hid (∀ wx,Below w5.heap.size w5 wx→Calls Tryz.prog 55 #[.agg #[.slice A n c],.int .i64 id,.string s2] wx (RPutP wx l id s2)):=zh (fun wx hC =>
  rput_any A n c O l id hwid s2 wx (HR5.out.below hC) HL.out hup (by omega))
 clear hp hA5 hf5 hb5 CP Hc8
 try simp only [Act.put,zD,zE,zF]
 go_upto_region 9 with (fail)
 go_cut [12,13] (fun s12 s13 wx=>CutR w5 l id s2 s12 s13 wx)
 case first =>
  go_region_held3 (fun w'=>w'.cell? ⟨Bb,1,none⟩=some (.slice A n c)∧w'.cell? ⟨w.heap.size,1,none⟩=some (.int .i64 id))
   (first
    | go_keep
    | exact ⟨h8,h9⟩
    | exact ⟨(World.cell?_alloc_lt w2' _ ⟨Bb,1,none⟩ (World.block_lt_of_cell? w2' _ h8)).trans h8,(World.cell?_alloc_lt w2' _ ⟨w.heap.size,1,none⟩ (World.block_lt_of_cell? w2' _ h9)).trans h9⟩
    | exact ⟨(((Below.refl w5.heap.size w2').setCell (p:=⟨w5.heap.size,0,none⟩) (zG _) _).cell (p:=⟨Bb,1,none⟩) hsz).trans h8,(((Below.refl w5.heap.size w2').setCell (p:=⟨w5.heap.size,0,none⟩) (zG _) _).cell (p:=⟨w.heap.size,1,none⟩) hbl).trans h9⟩)
   (first
    | (go_at_call 55; (with_reducible refine (CA.out _ ?hbb).mono ?_); (case hbb=>exact ((Below.refl _ _).drew)); rintro e w2' ⟨E9,l9,A9,n9,c9,O9,hp9,rfl,hl9,hr9,hb9⟩; have HL9:=zh hl9; clear hl9; have h8:w2'.cell? ⟨Bb,1,none⟩=some (.slice A n c):=(hb9.cell (p:=⟨Bb,1,none⟩) hsz).trans q0; have h9:w2'.cell? ⟨w.heap.size,1,none⟩=some (.int .i64 id):=(hb9.cell (p:=⟨w.heap.size,1,none⟩) hbl).trans g0')
    | (go_at_call 55; (with_reducible refine (CA.out _ ?hbb).mono ?_); (case hbb=>exact (((Below.refl _ _).alloc (zG _) _).drew)); rintro e w2' ⟨E9,l9,A9,n9,c9,O9,hp9,rfl,hl9,hr9,hb9⟩; have HL9:=zh hl9; clear hl9; have e0:w2'.cell? ⟨w5.heap.size,0,none⟩=some (.slice none 0 0):=(hb9.cell (p:=⟨w5.heap.size,0,none⟩) (by simp)).trans ((Blk.new w5 _ _).cell 0); have e1:w2'.frozen? ⟨w5.heap.size,0,none⟩=false:=(hb9.frozen (p:=⟨w5.heap.size,0,none⟩) (by simp)).trans ((Blk.new w5 _ _).frozen 0); have h8:w2'.cell? ⟨Bb,1,none⟩=some (.slice A n c):=((hb9.cell (p:=⟨Bb,1,none⟩) (by simp; omega)).trans (World.cell?_alloc_lt w5 _ ⟨Bb,1,none⟩ hsz)).trans q0; have h9:w2'.cell? ⟨w.heap.size,1,none⟩=some (.int .i64 id):=((hb9.cell (p:=⟨w.heap.size,1,none⟩) (by simp; omega)).trans (World.cell?_alloc_lt w5 _ ⟨w.heap.size,1,none⟩ hbl)).trans g0'))
  all_goals (go_wp2_with fail; go_meet)
  ·exact cutR_1 hp9 HL9.out hr9 hb9
  ·exact cutR_2 hp9 HL9.out hr9 hb9
 case rest =>
 obtain ⟨x9,A9,n9,c9,O9,E9,l9,rfl,rfl,hp9,hl9,hx9,hr9,hb9⟩:=hcut
 obtain ⟨hE9,hl59⟩:=hp9.det HP5.out
 have HL7:=zh hl9
 clear hl9
 subst hE9 hl59
 rename World=>w7
 have HBb7:=zh (HBb5.out.below hb9 hsz)
 have HA7:=zh (HA5.out.new_below hb9)
 have HR7:=zh hr9
 have HB7:=zh (HB5.out.trans (hb9.mono (by have:=HB5.out.size; omega)))
 have y0:=hx9.cell 0
 have z1:=HBb7.out.cell 1
 have zf:=HBb7.out.frozen 1
 simp only [zA,zB,zC] at y0 z1
 have hbl7:=HBb7.out.lt
 clear hp9 hx9 hr9 hb9 CA q0 g0'
 have hfin:StepP n0 w Bb K l ⟨d,id,s,ids⟩ (.returned (.bool true)) (w7.setCell ⟨Bb,1,none⟩ (.slice A9 n9 c9)):=by
  refine ⟨l9,StepR.put H3.out H4.out (by rw [HCS.out]; exact HP5.out),rfl,⟨⟨X,A9,n9,c9,O9,by simpa using HBb7.out.set_ 1 (.slice A9 n9 c9),?_,rat_set HBb7.out (noIS_two _ _ _ _) HR7.out 1 _,HL7.out⟩,hl5,hbb⟩,?_⟩
  ·have:=aln_set HBb7.out (noIS_two _ _ _ _) (by decide) HA7.out 1 (.slice A9 n9 c9)
   obtain ⟨cn9,R1,R2,E1,E2,r1,r2⟩:=this.ex
   exact ⟨cn9,R1,R2,E1,E2,by omega,r2⟩
  ·exact HB7.out.grown (grownBy_set w7 Bb 1 _) (by omega) (fun b hb=>by injection hb with hb; omega)
 have FIN:=zh hfin
 clear hfin
 go_wp2
 go_ret
 exact FIN.out
end Go.Proofs.YtlfpfkallgkjdaaGreat.Al
end

section
namespace Go.Proofs.YtlfpfkallgkjdaaGreat.Al
open Go.RowKit Go.ChangeShapes Go.WideShapes Go.ChangeAt Go.Deep Go.Joins Ut Tk Qy Ev Qp Mx
def OpC (w:World) (o:Opr) (cs:List Value):Prop:=∃ I m mc,cs=[.int .u8 o.d,.int .i64 o.id,.string o.s,.slice I m mc]∧OpV w o I m mc
theorem OpC.len {w:World} {o:Opr} {cs:List Value} (h:OpC w o cs):cs.length=4:=by obtain ⟨I,m,mc,rfl,_⟩:=h; rfl
structure OpsAt (w:World) (A:Option Addr) (n c:Nat) (l:List Opr):Prop where
 ln:l.length=n
 few:n≤4398046511104
 cap:n≤c
 ex:∃ vss:List (List Value),vss.length=n∧ReadsS w (Sc w) 4 A n vss.flatten∧∀ i (h:i<l.length) (h':i<vss.length),OpC w l[i] vss[i]
theorem OpC.below {w w':World} {o:Opr} {cs:List Value} (h:OpC w o cs) (hb:Below w.heap.size w w'):OpC w' o cs:=by
 obtain ⟨I,m,mc,e,h⟩:=h
 exact ⟨I,m,mc,e,h.below hb⟩
theorem OpsAt.below {w w':World} {A:Option Addr} {n c:Nat} {l:List Opr} (h:OpsAt w A n c l) (hb:Below w.heap.size w w'):OpsAt w' A n c l:=by
 obtain ⟨vss,h1,h2,h3⟩:=h.ex
 exact ⟨h.ln,h.few,h.cap,vss,h1,reads_chg (O:=fun _=>False) h2 (Chg.of_new hb) (fun _ h=>h.elim),fun i a b=>(h3 i a b).below hb⟩
theorem OpsAt.at_ {w:World} {A:Option Addr} {n c:Nat} {l:List Opr} (h:OpsAt w A n c l) {i:Nat} (hi:i<l.length) :
  ∃ b o I m mc,A=some ⟨b,o,none⟩∧b<w.heap.size∧w.cell? ⟨b,o+i * 4,none⟩=some (.int .u8 l[i].d)∧w.cell? ⟨b,o+i * 4+1,none⟩=some (.int .i64 l[i].id)∧w.cell? ⟨b,o+i * 4+2,none⟩=some (.string l[i].s) ∧
   w.cell? ⟨b,o+i * 4+3,none⟩=some (.slice I m mc)∧OpV w l[i] I m mc:=by
 obtain ⟨vss,h1,h2,h3⟩:=h.ex
 have hl:=h.ln
 have hi':i<vss.length:=by omega
 have h4:∀ v∈vss,v.length=4:=fun v hv=>by
  obtain ⟨j,hj,rfl⟩:=List.mem_iff_getElem.1 hv
  exact (h3 j (by omega) hj).len
 obtain ⟨I,m,mc,e,g⟩:=h3 i hi hi'
 obtain ⟨b,o,eA,hb,hc⟩:=h2.2 (by omega)
 have f0:=flat_get h4 i 0 hi' (by omega)
 have f1:=flat_get h4 i 1 hi' (by omega)
 have f2:=flat_get h4 i 2 hi' (by omega)
 have f3:=flat_get h4 i 3 hi' (by omega)
 rw [e] at f0 f1 f2 f3
 have c0:=hc _ _ f0
 have c1:=hc _ _ f1
 have c2:=hc _ _ f2
 have c3:=hc _ _ f3
 rw [← Nat.add_assoc] at c1 c2 c3
 exact ⟨b,o,I,m,mc,eA,hb.lt,c0,c1,c2,c3,g⟩
section
variable {H:Type} {enc:TypeId × Value→H} {W:World} {base:Nat}
theorem op_cells:Tryz.prog.cellsOf 60=4:=by kernel_rfl
theorem op_bytes:Tryz.prog.bytesOf 60=56:=by kernel_rfl
theorem int_bytes:Tryz.prog.bytesOf 3=8:=by kernel_rfl
theorem u8_cells:Tryz.prog.cellsOf 5=1:=by kernel_rfl
theorem ints_cells:Tryz.prog.cellsOf 38=1:=by kernel_rfl
theorem ints_at {fuel:Nat} {v:Value} {x:DataW H × List MemPlace} (h:DataW.trod enc Tryz.prog W 0 (fun _=>true) true fuel 38 [v]=some x) (hw:∀ n∈x.1.weights Tryz.prog 38,n≤140737488351232) :
  ∃ (A:Option Addr) (len cap:Nat) (zs:List Int),v=.slice A len cap∧ReadsS W (Sc W) 1 A len (itv zs)∧(∀ n∈zs,I64 n)∧zs.length=len∧len≤cap∧len≤17592186043904:=by
 rcases open_ints Tryz.underlying38 Tryz.underlying3 int_cells h with ⟨hcs,_⟩ | ⟨a,len,cap,zs,hcs,_,hl,hm,hz,hx,hcell,hwz⟩
 ·simp only [List.cons.injEq,and_true] at hcs
  subst hcs
  exact ⟨none,0,0,[],rfl,⟨by simp [itv],fun h=>by omega⟩,by simp,rfl,zG _,by omega⟩
 ·simp only [List.cons.injEq,and_true] at hcs
  subst hcs
  have hlen:zs.length=cap:=by simpa using hz
  have hd:x.1=.slice (lits .i64 (zs.take len)) (lits .i64 (zs.drop len)):=by rw [hx]
  rw [hd] at hw
  have h1:=hw ((zs.take len).length * 8+(zs.drop len).length * 8) (by
   simp only [DataW.weights,Tryz.underlying38,lits,List.length_map,int_bytes,← Nat.add_mul]
   exact List.mem_cons_self)
  have hle:len * 8≤140737488351232:=by
   rw [List.length_take,Nat.min_eq_left (by omega)] at h1; omega
  refine ⟨some a,len,cap,zs.take len,rfl,?_,fun n hn=>hwz n (List.mem_of_mem_take hn),by rw [List.length_take]; omega,by omega,by omega⟩
  have hr:Reads W W.heap.size 1 (some a) len ((zs.take len).map (Value.int .i64)):=by
   rw [← range_map_getD zs 0 len (by omega),List.map_map]
   by_cases h0 : 0<len
   ·exact Reads.of_in rfl (World.block_lt_of_cell? W _ (by simpa [Addr.add] using hcell 0 (by omega))) (fun i hi=>hcell i (by omega))
   ·obtain rfl:len=0:=by omega
    exact Reads.none_
  exact reads_sc (reads_s hr) (by decide)
theorem len_four {α:Type} {l:List α} (h:l.length=4):∃ a b c d,l=[a,b,c,d]:=by
 match l,h with
 | [a,b,c,d],_=>exact ⟨a,b,c,d,rfl⟩
theorem u8_wf {m:Int} (hm:(Lit.int .u8 m).wf=true) : 0≤m∧m≤255:=by
 have h:IntKind.u8.min≤m∧m≤IntKind.u8.max:=by simpa [Lit.wf] using hm
 have e1:IntKind.u8.min=0:=rfl
 have e2:IntKind.u8.max=255:=rfl
 omega
theorem op_at {fuel:Nat} {cs:List Value} {x:DataW H × List MemPlace} (h:DataW.trod enc Tryz.prog W 0 (fun _=>true) true fuel 60 cs=some x) (hw:∀ n∈x.1.weights Tryz.prog 60,n≤140737488351232) :
  ∃ o:Opr,OpC W o cs:=by
 obtain ⟨y0,y1,y2,y3,n',rfl,hlen,t0,t1,t2,t3⟩:=trod_struct4 Tryz.underlying60 h
 rw [op_cells] at hlen
 obtain ⟨u0,u1,u2,u3,rfl⟩:=len_four hlen
 simp only [u8_cells,int_cells,string_cells2,ints_cells,List.drop_zero,List.drop_succ_cons,List.take_succ_cons,List.take_zero] at t0 t1 t2 t3
 obtain ⟨k0,e0,_,w0⟩:=DataW.trod_int Tryz.underlying5 t0
 obtain ⟨k1,e1,_,w1⟩:=DataW.trod_int Tryz.underlying3 t1
 obtain ⟨s2,e2,rfl,_⟩:=DataW.trod_string Tryz.underlying9 t2
 simp only [List.cons.injEq,and_true] at e0 e1 e2
 subst e0 e1 e2
 have g2:=weights_part (j:=2) Tryz.underlying60 hw rfl rfl s2.data.toList.length (by simp [DataW.weights])
 rw [bsize] at g2
 obtain ⟨A,len,cap,zs,rfl,hR,hz,hl,hc,hf⟩:=ints_at t3 (weights_part (j:=3) Tryz.underlying60 hw rfl rfl)
 exact ⟨⟨k0,k1,s2,zs⟩,A,len,cap,rfl,hR,hl,hf,hc,hz,u8_wf w0,w1,g2⟩
theorem ops_in {v:Value} {d:DataW H} {p:List MemPlace} (hv:Value.okWide Tryz.prog W .any base 30 v) (h:DataW.Trod enc Tryz.prog W 0 (fun _=>true) true 30 v d p) (hw:∀ n∈d.weights Tryz.prog 30,n≤140737488351232) :
  ∃ (A:Option Addr) (n c:Nat) (l:List Opr),v=.slice A n c∧OpsAt W A n c l:=by
 obtain ⟨A0,n0,c0,rfl⟩:=okWide_slice Tryz.underlying30 hv
 obtain ⟨fuel,hf⟩:=h
 have hf:DataW.trod enc Tryz.prog W 0 (fun _=>true) true fuel 30 [.slice A0 n0 c0]=some (d,p):=by simpa [Value.cells] using hf
 obtain ⟨A,len,cap,vss,ds,spare,e,hl,hvl,h3,hR,hd,hx,hall⟩:=slice_at Tryz.underlying30 op_cells (by omega) hf
 injection e with ea el ec
 subst ea el ec
 have each:∀ i:Nat,∃ b:Opr,∀ (h1:i<vss.length),OpC W b vss[i]:=fun i=>by
  by_cases hi:i<vss.length
  ·obtain ⟨n',y,g1,g2⟩:=hall i hi (by omega)
   have hm:ds[i]'(by omega)∈ds:=List.getElem_mem _
   rcases hx with hx | ⟨z0,_⟩
   ·have hx:d=.slice ds spare:=hx
    rw [hx] at hw
    obtain ⟨q,hq⟩:=op_at g1 (by rw [g2]; exact weights_elem Tryz.underlying30 hw hm)
    exact ⟨q,fun _=>hq⟩
   ·omega
  ·exact ⟨⟨0,0,ByteArray.empty,[]⟩,fun h=>absurd h hi⟩
 obtain ⟨f,hf'⟩:=Classical.skolem.1 each
 have hbd:n0≤4398046511104:=by
  rcases hx with hx | ⟨z0,_⟩
  ·have hx:d=.slice ds spare:=hx
   rw [hx] at hw
   have:=weights_len Tryz.underlying30 hw
   rw [op_bytes] at this
   omega
  ·omega
 refine ⟨A0,n0,c0,(List.range n0).map f,rfl,⟨by simp,hbd,hl,vss,hvl,reads_sc (reads_s hR) (by decide),fun i h1 h2=>?_⟩⟩
 have:=hf' i h2
 simpa using this
end
end Go.Proofs.YtlfpfkallgkjdaaGreat.Al
end
