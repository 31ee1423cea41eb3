/- cursor.Decode: the walk (printed by gen_cug.py). -/
import Derived.Test.YtmomjpolkkbhnaaGreatQModelPagesRow34
import Derived.Test.YtmomjpolkkbhnaaGreatQModelPagesRow35
import Derived.Test.YtmomjpolkkbhnaaGreatQModelPagesRow33
import Derived.Test.YtmomjpolkkbhnaaGreatQModelPagesRow15
import Derived.Test.YtmomjpolkkbhnaaGreatQModelPagesRow0
set_option linter.unusedSimpArgs false
set_option linter.unusedVariables false
set_option maxRecDepth 100000
section
namespace Go.Proofs.YtmomjpolkkbhnaaGreat.Cu
open Go.RowKit Cr Qp Qy Ph
structure Rdr (w0 w:World) (L:List UInt8) (a:Int) (q:ByteArray):Prop where
 ex:∃ A m c,Blk w (w0.heap.size+1) 168 #[.slice A m c,.int .i64 a,.string q]∧Lf w (w0.heap.size+1) A m c L
 res:Blk w w0.heap.size 122 #[.int .i64 0,.string ⟨#[]⟩]
 bel:Below w0.heap.size w0 w
theorem Rdr.moved {w0 w:World} {L M:List UInt8} {a:Int} {q:ByteArray} (h:Rdr w0 w L a q) {A:Option Addr} {m c:Nat} (hL:Lf (w.setCell ⟨w0.heap.size+1,0,none⟩ (.slice A m c)) (w0.heap.size+1) A m c M):Rdr w0 (w.setCell ⟨w0.heap.size+1,0,none⟩ (.slice A m c)) M a q:=by
 obtain ⟨⟨A',m',c',hB,_⟩,hr,hb⟩:=h
 exact ⟨⟨A,m,c,hB.set_ 0 _,hL⟩,hr.far (by simp) _,hb.setCell (p:=⟨w0.heap.size+1,0,none⟩) (Nat.le_succ _) _⟩
theorem Lf.far {w:World} {g:Nat} {A:Option Addr} {m c:Nat} {L:List UInt8} (h:Lf w g A m c L) (o:Nat) (ho:o≠0) (u:Value):Lf (w.setCell ⟨g,o,none⟩ u) g A m c L:=by
 refine ⟨?_,by rw [World.frozen?_setCell]; exact h.fz,h.le,h.ln,fun hm=>?_,h.nil⟩
 ·rw [World.cell?_setCell_other _ _ _ _ (by simp [ho])]
  exact h.cell
 ·obtain ⟨b,o',e,hb,hne,hc⟩:=h.rd hm
  exact ⟨b,o',e,by simpa [World.setCell] using hb,hne,fun j u' hu=>by
   rw [World.cell?_of_block (w:=w) (Below.heap_setCell w ⟨g,o,none⟩ u b hne)]
   exact hc j u' hu⟩
theorem Lf.below {w w':World} {g:Nat} {A:Option Addr} {m c:Nat} {L:List UInt8} (h:Lf w g A m c L) (hg:g<w.heap.size) (hb:Below w.heap.size w w'):Lf w' g A m c L:=by
 refine ⟨(hb.cell (p:=⟨g,0,none⟩) hg).trans h.cell,(hb.frozen (p:=⟨g,0,none⟩) hg).trans h.fz,h.le,h.ln,fun hm=>?_,h.nil⟩
 obtain ⟨b,o',e,hlt,hne,hc⟩:=h.rd hm
 exact ⟨b,o',e,Nat.lt_of_lt_of_le hlt hb.size,hne,fun j u' hu=>(hb.cell (p:=⟨b,_,none⟩) hlt).trans (hc j u' hu)⟩
theorem Rdr.after {w0 w:World} {L:List UInt8} {a:Int} {q:ByteArray} (h:Rdr w0 w L a q) (b:Int):Rdr w0 (w.setCell ⟨w0.heap.size+1,1,none⟩ (.int .i64 b)) L b q:=by
 obtain ⟨⟨A',m',c',hB,hL⟩,hr,hb⟩:=h
 exact ⟨⟨A',m',c',hB.set_ 1 _,hL.far 1 (by omega) _⟩,hr.far (by simp) _,hb.setCell (p:=⟨w0.heap.size+1,1,none⟩) (Nat.le_succ _) _⟩
theorem Rdr.query {w0 w:World} {L:List UInt8} {a:Int} {q:ByteArray} (h:Rdr w0 w L a q) (s:ByteArray):Rdr w0 (w.setCell ⟨w0.heap.size+1,2,none⟩ (.string s)) L a s:=by
 obtain ⟨⟨A',m',c',hB,hL⟩,hr,hb⟩:=h
 exact ⟨⟨A',m',c',hB.set_ 2 _,hL.far 2 (by omega) _⟩,hr.far (by simp) _,hb.setCell (p:=⟨w0.heap.size+1,2,none⟩) (Nat.le_succ _) _⟩
theorem Rdr.lt {w0 w:World} {L:List UInt8} {a:Int} {q:ByteArray} (h:Rdr w0 w L a q):w0.heap.size+1<w.heap.size:=by
 obtain ⟨⟨A',m',c',hB,hL⟩,hr,hb⟩:=h
 exact hB.lt
theorem Rdr.drew {w0 w:World} {L:List UInt8} {a:Int} {q:ByteArray} (h:Rdr w0 w L a q):Rdr w0 w.drew L a q:=by
 obtain ⟨⟨A',m',c',hB,hL⟩,hr,hb⟩:=h
 exact ⟨⟨A',m',c',hB,hL.cell,hL.fz,hL.le,hL.ln,hL.rd,hL.nil⟩,hr,hb.drew⟩
theorem Rdr.below {w0 w w':World} {L:List UInt8} {a:Int} {q:ByteArray} (h:Rdr w0 w L a q) (hb:Below w.heap.size w w'):Rdr w0 w' L a q:=by
 obtain ⟨⟨A',m',c',hB,hL⟩,hr,hbl⟩:=h
 exact ⟨⟨A',m',c',hB.below hb hB.lt,hL.below hB.lt hb⟩,hr.below hb hr.lt,hbl.trans (hb.mono hbl.size)⟩
theorem blk_over {w:World} {g:Nat} {a0 a1 b0 b1:Value} (h:Blk w g 122 #[a0,a1]):Blk ((w.setCell ⟨g,0,none⟩ b0).setCell ⟨g,1,none⟩ b1) g 122 #[b0,b1]:=by
 have:=(h.set_ 0 b0).set_ 1 b1
 simpa using this
theorem dec_results {fn:Func} {p1 p2:Tmp} (hf:fn.results=#[.cell p1 122,.tmp p2]) {tmps:Array Value} {W:World} {b1:Nat} {a0 a1 v:Value} (h1:tmps.getD p1 undef=.pointer (some ⟨b1,0,none⟩)) (h2:tmps.getD p2 undef=v) (B1:Blk W b1 122 #[a0,a1]) :
  (results fn tmps).run Tryz.prog W=.ok (.tuple #[.agg #[a0,a1],v]) W:=by
 have l1:=run_loadVar_row (P:=Tryz.prog) W b1 122 122 #[a0,a1] (0,0) _ B1 Tryz.underlying122 rfl (by kernel_rfl)
 have h1':tmps[p1]?.getD undef=.pointer (some ⟨b1,0,none⟩):=by simpa using h1
 have h2':tmps[p2]?.getD undef=v:=by simpa using h2
 simp [results,hf,h1',h2',asAddr,l1]
set_option maxHeartbeats 6400000 in
theorem decode_any (A:Option Addr) (m c:Nat) (L:List UInt8) (w:World) (hR:Reads w w.heap.size 1 A m (bv L)) (hm:m≤140737488351232) (hc:m≤c) (hnil:A=none→c=0):Calls Tryz.prog 70 #[.slice A m c] w (DecTo w L):=by
 have hln:L.length=m:=by have:=hR.1; rw [bv_len] at this; omega
 have hb2:=((Below.refl w.heap.size w).alloc (zG _) (.cells #[.int .i64 0,.string ⟨#[]⟩] 122)).alloc (by simp) (.cells #[.slice A m c,.int .i64 0,.string ⟨#[]⟩] 168)
 have hBr:=(Blk.new w 122 #[.int .i64 0,.string ⟨#[]⟩]).alloc (.cells #[.slice A m c,.int .i64 0,.string ⟨#[]⟩] 168)
 have hBx:=Blk.new (w.alloc (.cells #[.int .i64 0,.string ⟨#[]⟩] 122)) 168 #[.slice A m c,.int .i64 0,.string ⟨#[]⟩]
 have hz:(w.alloc (.cells #[.int .i64 0,.string ⟨#[]⟩] 122)).heap.size=w.heap.size+1:=by simp
 rw [hz] at hBx
 have hR0:Rdr w ((w.alloc (.cells #[.int .i64 0,.string ⟨#[]⟩] 122)).alloc (.cells #[.slice A m c,.int .i64 0,.string ⟨#[]⟩] 168)) L 0 ⟨#[]⟩:=by
  refine ⟨⟨A,m,c,hBx,⟨hBx.cell 0,hBx.frozen 0,hc,hln,fun hp=>?_,hnil⟩⟩,hBr,hb2⟩
  obtain ⟨b,o,e,hb,hcl⟩:=hR.2 hp
  refine ⟨b,o,e,by simp; omega,by omega,fun j u hu=>?_⟩
  exact (hb2.cell (p:=⟨b,o+j,none⟩) hb).trans (hcl j u hu)
 have HR0:=zh hR0
 have HL:=zh hln
 have HR:=zh hR
 clear hb2 hBr hBx hR0 hln hR hz
 go_enter Tryz.func70,Tryz.ntmps70
 go_wp2_with fail
 generalize hw2:(w.alloc (.cells #[.int .i64 0,.string ⟨#[]⟩] 122)).alloc (.cells #[.slice A m c,.int .i64 0,.string ⟨#[]⟩] 168)=w2 at *
 clear hw2
 obtain ⟨A0,m0,c0,hB0,hL0⟩:=HR0.out.ex
 have hlm0:m0≤140737488351232:=by have:=hL0.ln; have:=HL.out; omega
 have cn:=next_any w2 (w.heap.size+1) A0 m0 c0 3 L hL0 hlm0 (by omega)
 clear hB0 hL0
 refine cn.mono ?_
 rintro e w3 ⟨A1,m1,c1,A2,c2,rfl,hln1,rfl,_,_,_,hL3⟩
 have HR3:=zh (HR0.out.moved hL3)
 clear cn hln1 hL3 HR0
 generalize hw3:w2.setCell ⟨w.heap.size+1,0,none⟩ (.slice A2 (m1 - min 3 m1) c2)=w3 at *
 clear hw3
 obtain ⟨A3,m3,c3,hB3,hL3⟩:=HR3.out.ex
 have hlm3:m3≤140737488351232:=by have:=hL3.ln; rw [List.length_drop] at this; have:=HL.out; omega
 have cn:=number_any w3 (w.heap.size+1) A3 m3 c3 8 (L.drop 3) hL3 hlm3 (by omega)
 clear hB3 hL3
 go_wp2_with fail
 refine cn.mono ?_
 rintro e w4 ⟨rfl,A4,m4,c4,rfl,hL4⟩
 have HR4:=zh (HR3.out.moved hL4)
 have Hz:Hid (aOf L<9223372036854775808→wrap64 (num ((L.drop 3).take 8):Nat)=(aOf L:Int)):=zh (fun h=>by
  unfold aOf at h ⊢
  exact IntWalk.wrap64_in _ (by omega))
 clear cn hL4 HR3
 generalize wrap64 (num ((L.drop 3).take 8):Nat)=z at *
 generalize hw4:w3.setCell ⟨w.heap.size+1,0,none⟩ (.slice A4 m4 c4)=w4 at *
 clear hw4
 rw [List.drop_drop] at HR4
 obtain ⟨A5,m5,c5,hB5,_⟩:=HR4.out.ex
 have hd1:=hB5.cell 1
 have hf1:=hB5.frozen 1
 simp at hd1
 clear hB5
 go_upto_region 4 with (fail)
 have HR5:=zh (HR4.out.after z)
 clear HR4 hd1 hf1
 generalize hw5:w4.setCell ⟨w.heap.size+1,1,none⟩ (.int .i64 z)=w5 at *
 clear hw5
 refine wp_region_ph_tail 10 (specOf [(7,⟨Unit,fun _=>.int .i64 (nOf L:Int),fun _ wx=>Rdr w wx (L.drop 13) z ⟨#[]⟩⟩),(8,⟨Option Addr × Nat × Nat,fun x=>.slice x.1 x.2.1 x.2.2,fun x wx=>(∃ M,Rdr w wx M z ⟨#[]⟩)∧Reads wx wx.heap.size 1 x.1 x.2.1 (bv (qOf L))⟩),(9,⟨Unit,fun _=>.string ⟨(qOf L).toArray⟩,fun _ wx=>∃ M,Rdr w wx M z ⟨#[]⟩⟩)])
  (fun _=>True) (fun wx=>Rdr w wx (L.drop 11) z ⟨#[]⟩) (by kernel_rfl) (by kernel_rfl) (turns_of (by kernel_rfl)) trivial HR5.out.drew ?_
 refine ph_fix 1 ?_ rfl (by rfl) (by rfl) (fun wx hC=>?_) ?_
 rotate_left
 ·go_simp
  all_goals with_reducible rfl
 try simp only [Act.put,zD,zE,zF]
 refine ph_fix 2 ?_ rfl (by rfl) (by rfl) (fun wx hC=>?_) ?_
 rotate_left
 ·go_simp
  all_goals with_reducible rfl
 try simp only [Act.put,zD,zE,zF]
 refine ph_fix 3 ?_ rfl (by rfl) (by rfl) (fun wx hC=>?_) ?_
 rotate_left
 ·go_simp
  all_goals with_reducible rfl
 try simp only [Act.put,zD,zE,zF]
 refine ph_fix 4 ?_ rfl (by rfl) (by rfl) (fun wx hC=>?_) ?_
 rotate_left
 ·go_simp
  all_goals with_reducible rfl
 try simp only [Act.put,zD,zE,zF]
 refine ph_fix 5 ?_ rfl (by rfl) (by rfl) (fun wx hC=>?_) ?_
 rotate_left
 ·go_simp
  all_goals with_reducible rfl
 try simp only [Act.put,zD,zE,zF]
 refine ph_fix 6 ?_ rfl (by rfl) (by rfl) (fun wx hC=>?_) ?_
 rotate_left
 ·go_simp
  all_goals with_reducible rfl
 try simp only [Act.put,zD,zE,zF]
 refine ph_fix 7 ?_ rfl (by rfl) (by rfl) (fun wx hC=>?_) ?_
 rotate_left
 ·go_simp
  all_goals with_reducible rfl
 try simp only [Act.put,zD,zE,zF]
 refine ph_give 8 _ rfl (by rfl) (by rfl) (fun wx hC hI=>?_) (fun x=>?_)
 ·refine give_enter (f:=?_) (args:=?_) ?_ ?_
  rotate_left 2
  ·go_simp
   all_goals first | with_reducible rfl | (refine ⟨?_,?_⟩ <;> with_reducible rfl)
  obtain ⟨A6,m6,c6,hB6,hL6⟩:=hI.ex
  have hlm6:m6≤140737488351232:=by have:=hL6.ln; rw [List.length_drop] at this; have:=HL.out; omega
  refine (number_any wx (w.heap.size+1) A6 m6 c6 2 (L.drop 11) hL6 hlm6 (by omega)).mono ?_
  rintro e w9 ⟨rfl,A9,m9,c9,rfl,hL9⟩
  have hR9:=hI.moved hL9
  rw [List.drop_drop] at hR9
  have hn:=num_lt ((L.drop 11).take 2)
  have hn2:num ((L.drop 11).take 2)<65536:=Nat.lt_of_lt_of_le hn (Nat.le_trans (Nat.pow_le_pow_right (by omega) (List.length_take_le _ _)) (by decide))
  exact ⟨_,rfl,trivial,trivial,(),by rw [IntWalk.wrap64_in _ (by omega)]; rfl,hR9⟩
 rename Unit=>x7
 try simp only [Act.put,zD,zE,zF]
 refine ph_give 9 _ rfl (by rfl) (by rfl) (fun wx hC hI=>?_) (fun x=>?_)
 ·refine give_enter (f:=?_) (args:=?_) ?_ ?_
  rotate_left 2
  ·go_simp
   all_goals first | with_reducible rfl | (refine ⟨?_,?_⟩ <;> with_reducible rfl)
  obtain ⟨A6,m6,c6,hB6,hL6⟩:=hI.ex
  have hlm6:m6≤140737488351232:=by have:=hL6.ln; rw [List.length_drop] at this; have:=HL.out; omega
  have hn:=num_lt ((L.drop 11).take 2)
  have hn2:nOf L<65536:=Nat.lt_of_lt_of_le hn (Nat.le_trans (Nat.pow_le_pow_right (by omega) (List.length_take_le _ _)) (by decide))
  refine (next_any wx (w.heap.size+1) A6 m6 c6 (nOf L) (L.drop 13) hL6 hlm6 (by omega)).mono ?_
  rintro e w9 ⟨A9,m9,c9,A10,c10,rfl,hln9,rfl,_,_,hR9,hL9⟩
  exact ⟨_,rfl,trivial,trivial,(A9,min (nOf L) m9,c9),rfl,⟨_,hI.moved hL9⟩,hR9⟩
 obtain ⟨A8,n8,c8⟩:=x
 try simp only [Act.put,zD,zE,zF]
 refine ph_give 10 _ rfl (by rfl) (by rfl) (fun wx hC hI=>?_) (fun x=>?_)
 ·refine give_value (u:=?_) (w':=?_) ?_ trivial ?_
  rotate_left 2
  ·have hcv:=conv_str c8 hI.2
   go_simp
   all_goals first | with_reducible rfl | (refine ⟨?_,?_⟩ <;> with_reducible rfl)
  exact ⟨trivial,(),rfl,hI.1⟩
 rename Unit=>x9
 try simp only [Act.put,zD,zE,zF]
 refine ph_nil (fun w6 hC hI=>?_)
 obtain ⟨M,hR6⟩:=hI
 have HR6:=zh hR6
 obtain ⟨A6,m6,c6,hB6,_⟩:=hR6.ex
 have hd2:=hB6.cell 2
 have hf2:=hB6.frozen 2
 simp at hd2
 have hlen:(qOf L).length≤m:=by unfold qOf; rw [List.length_take,List.length_drop]; have:=HL.out; omega
 have HS:Hid ((⟨(qOf L).toArray⟩:ByteArray).data.toList=qOf L):=zh (by simp)
 have hSz:(⟨(qOf L).toArray⟩:ByteArray).size≤m:=by rw [← bsize,HS.out]; exact hlen
 clear hB6 hR6 hC HR5 hlen
 generalize (⟨(qOf L).toArray⟩:ByteArray)=S at *
 go_upto_region 5 with (fail)
 have HR7:=zh (HR6.out.query S)
 clear HR6 hd2 hf2
 generalize hw7:w6.setCell ⟨w.heap.size+1,2,none⟩ (.string S)=w7 at *
 clear hw7
 obtain ⟨A7,m7,c7,hB7,_⟩:=HR7.out.ex
 have hd1:=hB7.cell 1
 have hd2:=hB7.cell 2
 simp at hd1 hd2
 have hlt7:=HR7.out.lt
 have Hdec:=zh (decR_of Hz.out (.inl HS.out))
 clear hB7
 by_cases hI:IsC z S
 ·obtain ⟨n,rfl⟩:∃ n:Nat,z=n:=⟨z.toNat,by have:=hI.1; omega⟩
  have ce:=encode_yes n S w7 hI
  have HI:=zh hI
  clear hI
  go_wp2_with fail
  refine ce.mono ?_
  rintro e w8 ⟨⟨v8,rfl,hown8⟩,hb8⟩
  have HR8:=zh (HR7.out.below hb8)
  have Hb8:Hid (Below w.heap.size w w8):=zh HR8.out.bel
  obtain ⟨A8',c8',rfl,hRd8⟩:=own_shape hown8
  have hcv1:=conv_str c8' hRd8
  have hcv2:=conv_str c (HR.out.below Hb8.out)
  obtain ⟨A9,m9,c9,hB9,_⟩:=HR8.out.ex
  have hd1:=hB9.cell 1
  have hd2:=hB9.cell 2
  simp at hd1 hd2
  have hBr:=HR8.out.res
  have hr0:=hBr.cell 0
  have hr1:=hBr.cell 1
  have hg0:=hBr.frozen 0
  have hg1:=hBr.frozen 1
  simp at hr0 hr1
  have HBr:=zh hBr
  clear ce hb8 hown8 hRd8 hB9 hBr HR7
  generalize hen:enc n S.data.toList=M8 at *
  have Hen:=zh hen
  clear hen
  by_cases hE:M8=L
  ·subst hE
   generalize (⟨M8.toArray⟩:ByteArray)=X at *
   go_wp2
   exact bodyPost_ret (dec_results rfl rfl rfl (blk_over HBr.out)) rfl ⟨n,S,0,.inl ⟨n,rfl,HI.out,Hen.out.symm,rfl⟩,rfl,(Hb8.out.setCell (p:=⟨w.heap.size,0,none⟩) (zG _) _).setCell (p:=⟨w.heap.size,1,none⟩) (zG _) _⟩
  ·have hX:((⟨M8.toArray⟩:ByteArray).toList == (⟨L.toArray⟩:ByteArray).toList)=false:=by
    rw [Tk.tl,Tk.tl,beq_eq_false_iff_ne]
    intro h
    exact hE (by simpa using h)
   have hXn:((⟨M8.toArray⟩:ByteArray).toList != (⟨L.toArray⟩:ByteArray).toList)=true:=by rw [bne,hX]; rfl
   have Hno:Hid (∀ (n:Nat) (q':ByteArray),IsC n q'→L≠enc n q'.data.toList):=zh (by
    rcases Hdec.out with ⟨n',e1,_,h2⟩ | h
    ·exact absurd (by rw [← Hen.out,← h2]; congr 1; omega) hE
    ·exact h)
   clear hE Hdec
   generalize (⟨M8.toArray⟩:ByteArray)=X at *
   generalize (⟨L.toArray⟩:ByteArray)=Y at *
   go_wp2
   exact bodyPost_ret (dec_results rfl rfl rfl (blk_over HBr.out)) rfl ⟨0,⟨#[]⟩,250,.inr ⟨Hno.out,rfl,rfl,rfl⟩,rfl,(Hb8.out.setCell (p:=⟨w.heap.size,0,none⟩) (zG _) _).setCell (p:=⟨w.heap.size,1,none⟩) (zG _) _⟩
 ·have ce:=encode_no z S w7 hI
  have Hno:Hid (∀ (n:Nat) (q':ByteArray),IsC n q'→L≠enc n q'.data.toList):=zh (by
   rcases Hdec.out with ⟨n',e1,h1,h2⟩ | h
   ·exact absurd h1 hI
   ·exact h)
  clear hI Hdec
  go_wp2_with fail
  refine ce.mono ?_
  rintro e w8 ⟨⟨v8,rfl,hown8⟩,hb8⟩
  have HR8:=zh (HR7.out.below hb8)
  have Hb8:Hid (Below w.heap.size w w8):=zh HR8.out.bel
  have hBr:=HR8.out.res
  have hr0:=hBr.cell 0
  have hr1:=hBr.cell 1
  have hg0:=hBr.frozen 0
  have hg1:=hBr.frozen 1
  simp at hr0 hr1
  have HBr:=zh hBr
  clear ce hb8 hown8 hBr HR7
  go_wp2
  exact bodyPost_ret (dec_results rfl rfl rfl (blk_over HBr.out)) rfl ⟨0,⟨#[]⟩,250,.inr ⟨Hno.out,rfl,rfl,rfl⟩,rfl,(Hb8.out.setCell (p:=⟨w.heap.size,0,none⟩) (zG _) _).setCell (p:=⟨w.heap.size,1,none⟩) (zG _) _⟩
end Go.Proofs.YtmomjpolkkbhnaaGreat.Cu
end

section
namespace Go.Proofs.YtmomjpolkkbhnaaGreat.Md
open Go.RowKit Ut Tk Qy Qp Ev Cu
theorem dcv_of {w:World} {S:Nat→Prop} {B:Nat} {d:Dc} {u:List Value} (h:DcS w S d u) (hS:∀ b,S b→b<B):DcV w B d u:=by
 obtain ⟨F,fn,fc,e,h1,h2⟩:=h.ex
 exact ⟨F,fn,fc,e,h1.mono hS,h2⟩
theorem own_at {w:World} {base:Nat} {A:Option Addr} {n c:Nat} {ds:List Dc} (h:DOwn w base (.slice A n c) ds):DocsAt w w.heap.size A n ds:=by
 obtain ⟨A',c',e,hD,_⟩:=h.read
 injection e with e1 e2 e3
 subst e1 e2
 obtain ⟨vss,h1,h2,h3⟩:=hD.ex
 exact ⟨rfl,vss,h1,h2.mono (fun b hb=>hb.2),fun i a b=>dcv_of (h3 i a b) (fun b hb=>hb.2.lt)⟩
def NoS (cs:Array Value):Prop:=∀ o s t,cs[o]?=some (.string s)→cs[o+1]?=some (.string t)→False
theorem noS_rs:NoS rs0:=fun o s t h1 h2=>by
 rcases Nat.lt_or_ge o 10 with ho | ho
 ·rcases (by omega:o=0∨o=1∨o=2∨o=3∨o=4∨o=5∨o=6∨o=7∨o=8∨o=9) with rfl | rfl | rfl | rfl | rfl | rfl | rfl | rfl | rfl | rfl <;> cases h1
 ·rw [Array.getElem?_eq_none (by simpa [rsC] using ho)] at h1
  cases h1
theorem noS_cu (a:Int) (q:ByteArray):NoS #[.int .i64 a,.string q]:=fun o s t h1 h2=>by
 rcases Nat.lt_or_ge o 2 with ho | ho
 ·rcases (by omega:o=0∨o=1) with rfl | rfl
  ·cases h1
  ·cases h2
 ·rw [Array.getElem?_eq_none (by simpa using ho)] at h1
  cases h1
structure DW (w:World) (v:Value) (ds:List Dc):Prop where
 ex:∃ base,∃ vss:List (List Value),vss.length=ds.length∧w.ownsRow base 48 3 v ds.length vss.flatten∧∀ i (h:i<ds.length) (h':i<vss.length),DcV w w.heap.size ds[i] vss[i]
theorem DW.of {w0 w:World} {v:Value} {ds:List Dc} (h:DocsOwn w0 w v ds):DW w v ds:=by
 obtain ⟨vss,h1,h2,h3⟩:=h.ex
 exact ⟨_,vss,h1,h2,fun i a b=>(h3 i a b).1⟩
theorem DW.below {w w':World} {v:Value} {ds:List Dc} (h:DW w v ds) (hb:Below w.heap.size w w'):DW w' v ds:=by
 obtain ⟨base,vss,h1,h2,h3⟩:=h.ex
 exact ⟨base,vss,h1,h2.kept (grow_of_below hb none) (by cases hv:v.ownBlock <;> simp),fun i a b=>((h3 i a b).keep fun _ _ hp=>hb.cell hp).more hb.size⟩
theorem DW.keep {w w':World} {v:Value} {ds:List Dc} {g:Nat} {T:TypeId} {cs:Array Value} (h:DW w v ds) (hg:Blk w g T cs) (hT : 48≠T) (hn:NoS cs) (hs:w.heap.size≤w'.heap.size) (hk:∀ b,b≠g→w'.heap[b]?=w.heap[b]?):DW w' v ds:=by
 obtain ⟨base,vss,h1,h2,h3⟩:=h.ex
 refine ⟨base,vss,h1,own_same h2 (fun b hb=>hk b (fun e=>by
  subst e
  exact hT ((tg_own h2 hb).one ⟨_,_,hg⟩))),fun i a b=>?_⟩
 obtain ⟨F,fn,fc,e,g1,g2⟩:=h3 i a b
 refine ⟨F,fn,fc,e,⟨g1.1,fun hn'=>?_⟩,g2⟩
 obtain ⟨bb,oo,e2,hlt,hc⟩:=g1.2 hn'
 have hne:bb≠g:=by
  cases hf:ds[i].fs with
  | nil=>have:=g2.1; rw [hf] at this; simp at this; omega
  | cons f l =>
   have h0:=hc 0 (.string f.1) (by rw [hf]; simp [fldC])
   have h1:=hc 1 (.string f.2) (by rw [hf]; simp [fldC])
   rintro rfl
   rw [Nat.add_zero,hg.cell oo] at h0
   rw [hg.cell (oo+1)] at h1
   exact hn oo _ _ h0 h1
 exact ⟨bb,oo,e2,Nat.lt_of_lt_of_le hlt hs,fun j u hj=>(World.cell?_of_block (hk bb hne)).trans (hc j u hj)⟩
theorem DW.at_ {w:World} {v:Value} {ds:List Dc} (h:DW w v ds):∃ A c,v=.slice A ds.length c∧DocsAt w w.heap.size A ds.length ds:=by
 obtain ⟨base,vss,h1,h2,h3⟩:=h.ex
 obtain ⟨A,c,rfl,hR,_⟩:=Ev.own_shape2 h2
 exact ⟨A,c,rfl,rfl,vss,h1,hR,h3⟩
def TlR (w':World) (m:M) (r:Rq) (base:Nat) (cs:Array Value):Prop:=∃ a q E,DecR r.cur a q E∧((E≠0∧cs=rsC E 0 0 nil nil nil 0 0 0 0)∨(E=0∧limB r.lim=false∧cs=rsC 1 0 0 nil nil nil 0 0 0 0) ∨
 (∃ qq p,E=0∧limB r.lim=true∧PrsR q.data.toList 0 (some qq)∧p=folP a m.acked r.lim (upL m (fun d=>matchB d.fs qq))∧((encN p.2 q≠0∧cs=rsC (encN p.2 q) 0 0 nil nil nil 0 0 0 0) ∨
  (encN p.2 q=0∧∃ A c v,DW w' (.slice A p.1.length c) p.1∧w'.ownsRow base 5 1 v (encL p.2 q).length (bv (encL p.2 q))∧cs=rsC 0 0 0 (.slice A p.1.length c) nil v 0 0 0 0))))
theorem dec_zero {L:List UInt8} {a:Int} {q:ByteArray} {E:Int} (h:DecR L a q E) (hE:E=0):IsC a q:=by
 rcases h with ⟨n,rfl,h1,_⟩ | ⟨_,_,_,e⟩
 ·exact h1
 ·rw [hE] at e; cases e
section
variable {w:World} {n0 X K:Nat} {v:Value} {m:M}
set_option maxHeartbeats 12800000 in
theorem tail_any (h:At w n0 X K v m) (hK:K≤60000) (r:Rq) (z:Rw) (hcur:Reads w w.heap.size 1 z.C z.cn (bv r.cur)) (hcn:z.cn≤140737488351232∧z.cn≤z.cc∧(z.C=none→z.cc=0)) :
  Calls Tryz.prog 36 #[.pointer (some ⟨X,0,none⟩),.agg (rqC r z)] w (ReP (fun w w' cs=>TlR w' m r w.heap.size cs) w):=by
 have hb:Below w.heap.size w ((w.alloc (.cells (rqC r z) 37)).alloc (.cells rs0 42)):=((Below.refl _ _).alloc (zG _) _).alloc (by simp) _
 have hq:=(Blk.new w 37 (rqC r z)).alloc (.cells rs0 42)
 have hr:=Blk.new (w.alloc (.cells (rqC r z) 37)) 42 rs0
 have z1:(w.alloc (.cells (rqC r z) 37)).heap.size=w.heap.size+1:=by simp
 rw [z1] at hr
 have H1:=zh (h.below hb)
 have HQ:=zh hq
 have HR:=zh hr
 have HB:=zh hb
 have hsw:w.heap.size+2≤(World.heap ((w.alloc (.cells (rqC r z) 37)).alloc (.cells rs0 42))).size:=by simp
 have hxl:=h.blk.lt
 have CD:Hid (∀ wx,Below w.heap.size w wx→Calls Tryz.prog 70 #[.slice z.C z.cn z.cc] wx (DecTo wx r.cur)):=zh (fun wx hb=>decode_any z.C z.cn z.cc r.cur wx ((hcur.below hb).more hb.size) hcn.1 hcn.2.1 hcn.2.2)
 have hfew:=h.few
 have HOK:=zh h.ok
 clear h hb hq hr z1 hcur hcn
 go_enter Tryz.func36,Tryz.ntmps36
 go_upto_region 1 with (fail)
 generalize ((w.alloc (.cells (rqC r z) 37)).alloc (.cells rs0 42))=w1 at *
 have q10:=HQ.out.cell 10
 simp only [rqC,zA,zB,zC] at q10
 go_wp2_with fail
 refine (CD.out w1 HB.out).mono ?_
 rintro e w2 ⟨a,q,E,hd,rfl,hb2⟩
 have HD:=zh hd
 have hb3:Below w2.heap.size w2 (w2.alloc (.cells #[.int .i64 a,.string q] 122)):=(Below.refl _ _).alloc (zG _) _
 have hb23:=hb2.trans (hb3.mono hb2.size)
 have HC3:=zh (Blk.new w2 122 #[.int .i64 a,.string q])
 have H3:=zh (H1.out.below hb23)
 have HR3:=zh (HR.out.below hb23 HR.out.lt)
 have HQ3:=zh (HQ.out.below hb23 HQ.out.lt)
 have HB3:=zh (HB.out.trans (hb23.mono HB.out.size))
 clear hb2 hb3 hb23 hd CD q10 H1 HR HQ HB
 have hEE:E=0∨E≠0:=by omega
 go_upto_region 2 with (fail)
 generalize w2.alloc (.cells #[.int .i64 a,.string q] 122)=w3 at *
 rcases hEE with rfl | hE
 ·have q7:=HQ3.out.cell 7
  have y1:=HC3.out.cell 1
  simp only [rqC,zA,zB,zC] at q7 y1
  have CL:=zh (limited_any r.lim w3)
  obtain ⟨lb,hlb⟩:∃ lb,limB r.lim=lb:=⟨_,rfl⟩
  rw [hlb] at CL
  have HLB:=zh hlb
  clear hlb
  cases lb with
  | false =>
   go_wp2_with fail
   refine CL.out.mono ?_
   rintro e w4 ⟨rfl,rfl⟩
   go_wp2_with fail
   refine (fails_any 1 _).mono ?_
   rintro e w9 ⟨rfl,hb9⟩
   have HB9:=zh (HB3.out.trans (hb9.mono HB3.out.size))
   have HR9:=zh (HR3.out.below hb9 HR3.out.lt)
   clear hb9
   have HX9:=zh (setRow_heap _ (w.heap.size+1) _ (rsC 1 0 0 nil nil nil 0 0 0 0) _ _ HR9.out)
   go_wp2_with (refine wpList_store_row (o:=⟨none,.store 42 _ _,_,_,_,_⟩) rfl 42 _ _ rfl (w.heap.size+1) (rsC 1 0 0 nil nil nil 0 0 0 0) rfl rfl 42 rs0 HR9.out (by kernel_rfl) rfl (by simp [rsC,Value.oneCell']) ?_)
   refine bodyPost_ret (results_cell rfl rfl (run_loadVar_row _ (w.heap.size+1) 42 42 _ (0,0) _ HX9.out Tryz.underlying42 rfl (by kernel_rfl))) rfl ?_
   exact ⟨_,rfl,below_setRow HB9.out (Nat.le_succ _) _,a,q,0,HD.out,.inr (.inl ⟨rfl,HLB.out,rfl⟩)⟩
  | true =>
   go_wp2_with fail
   refine CL.out.mono ?_
   rintro e w4 ⟨rfl,rfl⟩
   clear CL
   go_wp2_with fail
   refine (parse_any q w3).mono ?_
   rintro e w4 ⟨E,o,a0,a1,a2,a3,hp,rfl,hF,hb4⟩
   obtain ⟨A1,n1,c1,A2,n2,c2,e4⟩:=hF.four
   simp only [List.cons.injEq,and_true] at e4
   obtain ⟨rfl,rfl,rfl,rfl⟩:=e4
   obtain ⟨o',ho'⟩:=(dec_zero HD.out rfl).2.2
   obtain ⟨rfl,rfl⟩:=hp.det ho'
   obtain ⟨qq,rfl,hqs⟩:∃ qq,o=some qq∧QSz qq:=by
    rcases prs_z hp with ⟨_,q,rfl,h⟩ | ⟨h,_⟩
    ·exact ⟨q,rfl,h⟩
    ·exact absurd rfl h
   have HP:=zh hp
   have hk1:((some qq:Option Q).getD noQ)=qq:=rfl
   rw [hk1] at hF ⊢
   have hqt:QAt w4 w4.heap.size qq [.int .i64 qq.kind,.string qq.name,.slice A1 n1 c1,.slice A2 n2 c2]:=hF.at_ (fun b hb=>hb.2)
   have hb5:Below w4.heap.size w4 (w4.alloc (.cells #[.int .i64 qq.kind,.string qq.name,.slice A1 n1 c1,.slice A2 n2 c2] 60)):=(Below.refl _ _).alloc (zG _) _
   have hb45:=hb4.trans (hb5.mono hb4.size)
   have HQB:Hid (QBl (w4.alloc (.cells #[.int .i64 qq.kind,.string qq.name,.slice A1 n1 c1,.slice A2 n2 c2] 60)) w4.heap.size qq):=zh ⟨A1,n1,c1,A2,n2,c2,Blk.new _ _ _,hqt.grow hb5⟩
   have H5:=zh (H3.out.below hb45)
   have HR5:=zh (HR3.out.below hb45 HR3.out.lt)
   have HQ5:=zh (HQ3.out.below hb45 HQ3.out.lt)
   have HC5:=zh (HC3.out.below hb45 HC3.out.lt)
   have HB5:=zh (HB3.out.trans (hb45.mono HB3.out.size))
   have HQS:=zh hqs
   clear hb4 hb5 hb45 hqt hF hp ho' hk1 hqs q7 y1 H3 HR3 HQ3 HC3 HB3
   generalize hk5:qq.kind=k5 at *
   generalize hn5:qq.name=n5 at *
   clear hk5 hn5
   go_upto_region 9 with (fail)
   generalize w4.alloc (.cells #[.int .i64 k5,.string n5,.slice A1 n1 c1,.slice A2 n2 c2] 60)=w5 at *
   have CU:Hid (∀ wx,Below w5.heap.size w5 wx→Calls Tryz.prog 72 #[.pointer (some ⟨X,0,none⟩),.func (.func 73) #[] #[.pointer (some ⟨w4.heap.size,0,none⟩)]] wx (DocsPost wx (upL m (fun d=>matchB d.fs qq)))):=zh (fun wx hb=>up_any (H5.out.below hb) hK 73 #[.pointer (some ⟨w4.heap.size,0,none⟩)] (fun d=>matchB d.fs qq) (enters_of Tryz.func73 (by kernel_rfl) rfl)
    (fun d hd wy hb' Fa fc hF=>tail1_any d (ok_chk HOK.out d hd) qq HQS.out Fa fc _ wy (HQB.out.below (hb.trans (hb'.mono hb.size))) hF))
   have HUL:Hid ((upL m (fun d=>matchB d.fs qq)).length≤60000):=zh (Nat.le_trans (List.length_filter_le _ _) (Nat.le_trans hfew hK))
   obtain ⟨U,hu⟩:∃ U,upL m (fun d=>matchB d.fs qq)=U:=⟨_,rfl⟩
   rw [hu] at CU HUL
   have HU:=zh hu
   obtain ⟨p1,p2,hpp⟩:∃ p1 p2,folP a m.acked r.lim U=(p1,p2):=⟨_,_,rfl⟩
   have HPP:=zh hpp
   have CF:Hid (∀ wx A n c,DocsAt wx wx.heap.size A n U→Calls Tryz.prog 71 #[.agg #[.int .i64 a,.string q],.int .i64 m.acked,.int .i64 r.lim,.slice A n c] wx (FolTo wx (p1,p2) q)):=zh (fun wx A n c hD=>by rw [← HPP.out]; exact follow_any a m.acked r.lim q A n c U wx hD (by rw [← hD.ln]; have:=HUL.out; omega))
   have Hc:Hid (∀ wx,Below w5.heap.size w5 wx→wx.cell? ⟨w2.heap.size,0,none⟩=some (.int .i64 a)∧wx.cell? ⟨w2.heap.size,1,none⟩=some (.string q)∧wx.cell? ⟨X,10,none⟩=some (.int .i64 m.acked)∧wx.cell? ⟨w.heap.size,7,none⟩=some (.int .i64 r.lim)):=zh (fun wx hb=>by
    have r0:=(HC5.out.below hb HC5.out.lt).cell 0
    have r1:=(HC5.out.below hb HC5.out.lt).cell 1
    have r2:=(H5.out.below hb).blk.cell 10
    have r3:=(HQ5.out.below hb HQ5.out.lt).cell 7
    simp only [mdC,rqC,zA,zB,zC] at r0 r1 r2 r3
    exact ⟨r0,r1,r2,r3⟩)
   clear hu hpp
   refine wp_region_grow_tail 16 (specOf [(9,⟨Option Addr × Nat,fun x=>.slice x.1 U.length x.2,fun x wz=>DocsAt wz wz.heap.size x.1 U.length U⟩),(10,⟨Option Addr × Nat,fun x=>.tuple #[.slice x.1 p1.length x.2,.agg #[.int .i64 p2,.string q]],fun x wz=>DW wz (.slice x.1 p1.length x.2) p1⟩),(14,⟨Nat,fun x=>.pointer (some ⟨x,0,none⟩),fun g wx=>Blk wx g 122 #[.int .i64 0,.string ⟨#[]⟩]∧w5.heap.size≤g⟩)]) (fun wx=>Below w5.heap.size w5 wx) (fun w1 w2=>Below w1.heap.size w1 w2) (by kernel_rfl) (by kernel_rfl) (stab_cons (fun x wa wb hg h=>h.grow hg) (stab_cons (fun x wa wb hg h=>h.below hg) (stab_cons (fun x wa wb hg h=>⟨h.1.below hg h.1.lt,h.2⟩) (stab_nil)))) ((Below.refl _ _).drew) ?_
   simp only [List.take_succ_cons,List.take_zero,List.drop_succ_cons,List.drop_zero]
   iterate 8
    refine grow_fix _ ?_ rfl (by rfl) (by rfl) (fun wx hC hD=>?_) ?_
    rotate_left
    ·have hSw:=Hc.out wx hC
     go_simp
     all_goals with_reducible rfl
    try simp only [Act.put,zD,zE,zF]
   refine grow_fix 9 ?_ rfl (by rfl) (by rfl) (fun wx hC hD=>?_) ?_
   rotate_left
   ·have hmf:∀ (fn:Fn) (first cap:Array Value) (w:World),(Instr.makeFunc fn first cap).run Tryz.prog w=.ok (.func fn first cap) w:=fun _ _ _ _=>rfl
    have hSw:=Hc.out wx hC
    go_simp
    all_goals with_reducible rfl
   try simp only [Act.put,zD,zE,zF]
   refine grow_give 10 _ rfl (by rfl) (by rfl) (fun wx hC hD=>?_) (fun x=>?_)
   ·refine give_enter (f:=?_) (args:=?_) ?_ ?_
    rotate_left 2
    ·have hSw:=Hc.out wx hC
     go_simp
     all_goals first | with_reducible rfl | (refine ⟨?_,?_⟩ <;> with_reducible rfl)
    refine (CU.out wx hC).mono ?_
    rintro e w9 ⟨v9,rfl,hD9,hb9⟩
    obtain ⟨A9,c9,rfl,_⟩:=hD9.read
    exact ⟨_,rfl,hb9,hC.trans (hb9.mono hC.size),(A9,c9),rfl,own_at hD9⟩
   obtain ⟨A8,c8⟩:=x
   try simp only [Act.put,zD,zE,zF]
   refine grow_give 11 _ rfl (by rfl) (by rfl) (fun wx hC hD=>?_) (fun x=>?_)
   ·refine give_enter (f:=?_) (args:=?_) ?_ ?_
    rotate_left 2
    ·have hSw:=Hc.out wx hC
     go_simp
     all_goals first | with_reducible rfl | (refine ⟨?_,?_⟩ <;> with_reducible rfl)
    refine (CF.out wx A8 U.length c8 (upd_hit (deps_get hD 9 (by kernel_rfl)) (by decide))).mono ?_
    rintro e w9 ⟨v9,rfl,hD9⟩
    obtain ⟨vss,_,g2,_⟩:=hD9.ex
    obtain ⟨A9,c9,rfl,_⟩:=Ev.own_shape2 g2
    exact ⟨_,rfl,hD9.bel,hC.trans (hD9.bel.mono hC.size),(A9,c9),rfl,DW.of hD9⟩
   obtain ⟨A7,c7⟩:=x
   try simp only [Act.put,zD,zE,zF]
   iterate 3
    refine grow_fix _ ?_ rfl (by rfl) (by rfl) (fun wx hC hD=>?_) ?_
    rotate_left
    ·have hSw:=Hc.out wx hC
     go_simp
     all_goals with_reducible rfl
    try simp only [Act.put,zD,zE,zF]
   refine grow_give 15 _ rfl (by rfl) (by rfl) (fun wx hC hD=>?_) (fun x=>?_)
   ·refine give_value (u:=?_) (w':=?_) ?_ ?_ ?_
    rotate_left 2
    ·have hSw:=Hc.out wx hC
     go_simp
     all_goals first | with_reducible rfl | (refine ⟨?_,?_⟩ <;> with_reducible rfl)
    ·exact ((Below.refl _ _).alloc (zG _) _)
    ·exact ⟨hC.alloc hC.size _,wx.heap.size,rfl,Blk.new _ _ _,hC.size⟩
   rename Nat=>x9
   try simp only [Act.put,zD,zE,zF]
   refine grow_fix 16 ?_ rfl (by rfl) (by rfl) (fun wx hC hD=>?_) ?_
   rotate_left
   ·have hSw:=Hc.out wx hC
    go_simp
    all_goals with_reducible rfl
   try simp only [Act.put,zD,zE,zF]
   refine grow_nil (fun w6 hC hF=>?_)
   have HDO:=zh (upd_hit (upd_miss (hF 10) (by decide)) (by decide))
   have HG9:Hid (w.heap.size≤x9):=zh (Nat.le_trans HB5.out.size (upd_hit (hF 14) (by decide)).2)
   have HB6:=zh (HB5.out.trans (hC.mono HB5.out.size))
   have HR6:=zh (HR5.out.below hC HR5.out.lt)
   have hbl:=(upd_hit (hF 14) (by decide)).1
   clear hF hC CU CF Hc
   have y0:=hbl.cell 0
   have y1:=hbl.cell 1
   have y0f:=hbl.frozen 0
   have y1f:=hbl.frozen 1
   simp only [zA,zB,zC] at y0 y1
   have HX7:=zh (blk_over (b0:=.int .i64 p2) (b1:=.string q) hbl)
   have hgx:w.heap.size+1≠x9:=HR6.out.ne_ hbl (by decide)
   have hgw:w.heap.size≤x9:=HG9.out
   have HR7:=zh ((HR6.out.far (p:=⟨x9,0,none⟩) hgx (.int .i64 p2)).far (p:=⟨x9,1,none⟩) hgx (.string q))
   have HB7:=zh ((HB6.out.setCell (p:=⟨x9,0,none⟩) hgw (.int .i64 p2)).setCell (p:=⟨x9,1,none⟩) hgw (.string q))
   have HDO7:Hid (DW ((w6.setCell ⟨x9,0,none⟩ (.int .i64 p2)).setCell ⟨x9,1,none⟩ (.string q)) (.slice A7 p1.length c7) p1):=zh (HDO.out.keep hbl (by decide) (noS_cu _ _) (by simp [World.setCell]) (fun b hb=>(Below.heap_setCell _ _ _ _ hb).trans (Below.heap_setCell _ _ _ _ hb)))
   have CE:=zh (encode_any p2 q ((w6.setCell ⟨x9,0,none⟩ (.int .i64 p2)).setCell ⟨x9,1,none⟩ (.string q)))
   obtain ⟨en,hen⟩:∃ en,encN p2 q=en:=⟨_,rfl⟩
   rw [hen] at CE
   have HEN:=zh hen
   clear hen hbl HDO HB6 HR6
   go_upto_region 10 with (fail)
   generalize (w6.setCell ⟨x9,0,none⟩ (.int .i64 p2)).setCell ⟨x9,1,none⟩ (.string q)=w7 at *
   clear y0 y1 y0f y1f
   have y0:=HX7.out.cell 0
   have y1:=HX7.out.cell 1
   simp only [zA,zB,zC] at y0 y1
   go_wp2_with fail
   refine CE.out.mono ?_
   rintro e w8 hBT
   obtain ⟨v8,rfl,ho8⟩:=hBT.ex
   obtain ⟨A4,c4,rfl,_⟩:=Ev.own_shape2 ho8
   have HO8:=zh ho8
   have HB8:=zh (HB7.out.trans (hBT.bel.mono HB7.out.size))
   have HR8:=zh (HR7.out.below hBT.bel HR7.out.lt)
   have HDO8:=zh (HDO7.out.below hBT.bel)
   have hs7:=HB7.out.size
   clear hBT ho8 CE y0 y1
   by_cases hn:en=0
   ·subst hn
    have HX7:=zh (setRow_heap _ (w.heap.size+1) _ (rsC 0 0 0 (.slice A7 p1.length c7) nil (.slice A4 (encL p2 q).length c4) 0 0 0 0) _ _ HR8.out)
    go_wp2_with (refine wpList_store_row (o:=⟨none,.store 42 _ _,_,_,_,_⟩) rfl 42 _ _ rfl (w.heap.size+1) (rsC 0 0 0 (.slice A7 p1.length c7) nil (.slice A4 (encL p2 q).length c4) 0 0 0 0) rfl rfl 42 rs0 HR8.out (by kernel_rfl) rfl (by simp [rsC,Value.oneCell']) ?_)
    refine bodyPost_ret (results_cell rfl rfl (run_loadVar_row _ (w.heap.size+1) 42 42 _ (0,0) _ HX7.out Tryz.underlying42 rfl (by kernel_rfl))) rfl ?_
    have hD5:=HDO8.out.keep HR8.out (by decide) noS_rs (w':=w8.setRow (w.heap.size+1) (rsC 0 0 0 (.slice A7 p1.length c7) nil (.slice A4 (encL p2 q).length c4) 0 0 0 0)) (by simp) (fun b hb=>setRow_other w8 _ b _ hb)
    exact ⟨_,rfl,below_setRow HB8.out (Nat.le_succ _) _,a,q,0,HD.out,.inr (.inr ⟨qq,(p1,p2),rfl,HLB.out,HP.out,by rw [HU.out,HPP.out],.inr ⟨HEN.out,A7,c7,_,hD5,own_same (own_mono HO8.out hs7) (fun b hb=>setRow_other w8 _ b _ (fun e=>by
     subst e
     exact absurd ((tg_own HO8.out hb).one ⟨_,_,HR8.out⟩) (by decide))),rfl⟩⟩)⟩
   ·have hn2:(en != 0)=true:=by simpa using hn
    have HN:=zh hn
    clear hn
    go_wp2_with fail
    refine (fails_any en _).mono ?_
    rintro e w9 ⟨rfl,hb9⟩
    have HB9:=zh (HB8.out.trans (hb9.mono HB8.out.size))
    have HR9:=zh (HR8.out.below hb9 HR8.out.lt)
    clear hb9
    have HX9:=zh (setRow_heap _ (w.heap.size+1) _ (rsC en 0 0 nil nil nil 0 0 0 0) _ _ HR9.out)
    go_wp2_with (refine wpList_store_row (o:=⟨none,.store 42 _ _,_,_,_,_⟩) rfl 42 _ _ rfl (w.heap.size+1) (rsC en 0 0 nil nil nil 0 0 0 0) rfl rfl 42 rs0 HR9.out (by kernel_rfl) rfl (by simp [rsC,Value.oneCell']) ?_)
    refine bodyPost_ret (results_cell rfl rfl (run_loadVar_row _ (w.heap.size+1) 42 42 _ (0,0) _ HX9.out Tryz.underlying42 rfl (by kernel_rfl))) rfl ?_
    exact ⟨_,rfl,below_setRow HB9.out (Nat.le_succ _) _,a,q,0,HD.out,.inr (.inr ⟨qq,(p1,p2),rfl,HLB.out,HP.out,by rw [HU.out,HPP.out],.inl ⟨by show encN p2 q≠0; rw [HEN.out]; exact HN.out,by show _=rsC (encN p2 q) 0 0 nil nil nil 0 0 0 0; rw [HEN.out]⟩⟩)⟩
 ·have hE2:(E != 0)=true:=by simpa using hE
  have HE:=zh hE
  clear hE
  go_wp2_with fail
  refine (fails_any E _).mono ?_
  rintro e w9 ⟨rfl,hb9⟩
  have HB9:=zh (HB3.out.trans (hb9.mono HB3.out.size))
  have HR9:=zh (HR3.out.below hb9 HR3.out.lt)
  clear hb9
  have HX9:=zh (setRow_heap _ (w.heap.size+1) _ (rsC E 0 0 nil nil nil 0 0 0 0) _ _ HR9.out)
  go_wp2_with (refine wpList_store_row (o:=⟨none,.store 42 _ _,_,_,_,_⟩) rfl 42 _ _ rfl (w.heap.size+1) (rsC E 0 0 nil nil nil 0 0 0 0) rfl rfl 42 rs0 HR9.out (by kernel_rfl) rfl (by simp [rsC,Value.oneCell']) ?_)
  refine bodyPost_ret (results_cell rfl rfl (run_loadVar_row _ (w.heap.size+1) 42 42 _ (0,0) _ HX9.out Tryz.underlying42 rfl (by kernel_rfl))) rfl ?_
  exact ⟨_,rfl,below_setRow HB9.out (Nat.le_succ _) _,a,q,E,HD.out,.inl ⟨HE.out,rfl⟩⟩
end
end Go.Proofs.YtmomjpolkkbhnaaGreat.Md
end
