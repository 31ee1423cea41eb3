/- loggiaref17: one, and, or: the walks (printed by gen_qpu.py). -/
import Derived.Deep.RegionHeld3
import Derived.Deep.AppendLies
import Derived.Test.YtmomjpolkkbhnaaGreatQModelPagesRow29
import Derived.Test.YtmomjpolkkbhnaaGreatQModelPagesRow0
set_option linter.unusedSimpArgs false
set_option maxRecDepth 20000
namespace Go.Proofs.YtmomjpolkkbhnaaGreat.Qp
open Go.RowKit Ut Tk Qy
def OneR (base:Nat) (w:World) (q:Q) (p:Int) (e:Ending) (w':World):Prop :=
 ∃ a0 a1 a2 a3,e=.returned (.agg #[a0,a1,a2,a3,.int .i64 p,.bool true])∧Four [a0,a1,a2,a3]∧QF w' (fun b=>base≤b∧b<w'.heap.size) q [a0,a1,a2,a3]∧Below w.heap.size w w'
set_option maxHeartbeats 1600000 in
theorem one_rf (base:Nat) (k p:Int) (v:Value) (l:List Q) (vss:List (List Value)) (w:World) (hQ:Qs base w v l vss) (hl:l≠[]):Calls Tryz.prog 81 #[.int .i64 k,v,.int .i64 p] w (OneR base w (oneQ k l) p):=by
 by_cases h1:l.length=1
 ·obtain ⟨q,rfl⟩:=List.length_eq_one_iff.1 h1
  obtain ⟨b,d,A,n,c,C,m,d',rfl,hb,hbase,c0,c1,c2,c3,hF⟩:=hQ.first
  have hh:=Blk.new w 96 #[.int .i64 q.kind,.string q.name,.slice A n c,.slice C m d',.int .i64 p,.bool true]
  have hbl:=(Below.refl w.heap.size w).alloc (zG _) (.cells #[.int .i64 q.kind,.string q.name,.slice A n c,.slice C m d',.int .i64 p,.bool true] 96)
  have HF:=zh (hF.grow hbl)
  have Hbl:=zh hbl
  clear hQ hl h1 hF hbl
  go_enter Tryz.func81,Tryz.ntmps81
  go_wp2_with fail
  exact bodyPost_ret (results_cell rfl rfl (run_loadVar_row _ w.heap.size 96 96 _ (0,0) _ hh Tryz.underlying96 rfl (by kernel_rfl))) rfl ⟨_,_,_,_,rfl,⟨_,_,_,_,_,_,_,_,rfl⟩,HF.out,Hbl.out⟩
 ·rw [oneQ_many k l h1]
  obtain ⟨C,d,rfl,hF⟩:=hQ.query k
  have hbl:=(Below.refl w.heap.size w).alloc (zG _) (.cells #[.int .i64 k,.string ⟨#[]⟩,.slice none 0 0,.slice C l.length d,.int .i64 p,.bool true] 96)
  have hh:=Blk.new w 96 #[.int .i64 k,.string ⟨#[]⟩,.slice none 0 0,.slice C l.length d,.int .i64 p,.bool true]
  have HF:=zh (hF.grow hbl)
  have Hbl:=zh hbl
  have h1':((l.length:Int) == 1)=false:=by rw [beq_eq_false_iff_ne]; omega
  clear hQ hl h1 hF hbl
  generalize l.length=n at *
  go_enter Tryz.func81,Tryz.ntmps81
  go_wp2_with fail
  exact bodyPost_ret (results_cell rfl rfl (run_loadVar_row _ w.heap.size 96 96 _ (0,0) _ hh Tryz.underlying96 rfl (by kernel_rfl))) rfl ⟨_,_,_,_,rfl,⟨_,_,_,_,_,_,_,_,rfl⟩,HF.out,Hbl.out⟩
structure Lr (w:World) (L:List P) (p:Nat) (F:List Q→Md) (m0:Md) (wr:World) (v:Value) (acc:List Q) (vss:List (List Value)) (k:Nat):Prop where
 qs:Qs (w.heap.size+1) wr v acc vss
 bl:Below w.heap.size w wr
 bk:Blk wr w.heap.size 96 #[.int .i64 0,.string ByteArray.empty,.slice none 0 0,.slice none 0 0,.int .i64 0,.bool false]
 sz:w.heap.size+1≤wr.heap.size
 lo:p≤k
 hi:k≤L.length
 ln:acc.length≤k
 tk:∀ o,R (F acc) (L.drop k) o→R m0 (L.drop p) o
set_option maxHeartbeats 6400000 in
theorem and_rf (L:List P) (p:Nat) (hL:L.length≤1048576) (hp:p≤L.length) (ih:∀ k,p≤k→k≤L.length→PartRf L k):AndRf L p:=by
 intro w A c hR
 have hLi:(L.length:Int)≤1048576:=by omega
 have HB:=W1_blk w
 have Hb:=W1_below w
 have hz:=W1_size w
 obtain ⟨i0,hi0,hz1,hz2,hz3⟩:=info_parts q_info
 have L0:Lr w L p Md.and (.and []) (W1 w) (.slice none 0 0) [] [] p:=⟨Qs.start _ _,Hb,HB,by rw [hz]; omega,zG _,hp,Nat.zero_le _,fun o h=>h⟩
 have HL0:=zh L0
 have HR:=zh hR
 have Ih:=zh ih
 clear HB Hb hz L0 hR ih
 unfold W1 at HL0
 go_enter Tryz.func79,Tryz.ntmps79
 go_wp2_with fail
 go_loopw [1,5] (fun i v wr=>∃ acc vss k,i=.int .i64 ((k:Nat):Int)∧Lr w L p Md.and (.and []) wr v acc vss k) (fun i _ _=>L.length+1 - (intOf i).toNat)
 case atStart=>exact ⟨_,_,_,rfl,HL0.out⟩
 case round =>
  obtain ⟨acc,vss,k,rfl,L1⟩:=hrel
  have hlo:=L1.lo
  have hhi:=L1.hi
  have hln:=L1.ln
  have hszr:=L1.sz
  have c0:=Ih.out k hlo hhi wr A c (rgrow HR.out L1.bl)
  have hk0:(0:Int)≤(k:Int):=by omega
  have HL:=zh L1
  clear L1
  go_wp2_with fail
  refine c0.mono ?_
  rintro e w2 ⟨a0,a1,a2,a3,z,ok,rfl,⟨k',nm',A',n',c',C',m',d',e4⟩,hb,o',hRo,hok,hres⟩
  simp only [List.cons.injEq,and_true] at e4
  obtain ⟨rfl,rfl,rfl,rfl⟩:=e4
  have hsz2:=hb.size
  have hbb:=(Below.refl w2.heap.size w2).alloc (zG _) (.cells #[.int .i64 k',.string nm',.slice A' n' c',.slice C' m' d',.int .i64 z,.bool ok] 96)
  have hbw:=hb.trans (hbb.mono hsz2)
  have HQ3:=zh (HL.out.qs.grown (grow_of_below hbw none) (fun b e=>by cases e))
  have HB3:=zh (HL.out.bk.below hbw (by omega))
  have Hb3:=zh (HL.out.bl.trans (hbw.mono (by omega)))
  have HBx:=zh (Blk.new w2 96 #[.int .i64 k',.string nm',.slice A' n' c',.slice C' m' d',.int .i64 z,.bool ok])
  have HRo:=zh hRo
  have Hok:=zh hok
  have Hres:=zh (fun q r h=>let ⟨k1,h1,h2,h3,h4⟩:=hres q r h; (⟨k1,h1,h2,h3,h4.grow hbb⟩:∃ k1:Nat,z=(k1:Int)∧k1≤L.length∧r=L.drop k1∧QF (w2.alloc (.cells #[.int .i64 k',.string nm',.slice A' n' c',.slice C' m' d',.int .i64 z,.bool ok] 96)) (fun b=>wr.heap.size≤b∧b<(w2.alloc (.cells #[.int .i64 k',.string nm',.slice A' n' c',.slice C' m' d',.int .i64 z,.bool ok] 96)).heap.size) q [.int .i64 k',.string nm',.slice A' n' c',.slice C' m' d']))
  have hzw:w2.heap.size<(w2.alloc (.cells #[.int .i64 k',.string nm',.slice A' n' c',.slice C' m' d',.int .i64 z,.bool ok] 96)).heap.size:=by simp
  clear c0 hb hbb hbw hRo hok hres
  go_upto_region 3 with (fail)
  generalize hw3:w2.alloc (.cells #[.int .i64 k',.string nm',.slice A' n' c',.slice C' m' d',.int .i64 z,.bool ok] 96)=w3 at *
  clear hw3
  obtain ⟨x0,x1,x2,x3,x4,x5,y0,y1,y2,y3,y4,y5⟩:=HBx.out.six
  match o',Hok,HRo,Hres with
  | none,Hok,HRo,Hres =>
   obtain rfl:ok=false:=Hok.out
   have HHn:=zh (HL.out.tk _ (.and0 HRo.out))
   have c9:=no_ref w3
   clear HQ3
   go_wp2_with fail
   refine c9.mono ?_
   rintro e w4 ⟨rfl,hb4⟩
   have B4:=HB3.out.below hb4 (by omega)
   have b4:=Hb3.out.trans (hb4.mono (by omega))
   clear hb4 c9
   have HO:Hid ((World.heap w4)[w.heap.size]?=some (.cells #[.int .i64 0,.string ByteArray.empty,.slice none 0 0,.slice none 0 0,.int .i64 0,.bool false] 96 (0,0))):=zh B4
   have HX:=zh (setRow_heap _ w.heap.size _ #[.int .i64 0,.string ⟨#[]⟩,.slice none 0 0,.slice none 0 0,.int .i64 0,.bool false] _ _ HO.out)
   have Hbl:=zh (below_setRow b4 (zG _) #[.int .i64 0,.string ⟨#[]⟩,.slice none 0 0,.slice none 0 0,.int .i64 0,.bool false])
   go_wp2_with (refine wpList_store_row (o:=⟨none,.store 96 _ _,_,_,_,_⟩) rfl 96 _ _ rfl w.heap.size #[.int .i64 0,.string ⟨#[]⟩,.slice none 0 0,.slice none 0 0,.int .i64 0,.bool false] rfl rfl 96 #[.int .i64 0,.string ByteArray.empty,.slice none 0 0,.slice none 0 0,.int .i64 0,.bool false] HO.out (by kernel_rfl) rfl (by simp [Value.oneCell']) ?_)
   refine bodyPost_ret (results_cell rfl rfl (run_loadVar_row _ w.heap.size 96 96 _ (0,0) _ HX.out Tryz.underlying96 rfl (by kernel_rfl))) rfl ?_
   exact ⟨_,_,_,_,_,_,rfl,⟨_,_,_,_,_,_,_,_,rfl⟩,Hbl.out,none,HHn.out,rfl,(fun q r h=>by cases h)⟩
  | some (q,r),Hok,HRo,Hres =>
   obtain rfl:ok=true:=Hok.out
   obtain ⟨k1,rfl,hk1,rfl,hF3⟩:=Hres.out q r rfl
   obtain ⟨j,hj1,hj2,hj3⟩:=HRo.out.less q _ rfl
   have hj4 : 1≤j:=hj3 (.inl rfl)
   rw [List.length_drop] at hj2
   have hkk:k+1≤k1:=by
    have:=congrArg List.length hj1
    rw [List.length_drop,List.length_drop,List.length_drop] at this
    omega
   have hk10:(0:Int)≤(k1:Int):=by omega
   have Hblk:=zh HQ3.out.block
   have hown:=HQ3.out.own
   have hsz3:w.heap.size+1≤w3.heap.size:=by omega
   have HF3:=zh hF3
   have hvne:∀ b,u5.ownBlock=some b→b<wr.heap.size:=fun b e=>(HL.out.qs.block b e).2
   have Hvne:=zh hvne
   clear hj1 hj2 hj3 hF3 hvne
   go_wp2_with fail
   go_region_held3 (fun w'=>w'.cell? ⟨w2.heap.size,0,none⟩=some (.int .i64 k')∧w'.cell? ⟨w2.heap.size,1,none⟩=some (.string nm')∧w'.cell? ⟨w2.heap.size,2,none⟩=some (.slice A' n' c')∧w'.cell? ⟨w2.heap.size,3,none⟩=some (.slice C' m' d')∧w'.cell? ⟨w2.heap.size,4,none⟩=some (.int .i64 (k1:Int)))
    (first | (go_split_ands; refine ⟨?_,?_,?_,?_,?_⟩ <;> (rw [Hkeep.out]; assumption)) | (go_keep; done))
    ((refine step_append_lies _ (by rfl) _ _ _ (by rfl) (w.heap.size+1) 60 i0 _ 4 72 Tryz.underlying58 hi0 hz1 hz2 hz3 rfl (by omega) u5 acc.length vss.flatten (by rfl) ((hown.alloc _).drew) ⟨w3.heap.size,0,none⟩ 1 1 [.int .i64 k',.string nm',.slice A' n' c',.slice C' m' d'] (by rfl) (by rfl) (World.news_of_block (cs:=#[.int .i64 k',.string nm',.slice A' n' c',.slice C' m' d']) (t:=60) (fr:=(0,0)) (heap_alloc_new w3 _)) (by simp [Value.oneCell']) (by omega) (by unfold maxLen; omega) (by omega) (by simp; omega) (w3.heap.size+1) (by simp) ?_; intro gg cap w5 hown5 hgrow hat hlt5; have Hkeep:Hid (∀ x,w5.cell? ⟨w2.heap.size,x,none⟩=(w3.alloc (.cells #[.int .i64 k',.string nm',.slice A' n' c',.slice C' m' d'] 60)).drew.cell? ⟨w2.heap.size,x,none⟩):=zh (fun x=>hgrow.cell_far ⟨w2.heap.size,x,none⟩ (by show w2.heap.size<(w3.alloc (.cells #[.int .i64 k',.string nm',.slice A' n' c',.slice C' m' d'] 60)).heap.size; rw [World.size_alloc]; omega) (fun e=>by have h9:w2.heap.size<wr.heap.size:=Hvne.out _ e.symm; omega))))
   have hbx:=((Below.refl w3.heap.size w3).alloc (zG _) (.cells #[.int .i64 k',.string nm',.slice A' n' c',.slice C' m' d'] 60)).drew
   have hzx:(w3.alloc (.cells #[.int .i64 k',.string nm',.slice A' n' c',.slice C' m' d'] 60)).drew.heap.size=w3.heap.size+1:=by show (w3.alloc (.cells #[.int .i64 k',.string nm',.slice A' n' c',.slice C' m' d'] 60)).heap.size=_; simp
   have Qx:=HQ3.out.grown (grow_of_below hbx none) (fun b e=>by cases e)
   have hqx:QF (w3.alloc (.cells #[.int .i64 k',.string nm',.slice A' n' c',.slice C' m' d'] 60)).drew (Kin (w.heap.size+1) (w3.alloc (.cells #[.int .i64 k',.string nm',.slice A' n' c',.slice C' m' d'] 60)).drew u5) q [.int .i64 k',.string nm',.slice A' n' c',.slice C' m' d'] :=
    (HF3.out.keep fun b o hS=>hbx.cell (p:=⟨b,o,none⟩) hS.2).mono fun b hS=>⟨by have:=hS.1; omega,by rw [hzx]; have:=hS.2; omega,fun e=>by have h9:=Hvne.out _ e; have:=hS.1; omega⟩
   have hQ5:=Qx.put hqx hown5 hgrow (by rw [hzx]; rcases hat with h | h; exact .inl (by rw [h]; rfl); exact .inr (by rw [h]; rfl))
   have HQ5:=zh hQ5
   have HB5:Blk w5 w.heap.size 96 #[.int .i64 0,.string ByteArray.empty,.slice none 0 0,.slice none 0 0,.int .i64 0,.bool false]:=((HB3.out.alloc (.cells #[.int .i64 k',.string nm',.slice A' n' c',.slice C' m' d'] 60)).drew).grown hgrow (fun e=>by have:=(Hblk.out _ e.symm).1; omega)
   have Hb5:=(Hb3.out.trans (hbx.mono (by omega))).grown hgrow (by rw [hzx]; omega) (fun b e=>by have:=(Hblk.out b e).1; omega)
   have hsz5:w.heap.size+1≤w5.heap.size:=by have:=hgrow.size; rw [hzx] at this; omega
   have HB5':=zh HB5
   have Hb5':=zh Hb5
   clear hbx hzx Qx hqx hQ5 hown5 hgrow hat hlt5 Hkeep hown HQ3 HB3 HBx HB5 Hb5 Hblk HF3 Hvne x0 x1 x2 x3 x4 x5 y0 y1 y2 y3 y4 y5
   by_cases hkl:k1<L.length
   ·have hki:(k1:Int)<(L.length:Int):=by omega
    obtain ⟨b,o9,rfl,hb9,hc9⟩:=sv_at HR.out hkl
    have hcx:=((Hb5'.out.cell (p:=⟨b,o9+k1,none⟩) hb9).trans hc9)
    have hdk:L.drop k1=L[k1] :: L.drop (k1+1):=List.drop_eq_getElem_cons hkl
    have Hdk:=zh hdk
    clear hc9 hdk
    by_cases hst:stops (L.drop k1)=true
    ·have HHn:=zh (HL.out.tk _ (.and1 HRo.out (.andE hst)))
     have hs2:L[k1]=RP∨(L[k1]≠RP∧L[k1]=OR):=by
      rw [Hdk.out] at hst
      unfold stops at hst
      simp only [Bool.or_eq_true,beq_iff_eq] at hst
      by_cases h:L[k1]=RP
      ·exact .inl h
      ·exact .inr ⟨h,hst.resolve_left h⟩
     have f41:((str L[k1]).toList == [41])=decide (L[k1]=RP):=by rw [str_is]; rfl
     have f79:((str L[k1]).toList == [79,82])=decide (L[k1]=OR):=by rw [str_is]; rfl
     clear hst
     rcases hs2 with h | ⟨h,h2⟩
     ·rw [decide_eq_true h] at f41
      clear h f79
      generalize L[k1]=s1 at *
      have c9:=one_rf (w.heap.size+1) 5 (k1:Int) _ _ _ w5 HQ5.out (by simp)
      go_wp2_with fail
      refine c9.mono ?_
      rintro e w6 ⟨b0,b1,b2,b3,rfl,⟨k',nm',A',n',c',C',m',d',e5⟩,hF6,hb6⟩
      simp only [List.cons.injEq,and_true] at e5
      obtain ⟨rfl,rfl,rfl,rfl⟩:=e5
      have B6:=HB5'.out.below hb6 (by omega)
      have b6:=Hb5'.out.trans (hb6.mono (by omega))
      have HF:=zh (q_retR (w:=w) (g:=w.heap.size) (cs:=#[.int .i64 k',.string nm',.slice A' n' c',.slice C' m' d',.int .i64 (k1:Int),.bool true]) hF6 (Nat.lt_succ_self _) (zG _))
      clear hb6 c9 hF6
      have HO:Hid ((World.heap w6)[w.heap.size]?=some (.cells #[.int .i64 0,.string ByteArray.empty,.slice none 0 0,.slice none 0 0,.int .i64 0,.bool false] 96 (0,0))):=zh B6
      have HX:=zh (setRow_heap _ w.heap.size _ #[.int .i64 k',.string nm',.slice A' n' c',.slice C' m' d',.int .i64 (k1:Int),.bool true] _ _ HO.out)
      have Hbl:=zh (below_setRow b6 (zG _) #[.int .i64 k',.string nm',.slice A' n' c',.slice C' m' d',.int .i64 (k1:Int),.bool true])
      go_wp2_with (refine wpList_store_row (o:=⟨none,.store 96 _ _,_,_,_,_⟩) rfl 96 _ _ rfl w.heap.size #[.int .i64 k',.string nm',.slice A' n' c',.slice C' m' d',.int .i64 (k1:Int),.bool true] rfl rfl 96 #[.int .i64 0,.string ByteArray.empty,.slice none 0 0,.slice none 0 0,.int .i64 0,.bool false] HO.out (by kernel_rfl) rfl (by simp [Value.oneCell']) ?_)
      refine bodyPost_ret (results_cell rfl rfl (run_loadVar_row _ w.heap.size 96 96 _ (0,0) _ HX.out Tryz.underlying96 rfl (by kernel_rfl))) rfl ?_
      exact ⟨_,_,_,_,_,_,rfl,⟨_,_,_,_,_,_,_,_,rfl⟩,Hbl.out,_,HHn.out,rfl,(fun q' r' h=>by injection h with h; simp only [Prod.mk.injEq] at h; obtain ⟨rfl,rfl⟩:=h; exact ⟨k1,rfl,hk1,rfl,HF.out⟩)⟩
     ·rw [decide_eq_false h] at f41
      rw [decide_eq_true h2] at f79
      clear h h2
      generalize L[k1]=s1 at *
      have c9:=one_rf (w.heap.size+1) 5 (k1:Int) _ _ _ w5 HQ5.out (by simp)
      go_wp2_with fail
      refine c9.mono ?_
      rintro e w6 ⟨b0,b1,b2,b3,rfl,⟨k',nm',A',n',c',C',m',d',e5⟩,hF6,hb6⟩
      simp only [List.cons.injEq,and_true] at e5
      obtain ⟨rfl,rfl,rfl,rfl⟩:=e5
      have B6:=HB5'.out.below hb6 (by omega)
      have b6:=Hb5'.out.trans (hb6.mono (by omega))
      have HF:=zh (q_retR (w:=w) (g:=w.heap.size) (cs:=#[.int .i64 k',.string nm',.slice A' n' c',.slice C' m' d',.int .i64 (k1:Int),.bool true]) hF6 (Nat.lt_succ_self _) (zG _))
      clear hb6 c9 hF6
      have HO:Hid ((World.heap w6)[w.heap.size]?=some (.cells #[.int .i64 0,.string ByteArray.empty,.slice none 0 0,.slice none 0 0,.int .i64 0,.bool false] 96 (0,0))):=zh B6
      have HX:=zh (setRow_heap _ w.heap.size _ #[.int .i64 k',.string nm',.slice A' n' c',.slice C' m' d',.int .i64 (k1:Int),.bool true] _ _ HO.out)
      have Hbl:=zh (below_setRow b6 (zG _) #[.int .i64 k',.string nm',.slice A' n' c',.slice C' m' d',.int .i64 (k1:Int),.bool true])
      go_wp2_with (refine wpList_store_row (o:=⟨none,.store 96 _ _,_,_,_,_⟩) rfl 96 _ _ rfl w.heap.size #[.int .i64 k',.string nm',.slice A' n' c',.slice C' m' d',.int .i64 (k1:Int),.bool true] rfl rfl 96 #[.int .i64 0,.string ByteArray.empty,.slice none 0 0,.slice none 0 0,.int .i64 0,.bool false] HO.out (by kernel_rfl) rfl (by simp [Value.oneCell']) ?_)
      refine bodyPost_ret (results_cell rfl rfl (run_loadVar_row _ w.heap.size 96 96 _ (0,0) _ HX.out Tryz.underlying96 rfl (by kernel_rfl))) rfl ?_
      exact ⟨_,_,_,_,_,_,rfl,⟨_,_,_,_,_,_,_,_,rfl⟩,Hbl.out,_,HHn.out,rfl,(fun q' r' h=>by injection h with h; simp only [Prod.mk.injEq] at h; obtain ⟨rfl,rfl⟩:=h; exact ⟨k1,rfl,hk1,rfl,HF.out⟩)⟩
    ·have hst':stops (L.drop k1)=false:=by simpa using hst
     have h1:L[k1]≠RP∧L[k1]≠OR:=by
      rw [Hdk.out] at hst'
      unfold stops at hst'
      simp only [Bool.or_eq_false_iff,beq_eq_false_iff_ne] at hst'
      exact hst'
     have f41:((str L[k1]).toList == [41])=false:=by rw [str_is]; exact decide_eq_false h1.1
     have f79:((str L[k1]).toList == [79,82])=false:=by rw [str_is]; exact decide_eq_false h1.2
     have f65:((str L[k1]).toList == [65,78,68])=decide (L[k1]=AND):=by rw [str_is]; rfl
     have Hst:=zh hst'
     clear hst hst' h1
     by_cases ha:L[k1]=AND
     ·rw [decide_eq_true ha] at f65
      have Hst2:Hid (∀ o,R (.and (acc ++ [q])) (L.drop (k1+1)) o→R (.and acc) (L.drop k) o):=zh (fun o h=>.and1 HRo.out (by rw [Hdk.out]; exact .andA ha h))
      clear ha
      generalize L[k1]=s1 at *
      have HL5:=zh (show Lr w L p Md.and (.and []) w5 (.slice (some ⟨gg,0,none⟩) (acc.length+1) cap) (acc ++ [q]) (vss ++ [[.int .i64 k',.string nm',.slice A' n' c',.slice C' m' d']]) (k1+1) from
       ⟨HQ5.out,Hb5'.out,HB5'.out,by omega,by omega,by omega,by rw [List.length_append,List.length_singleton]; omega,fun o h=>HL.out.tk _ (Hst2.out o h)⟩)
      go_wp2_with fail
      go_roundw
      case rel=>exact ⟨_,_,_,by first | rfl | go_num,HL5.out⟩
      case measure=>simp [intOf]; omega
     ·rw [decide_eq_false ha] at f65
      have Hst2:Hid (∀ o,R (.and (acc ++ [q])) (L.drop k1) o→R (.and acc) (L.drop k) o):=zh (fun o h=>.and1 HRo.out (by
       have h2:=Hst.out
       rw [Hdk.out] at h h2 ⊢
       exact .andN h2 ha h))
      clear ha Hst
      generalize L[k1]=s1 at *
      have HL5:=zh (show Lr w L p Md.and (.and []) w5 (.slice (some ⟨gg,0,none⟩) (acc.length+1) cap) (acc ++ [q]) (vss ++ [[.int .i64 k',.string nm',.slice A' n' c',.slice C' m' d']]) k1 from
       ⟨HQ5.out,Hb5'.out,HB5'.out,by omega,by omega,by omega,by rw [List.length_append,List.length_singleton]; omega,fun o h=>HL.out.tk _ (Hst2.out o h)⟩)
      go_wp2_with fail
      go_roundw
      case rel=>exact ⟨_,_,_,by first | rfl | go_num,HL5.out⟩
      case measure=>simp [intOf]; omega
   ·have hki:(L.length:Int)≤(k1:Int):=by omega
    have HHn:=zh (HL.out.tk _ (.and1 HRo.out (.andE (by rw [List.drop_of_length_le (show L.length≤k1 by omega)]; rfl))))
    clear hkl
    have c9:=one_rf (w.heap.size+1) 5 (k1:Int) _ _ _ w5 HQ5.out (by simp)
    go_wp2_with fail
    refine c9.mono ?_
    rintro e w6 ⟨b0,b1,b2,b3,rfl,⟨k',nm',A',n',c',C',m',d',e5⟩,hF6,hb6⟩
    simp only [List.cons.injEq,and_true] at e5
    obtain ⟨rfl,rfl,rfl,rfl⟩:=e5
    have B6:=HB5'.out.below hb6 (by omega)
    have b6:=Hb5'.out.trans (hb6.mono (by omega))
    have HF:=zh (q_retR (w:=w) (g:=w.heap.size) (cs:=#[.int .i64 k',.string nm',.slice A' n' c',.slice C' m' d',.int .i64 (k1:Int),.bool true]) hF6 (Nat.lt_succ_self _) (zG _))
    clear hb6 c9 hF6
    have HO:Hid ((World.heap w6)[w.heap.size]?=some (.cells #[.int .i64 0,.string ByteArray.empty,.slice none 0 0,.slice none 0 0,.int .i64 0,.bool false] 96 (0,0))):=zh B6
    have HX:=zh (setRow_heap _ w.heap.size _ #[.int .i64 k',.string nm',.slice A' n' c',.slice C' m' d',.int .i64 (k1:Int),.bool true] _ _ HO.out)
    have Hbl:=zh (below_setRow b6 (zG _) #[.int .i64 k',.string nm',.slice A' n' c',.slice C' m' d',.int .i64 (k1:Int),.bool true])
    go_wp2_with (refine wpList_store_row (o:=⟨none,.store 96 _ _,_,_,_,_⟩) rfl 96 _ _ rfl w.heap.size #[.int .i64 k',.string nm',.slice A' n' c',.slice C' m' d',.int .i64 (k1:Int),.bool true] rfl rfl 96 #[.int .i64 0,.string ByteArray.empty,.slice none 0 0,.slice none 0 0,.int .i64 0,.bool false] HO.out (by kernel_rfl) rfl (by simp [Value.oneCell']) ?_)
    refine bodyPost_ret (results_cell rfl rfl (run_loadVar_row _ w.heap.size 96 96 _ (0,0) _ HX.out Tryz.underlying96 rfl (by kernel_rfl))) rfl ?_
    exact ⟨_,_,_,_,_,_,rfl,⟨_,_,_,_,_,_,_,_,rfl⟩,Hbl.out,_,HHn.out,rfl,(fun q' r' h=>by injection h with h; simp only [Prod.mk.injEq] at h; obtain ⟨rfl,rfl⟩:=h; exact ⟨k1,rfl,hk1,rfl,HF.out⟩)⟩
set_option maxHeartbeats 6400000 in
theorem or_rf (L:List P) (p:Nat) (hL:L.length≤1048576) (hp:p≤L.length) (ih:∀ k,p≤k→k≤L.length→AndRf L k):OrRf L p:=by
 intro w A c hR
 have hLi:(L.length:Int)≤1048576:=by omega
 have HB:=W1_blk w
 have Hb:=W1_below w
 have hz:=W1_size w
 obtain ⟨i0,hi0,hz1,hz2,hz3⟩:=info_parts q_info
 have L0:Lr w L p Md.or (.or []) (W1 w) (.slice none 0 0) [] [] p:=⟨Qs.start _ _,Hb,HB,by rw [hz]; omega,zG _,hp,Nat.zero_le _,fun o h=>h⟩
 have HL0:=zh L0
 have HR:=zh hR
 have Ih:=zh ih
 clear HB Hb hz L0 hR ih
 unfold W1 at HL0
 go_enter Tryz.func42,Tryz.ntmps42
 go_wp2_with fail
 go_loopw [1,5] (fun i v wr=>∃ acc vss k,i=.int .i64 ((k:Nat):Int)∧Lr w L p Md.or (.or []) wr v acc vss k) (fun i _ _=>L.length+1 - (intOf i).toNat)
 case atStart=>exact ⟨_,_,_,rfl,HL0.out⟩
 case round =>
  obtain ⟨acc,vss,k,rfl,L1⟩:=hrel
  have hlo:=L1.lo
  have hhi:=L1.hi
  have hln:=L1.ln
  have hszr:=L1.sz
  have c0:=Ih.out k hlo hhi wr A c (rgrow HR.out L1.bl)
  have hk0:(0:Int)≤(k:Int):=by omega
  have HL:=zh L1
  clear L1
  go_wp2_with fail
  refine c0.mono ?_
  rintro e w2 ⟨a0,a1,a2,a3,z,ok,rfl,⟨k',nm',A',n',c',C',m',d',e4⟩,hb,o',hRo,hok,hres⟩
  simp only [List.cons.injEq,and_true] at e4
  obtain ⟨rfl,rfl,rfl,rfl⟩:=e4
  have hsz2:=hb.size
  have hbb:=(Below.refl w2.heap.size w2).alloc (zG _) (.cells #[.int .i64 k',.string nm',.slice A' n' c',.slice C' m' d',.int .i64 z,.bool ok] 96)
  have hbw:=hb.trans (hbb.mono hsz2)
  have HQ3:=zh (HL.out.qs.grown (grow_of_below hbw none) (fun b e=>by cases e))
  have HB3:=zh (HL.out.bk.below hbw (by omega))
  have Hb3:=zh (HL.out.bl.trans (hbw.mono (by omega)))
  have HBx:=zh (Blk.new w2 96 #[.int .i64 k',.string nm',.slice A' n' c',.slice C' m' d',.int .i64 z,.bool ok])
  have HRo:=zh hRo
  have Hok:=zh hok
  have Hres:=zh (fun q r h=>let ⟨k1,h1,h2,h3,h4⟩:=hres q r h; (⟨k1,h1,h2,h3,h4.grow hbb⟩:∃ k1:Nat,z=(k1:Int)∧k1≤L.length∧r=L.drop k1∧QF (w2.alloc (.cells #[.int .i64 k',.string nm',.slice A' n' c',.slice C' m' d',.int .i64 z,.bool ok] 96)) (fun b=>wr.heap.size≤b∧b<(w2.alloc (.cells #[.int .i64 k',.string nm',.slice A' n' c',.slice C' m' d',.int .i64 z,.bool ok] 96)).heap.size) q [.int .i64 k',.string nm',.slice A' n' c',.slice C' m' d']))
  have hzw:w2.heap.size<(w2.alloc (.cells #[.int .i64 k',.string nm',.slice A' n' c',.slice C' m' d',.int .i64 z,.bool ok] 96)).heap.size:=by simp
  clear c0 hb hbb hbw hRo hok hres
  go_upto_region 3 with (fail)
  generalize hw3:w2.alloc (.cells #[.int .i64 k',.string nm',.slice A' n' c',.slice C' m' d',.int .i64 z,.bool ok] 96)=w3 at *
  clear hw3
  obtain ⟨x0,x1,x2,x3,x4,x5,y0,y1,y2,y3,y4,y5⟩:=HBx.out.six
  match o',Hok,HRo,Hres with
  | none,Hok,HRo,Hres =>
   obtain rfl:ok=false:=Hok.out
   have HHn:=zh (HL.out.tk _ (.or0 HRo.out))
   have c9:=no_ref w3
   clear HQ3
   go_wp2_with fail
   refine c9.mono ?_
   rintro e w4 ⟨rfl,hb4⟩
   have B4:=HB3.out.below hb4 (by omega)
   have b4:=Hb3.out.trans (hb4.mono (by omega))
   clear hb4 c9
   have HO:Hid ((World.heap w4)[w.heap.size]?=some (.cells #[.int .i64 0,.string ByteArray.empty,.slice none 0 0,.slice none 0 0,.int .i64 0,.bool false] 96 (0,0))):=zh B4
   have HX:=zh (setRow_heap _ w.heap.size _ #[.int .i64 0,.string ⟨#[]⟩,.slice none 0 0,.slice none 0 0,.int .i64 0,.bool false] _ _ HO.out)
   have Hbl:=zh (below_setRow b4 (zG _) #[.int .i64 0,.string ⟨#[]⟩,.slice none 0 0,.slice none 0 0,.int .i64 0,.bool false])
   go_wp2_with (refine wpList_store_row (o:=⟨none,.store 96 _ _,_,_,_,_⟩) rfl 96 _ _ rfl w.heap.size #[.int .i64 0,.string ⟨#[]⟩,.slice none 0 0,.slice none 0 0,.int .i64 0,.bool false] rfl rfl 96 #[.int .i64 0,.string ByteArray.empty,.slice none 0 0,.slice none 0 0,.int .i64 0,.bool false] HO.out (by kernel_rfl) rfl (by simp [Value.oneCell']) ?_)
   refine bodyPost_ret (results_cell rfl rfl (run_loadVar_row _ w.heap.size 96 96 _ (0,0) _ HX.out Tryz.underlying96 rfl (by kernel_rfl))) rfl ?_
   exact ⟨_,_,_,_,_,_,rfl,⟨_,_,_,_,_,_,_,_,rfl⟩,Hbl.out,none,HHn.out,rfl,(fun q r h=>by cases h)⟩
  | some (q,r),Hok,HRo,Hres =>
   obtain rfl:ok=true:=Hok.out
   obtain ⟨k1,rfl,hk1,rfl,hF3⟩:=Hres.out q r rfl
   obtain ⟨j,hj1,hj2,hj3⟩:=HRo.out.less q _ rfl
   have hj4 : 1≤j:=hj3 (.inr (.inl ⟨_,rfl⟩))
   rw [List.length_drop] at hj2
   have hkk:k+1≤k1:=by
    have:=congrArg List.length hj1
    rw [List.length_drop,List.length_drop,List.length_drop] at this
    omega
   have hk10:(0:Int)≤(k1:Int):=by omega
   have Hblk:=zh HQ3.out.block
   have hown:=HQ3.out.own
   have hsz3:w.heap.size+1≤w3.heap.size:=by omega
   have HF3:=zh hF3
   have hvne:∀ b,u5.ownBlock=some b→b<wr.heap.size:=fun b e=>(HL.out.qs.block b e).2
   have Hvne:=zh hvne
   clear hj1 hj2 hj3 hF3 hvne
   go_wp2_with fail
   go_region_held3 (fun w'=>w'.cell? ⟨w2.heap.size,0,none⟩=some (.int .i64 k')∧w'.cell? ⟨w2.heap.size,1,none⟩=some (.string nm')∧w'.cell? ⟨w2.heap.size,2,none⟩=some (.slice A' n' c')∧w'.cell? ⟨w2.heap.size,3,none⟩=some (.slice C' m' d')∧w'.cell? ⟨w2.heap.size,4,none⟩=some (.int .i64 (k1:Int)))
    (first | (go_split_ands; refine ⟨?_,?_,?_,?_,?_⟩ <;> (rw [Hkeep.out]; assumption)) | (go_keep; done))
    ((refine step_append_lies _ (by rfl) _ _ _ (by rfl) (w.heap.size+1) 60 i0 _ 4 72 Tryz.underlying58 hi0 hz1 hz2 hz3 rfl (by omega) u5 acc.length vss.flatten (by rfl) ((hown.alloc _).drew) ⟨w3.heap.size,0,none⟩ 1 1 [.int .i64 k',.string nm',.slice A' n' c',.slice C' m' d'] (by rfl) (by rfl) (World.news_of_block (cs:=#[.int .i64 k',.string nm',.slice A' n' c',.slice C' m' d']) (t:=60) (fr:=(0,0)) (heap_alloc_new w3 _)) (by simp [Value.oneCell']) (by omega) (by unfold maxLen; omega) (by omega) (by simp; omega) (w3.heap.size+1) (by simp) ?_; intro gg cap w5 hown5 hgrow hat hlt5; have Hkeep:Hid (∀ x,w5.cell? ⟨w2.heap.size,x,none⟩=(w3.alloc (.cells #[.int .i64 k',.string nm',.slice A' n' c',.slice C' m' d'] 60)).drew.cell? ⟨w2.heap.size,x,none⟩):=zh (fun x=>hgrow.cell_far ⟨w2.heap.size,x,none⟩ (by show w2.heap.size<(w3.alloc (.cells #[.int .i64 k',.string nm',.slice A' n' c',.slice C' m' d'] 60)).heap.size; rw [World.size_alloc]; omega) (fun e=>by have h9:w2.heap.size<wr.heap.size:=Hvne.out _ e.symm; omega))))
   have hbx:=((Below.refl w3.heap.size w3).alloc (zG _) (.cells #[.int .i64 k',.string nm',.slice A' n' c',.slice C' m' d'] 60)).drew
   have hzx:(w3.alloc (.cells #[.int .i64 k',.string nm',.slice A' n' c',.slice C' m' d'] 60)).drew.heap.size=w3.heap.size+1:=by show (w3.alloc (.cells #[.int .i64 k',.string nm',.slice A' n' c',.slice C' m' d'] 60)).heap.size=_; simp
   have Qx:=HQ3.out.grown (grow_of_below hbx none) (fun b e=>by cases e)
   have hqx:QF (w3.alloc (.cells #[.int .i64 k',.string nm',.slice A' n' c',.slice C' m' d'] 60)).drew (Kin (w.heap.size+1) (w3.alloc (.cells #[.int .i64 k',.string nm',.slice A' n' c',.slice C' m' d'] 60)).drew u5) q [.int .i64 k',.string nm',.slice A' n' c',.slice C' m' d'] :=
    (HF3.out.keep fun b o hS=>hbx.cell (p:=⟨b,o,none⟩) hS.2).mono fun b hS=>⟨by have:=hS.1; omega,by rw [hzx]; have:=hS.2; omega,fun e=>by have h9:=Hvne.out _ e; have:=hS.1; omega⟩
   have hQ5:=Qx.put hqx hown5 hgrow (by rw [hzx]; rcases hat with h | h; exact .inl (by rw [h]; rfl); exact .inr (by rw [h]; rfl))
   have HQ5:=zh hQ5
   have HB5:Blk w5 w.heap.size 96 #[.int .i64 0,.string ByteArray.empty,.slice none 0 0,.slice none 0 0,.int .i64 0,.bool false]:=((HB3.out.alloc (.cells #[.int .i64 k',.string nm',.slice A' n' c',.slice C' m' d'] 60)).drew).grown hgrow (fun e=>by have:=(Hblk.out _ e.symm).1; omega)
   have Hb5:=(Hb3.out.trans (hbx.mono (by omega))).grown hgrow (by rw [hzx]; omega) (fun b e=>by have:=(Hblk.out b e).1; omega)
   have hsz5:w.heap.size+1≤w5.heap.size:=by have:=hgrow.size; rw [hzx] at this; omega
   have HB5':=zh HB5
   have Hb5':=zh Hb5
   clear hbx hzx Qx hqx hQ5 hown5 hgrow hat hlt5 Hkeep hown HQ3 HB3 HBx HB5 Hb5 Hblk HF3 Hvne x0 x1 x2 x3 x4 x5 y0 y1 y2 y3 y4 y5
   by_cases hkl:k1<L.length
   ·have hki:(k1:Int)<(L.length:Int):=by omega
    obtain ⟨b,o9,rfl,hb9,hc9⟩:=sv_at HR.out hkl
    have hcx:=((Hb5'.out.cell (p:=⟨b,o9+k1,none⟩) hb9).trans hc9)
    have hdk:L.drop k1=L[k1] :: L.drop (k1+1):=List.drop_eq_getElem_cons hkl
    have Hdk:=zh hdk
    clear hc9 hdk
    by_cases hs:L[k1]=OR
    ·have f79:((str L[k1]).toList == [79,82])=true:=by rw [str_is]; exact decide_eq_true hs
     have f79':((str L[k1]).toList != [79,82])=false:=by rw [bne,f79]; rfl
     have Hst2:Hid (∀ o,R (.or (acc ++ [q])) (L.drop (k1+1)) o→R (.or acc) (L.drop k) o):=zh (fun o h=>.or1 HRo.out (by rw [Hdk.out]; exact .orO hs h))
     clear hs
     generalize L[k1]=s1 at *
     have HL5:=zh (show Lr w L p Md.or (.or []) w5 (.slice (some ⟨gg,0,none⟩) (acc.length+1) cap) (acc ++ [q]) (vss ++ [[.int .i64 k',.string nm',.slice A' n' c',.slice C' m' d']]) (k1+1) from
      ⟨HQ5.out,Hb5'.out,HB5'.out,by omega,by omega,by omega,by rw [List.length_append,List.length_singleton]; omega,fun o h=>HL.out.tk _ (Hst2.out o h)⟩)
     go_wp2_with fail
     go_roundw
     case rel=>exact ⟨_,_,_,by first | rfl | go_num,HL5.out⟩
     case measure=>simp [intOf]; omega
    ·have f79:((str L[k1]).toList == [79,82])=false:=by rw [str_is]; exact decide_eq_false hs
     have f79':((str L[k1]).toList != [79,82])=true:=by rw [bne,f79]; rfl
     have HHn:=zh (HL.out.tk _ (.or1 HRo.out (.orE (by rw [Hdk.out,List.head?_cons]; intro e; injection e with e; exact hs e))))
     clear hs
     generalize L[k1]=s1 at *
     have c9:=one_rf (w.heap.size+1) 6 (k1:Int) _ _ _ w5 HQ5.out (by simp)
     go_wp2_with fail
     refine c9.mono ?_
     rintro e w6 ⟨b0,b1,b2,b3,rfl,⟨k',nm',A',n',c',C',m',d',e5⟩,hF6,hb6⟩
     simp only [List.cons.injEq,and_true] at e5
     obtain ⟨rfl,rfl,rfl,rfl⟩:=e5
     have B6:=HB5'.out.below hb6 (by omega)
     have b6:=Hb5'.out.trans (hb6.mono (by omega))
     have HF:=zh (q_retR (w:=w) (g:=w.heap.size) (cs:=#[.int .i64 k',.string nm',.slice A' n' c',.slice C' m' d',.int .i64 (k1:Int),.bool true]) hF6 (Nat.lt_succ_self _) (zG _))
     clear hb6 c9 hF6
     have HO:Hid ((World.heap w6)[w.heap.size]?=some (.cells #[.int .i64 0,.string ByteArray.empty,.slice none 0 0,.slice none 0 0,.int .i64 0,.bool false] 96 (0,0))):=zh B6
     have HX:=zh (setRow_heap _ w.heap.size _ #[.int .i64 k',.string nm',.slice A' n' c',.slice C' m' d',.int .i64 (k1:Int),.bool true] _ _ HO.out)
     have Hbl:=zh (below_setRow b6 (zG _) #[.int .i64 k',.string nm',.slice A' n' c',.slice C' m' d',.int .i64 (k1:Int),.bool true])
     go_wp2_with (refine wpList_store_row (o:=⟨none,.store 96 _ _,_,_,_,_⟩) rfl 96 _ _ rfl w.heap.size #[.int .i64 k',.string nm',.slice A' n' c',.slice C' m' d',.int .i64 (k1:Int),.bool true] rfl rfl 96 #[.int .i64 0,.string ByteArray.empty,.slice none 0 0,.slice none 0 0,.int .i64 0,.bool false] HO.out (by kernel_rfl) rfl (by simp [Value.oneCell']) ?_)
     refine bodyPost_ret (results_cell rfl rfl (run_loadVar_row _ w.heap.size 96 96 _ (0,0) _ HX.out Tryz.underlying96 rfl (by kernel_rfl))) rfl ?_
     exact ⟨_,_,_,_,_,_,rfl,⟨_,_,_,_,_,_,_,_,rfl⟩,Hbl.out,_,HHn.out,rfl,(fun q' r' h=>by injection h with h; simp only [Prod.mk.injEq] at h; obtain ⟨rfl,rfl⟩:=h; exact ⟨k1,rfl,hk1,rfl,HF.out⟩)⟩
   ·have hki:(L.length:Int)≤(k1:Int):=by omega
    have HHn:=zh (HL.out.tk _ (.or1 HRo.out (.orE (by rw [List.drop_of_length_le (show L.length≤k1 by omega)]; simp))))
    clear hkl
    have c9:=one_rf (w.heap.size+1) 6 (k1:Int) _ _ _ w5 HQ5.out (by simp)
    go_wp2_with fail
    refine c9.mono ?_
    rintro e w6 ⟨b0,b1,b2,b3,rfl,⟨k',nm',A',n',c',C',m',d',e5⟩,hF6,hb6⟩
    simp only [List.cons.injEq,and_true] at e5
    obtain ⟨rfl,rfl,rfl,rfl⟩:=e5
    have B6:=HB5'.out.below hb6 (by omega)
    have b6:=Hb5'.out.trans (hb6.mono (by omega))
    have HF:=zh (q_retR (w:=w) (g:=w.heap.size) (cs:=#[.int .i64 k',.string nm',.slice A' n' c',.slice C' m' d',.int .i64 (k1:Int),.bool true]) hF6 (Nat.lt_succ_self _) (zG _))
    clear hb6 c9 hF6
    have HO:Hid ((World.heap w6)[w.heap.size]?=some (.cells #[.int .i64 0,.string ByteArray.empty,.slice none 0 0,.slice none 0 0,.int .i64 0,.bool false] 96 (0,0))):=zh B6
    have HX:=zh (setRow_heap _ w.heap.size _ #[.int .i64 k',.string nm',.slice A' n' c',.slice C' m' d',.int .i64 (k1:Int),.bool true] _ _ HO.out)
    have Hbl:=zh (below_setRow b6 (zG _) #[.int .i64 k',.string nm',.slice A' n' c',.slice C' m' d',.int .i64 (k1:Int),.bool true])
    go_wp2_with (refine wpList_store_row (o:=⟨none,.store 96 _ _,_,_,_,_⟩) rfl 96 _ _ rfl w.heap.size #[.int .i64 k',.string nm',.slice A' n' c',.slice C' m' d',.int .i64 (k1:Int),.bool true] rfl rfl 96 #[.int .i64 0,.string ByteArray.empty,.slice none 0 0,.slice none 0 0,.int .i64 0,.bool false] HO.out (by kernel_rfl) rfl (by simp [Value.oneCell']) ?_)
    refine bodyPost_ret (results_cell rfl rfl (run_loadVar_row _ w.heap.size 96 96 _ (0,0) _ HX.out Tryz.underlying96 rfl (by kernel_rfl))) rfl ?_
    exact ⟨_,_,_,_,_,_,rfl,⟨_,_,_,_,_,_,_,_,rfl⟩,Hbl.out,_,HHn.out,rfl,(fun q' r' h=>by injection h with h; simp only [Prod.mk.injEq] at h; obtain ⟨rfl,rfl⟩:=h; exact ⟨k1,rfl,hk1,rfl,HF.out⟩)⟩
end Go.Proofs.YtmomjpolkkbhnaaGreat.Qp


