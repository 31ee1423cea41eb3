/- loggiaref17.leaf: the walk (printed by gen_qps.py). -/
import Derived.Test.YtmomjpolkkbhnaaGreatQModelPagesRow26
import Derived.Test.YtmomjpolkkbhnaaGreatQModelPagesRow0
set_option linter.unusedSimpArgs false
set_option maxRecDepth 20000
namespace Go.Proofs.YtmomjpolkkbhnaaGreat.Qp
open Go.RowKit Ut Tk Qy
set_option maxHeartbeats 6400000 in
theorem leaf_rf (s:P) (hp:Pc s) (hl:s.length≤1048576) (w:World):Calls Tryz.prog 144 #[.string (str s)] w (RwPost w.heap.size w (leafQ s)):=by
 by_cases hst:s=[42]
 ·have Fin:Hid (leafQ s=some (.mk 1 ⟨#[]⟩ [] [])):=zh (by unfold leafQ; rw [if_pos hst]; rfl)
  subst hst
  have hh:=Blk.new w 60 #[.int .i64 1,.string ⟨#[]⟩,.slice none 0 0,.slice none 0 0]
  have Hbl:=zh ((Below.refl w.heap.size w).alloc (zG _) (.cells #[.int .i64 1,.string ⟨#[]⟩,.slice none 0 0,.slice none 0 0] 60))
  have e0:(str [42]).toList=[42]:=by rw [tl,str_data]
  clear hp hl
  go_enter Tryz.func144,Tryz.ntmps144
  go_wp2_with fail
  refine bodyPost_ret (cs_results rfl rfl rfl hh) rfl ?_
  rw [Fin.out]
  exact ⟨_,_,_,_,rfl,⟨_,_,_,_,_,_,_,_,rfl⟩,(fun q h=>by injection h with h; subst h; exact .mk [] rfl (by simpa using ReadsS.none_) rfl rfl (by simp) ReadsS.none_ (fun i hi=>absurd hi (by simp))),Hbl.out⟩
 have e0:((str s).toList == [42])=false:=by rw [star_tl]; simpa using hst
 have hsz:(str s).size≤1048576:=by rw [← bsize,str_data]; exact hl
 have hb0:=(Below.refl w.heap.size w).alloc (zG _) (.cells #[.int .i64 0,.string ByteArray.empty,.slice none 0 0,.slice none 0 0] 60)
 have hB0:=Blk.new w 60 #[.int .i64 0,.string ByteArray.empty,.slice none 0 0,.slice none 0 0]
 have hz0:(w.alloc (.cells #[.int .i64 0,.string ByteArray.empty,.slice none 0 0,.slice none 0 0] 60)).heap.size=w.heap.size+1:=by simp
 have c0:=colon_ref (str s) (w.alloc (.cells #[.int .i64 0,.string ByteArray.empty,.slice none 0 0,.slice none 0 0] 60)) hsz
 rw [str_data] at c0
 have Hq:=zh hp.qt
 have Hb0:=zh hb0
 have HB0:=zh hB0
 have Hz0:=zh hz0
 have Hst:=zh hst
 have hsle:=sep_le s
 clear hp hb0 hB0 hz0 hst
 go_enter Tryz.func144,Tryz.ntmps144
 go_wp2_with fail
 refine c0.mono ?_
 rintro e w' ⟨rfl,rfl⟩
 clear c0
 by_cases hn:named s=true
 case' pos =>
  have hcv:colonV s=((sepAt s:Nat):Int):=by unfold colonV; rw [if_pos hn]
  have hlt:sepAt s<s.length:=by
   unfold named at hn
   rw [beq_iff_eq] at hn
   rcases Nat.lt_or_ge (sepAt s) s.length with h | h
   ·exact h
   ·rw [List.getElem?_eq_none h] at hn; cases hn
  have hsl:(str s).size=s.length:=by rw [← bsize,str_data]
  rw [hcv]
  have Hnm:Hid (((str s).extract 0 (sepAt s)).data.toList=nameOf s):=zh (by unfold nameOf; rw [if_pos hn,Lib.extract_data,str_data]; simp)
  have Hrs:Hid (((str s).extract (sepAt s+1) (str s).size).data.toList=restOf s):=zh (by unfold restOf; rw [if_pos hn,Lib.extract_data,str_data,List.take_of_length_le (by rw [List.length_drop]; omega)])
  have hnz:((str s).extract 0 (sepAt s)).size≤1048576:=by rw [ByteArray.size_extract]; omega
  have hrz:((str s).extract (sepAt s+1) (str s).size).size≤1048576:=by rw [ByteArray.size_extract]; omega
  have hk0:(0:Int)≤(sepAt s:Int):=by omega
  have hk1:(sepAt s:Int)≤((str s).size:Int):=by omega
  have hk2:IntKind.i64.wrap ((sepAt s:Int)+1)=(sepAt s:Int)+1:=IntWalk.i64_in _ (by omega)
  have hk3:(0:Int)≤(sepAt s:Int)+1:=by omega
  have hk4:(sepAt s:Int)+1≤((str s).size:Int):=by omega
  clear hcv hsle
  generalize hks:sepAt s=k at *
  have Hks:=zh hks
  clear hks hsl hlt
  go_wp2_with fail
  go_region
  clear hk2
  generalize (str s).extract 0 k=nm at *
  generalize (str s).extract (k+1) (str s).size=rs at *
  have HBk:=zh (HB0.out.drew)
  have Hbk:=zh (Hb0.out.drew)
  have hszk:w.heap.size<(w.alloc (.cells #[.int .i64 0,.string ByteArray.empty,.slice none 0 0,.slice none 0 0] 60)).drew.heap.size:=by show w.heap.size<(w.alloc (.cells #[.int .i64 0,.string ByteArray.empty,.slice none 0 0,.slice none 0 0] 60)).heap.size; rw [Hz0.out]; omega
  clear HB0 Hb0 Hz0
  generalize (w.alloc (.cells #[.int .i64 0,.string ByteArray.empty,.slice none 0 0,.slice none 0 0] 60)).drew=wk at *
  go_wp2_with fail
 case' neg =>
  have hcv:colonV s=-1:=by unfold colonV; rw [if_neg hn]
  rw [hcv]
  have HBk:=HB0
  have Hbk:=Hb0
  have hszk:w.heap.size<(w.alloc (.cells #[.int .i64 0,.string ByteArray.empty,.slice none 0 0,.slice none 0 0] 60)).heap.size:=by rw [Hz0.out]; omega
  clear HB0 Hb0 Hz0 hcv
  go_wp2_with fail
  generalize hnm:(⟨#[109,115,103]⟩:ByteArray)=nm
  have Hnm:Hid (nm.data.toList=nameOf s):=zh (by unfold nameOf; rw [if_neg hn,← hnm]; rfl)
  have hnz:nm.size≤1048576:=by rw [← hnm]; decide
  obtain ⟨rs,hrs⟩:∃ rs,rs=str s:=⟨_,rfl⟩
  have Hrs:Hid (rs.data.toList=restOf s):=zh (by unfold restOf; rw [if_neg hn,hrs,str_data])
  have hrz:rs.size≤1048576:=by rw [hrs]; exact hsz
  rw [← hrs]
  clear hrs hnm hsle
  generalize (w.alloc (.cells #[.int .i64 0,.string ByteArray.empty,.slice none 0 0,.slice none 0 0] 60))=wk at *
 all_goals
  have CN:=zh (isName_ref nm wk hnz)
  by_cases hN:isN nm.data.toList=true
  case' neg =>
   have hN':isN nm.data.toList=false:=by simpa using hN
   rw [hN'] at CN
   have Fin:=zh (show leafQ s=none by unfold leafQ; rw [if_neg Hst.out,if_pos (by rw [← Hnm.out,← Hrs.out]; exact .inl hN')])
   refine CN.out.mono ?_
   rintro e w' ⟨rfl,rfl⟩
   obtain ⟨q0,q1,q2,q3,f0,f1,f2,f3⟩:=HBk.out.four
   have hX:=HBk.out.set4 (.int .i64 0) (.string ⟨#[]⟩) (.slice none 0 0) (.slice none 0 0)
   have Hbl:=zh (below_set4 Hbk.out (zG _) (.int .i64 0) (.string ⟨#[]⟩) (.slice none 0 0) (.slice none 0 0))
   have HX:=zh hX
   clear hX
   go_wp2_with fail
   refine bodyPost_ret (cs_results rfl rfl rfl HX.out) rfl ?_
   rw [Fin.out]
   exact ⟨_,_,_,_,rfl,⟨_,_,_,_,_,_,_,_,rfl⟩,(fun q h=>by cases h),Hbl.out⟩
  case' pos =>
   rw [hN] at CN
   by_cases hr:rs.size=0
   case' pos =>
    have hre:rs.data.toList=[]:=dl_nil rs hr
    have Fin:=zh (show leafQ s=none by unfold leafQ; rw [if_neg Hst.out,if_pos (by rw [← Hnm.out,← Hrs.out]; exact .inr hre)])
    have hr':((rs.size:Int) == 0)=true:=by rw [hr]; rfl
    clear hre hr
    refine CN.out.mono ?_
    rintro e w' ⟨rfl,rfl⟩
    obtain ⟨q0,q1,q2,q3,f0,f1,f2,f3⟩:=HBk.out.four
    have hX:=HBk.out.set4 (.int .i64 0) (.string ⟨#[]⟩) (.slice none 0 0) (.slice none 0 0)
    have Hbl:=zh (below_set4 Hbk.out (zG _) (.int .i64 0) (.string ⟨#[]⟩) (.slice none 0 0) (.slice none 0 0))
    have HX:=zh hX
    clear hX
    go_wp2_with fail
    refine bodyPost_ret (cs_results rfl rfl rfl HX.out) rfl ?_
    rw [Fin.out]
    exact ⟨_,_,_,_,rfl,⟨_,_,_,_,_,_,_,_,rfl⟩,(fun q h=>by cases h),Hbl.out⟩
   case' neg =>
    have hr1 : 0<rs.size:=by omega
    have hr':((rs.size:Int) == 0)=false:=by rw [beq_eq_false_iff_ne]; omega
    have hh:rs.data.toList.head?=some rs[0]:=by rw [← get_of rs 0 hr1]; cases rs.data.toList <;> rfl
    have u2:=u8_eq rs[0] 34
    rw [show (UInt8.toNat 34:Int)=34 from rfl] at u2
    have hrne:Hid (¬ (isN (nameOf s)=false∨restOf s=[])):=zh (by
     rw [← Hnm.out,← Hrs.out,hN]
     rintro (h | h)
     ·cases h
     ·rw [h] at hh; cases hh)
    by_cases hq:rs[0]=34
    case' pos =>
     have t2:((rs[0].toNat:Int) == 34)=true:=by rw [u2]; exact beq_iff_eq.2 hq
     have h2 : 2≤rs.size:=by
      have:=rest_two s Hq.out (by rw [← Hrs.out,hh,hq])
      rw [← Hrs.out,bsize] at this
      exact this
     have h2i:(1:Int)≤(rs.size:Int) - 1:=by omega
     have cW:=words_ref (rs.extract 1 (rs.size - 1)) wk (by rw [ByteArray.size_extract]; omega)
     have Fin:Hid (leafQ s=wordsQ nm.data.toList (words (rs.extract 1 (rs.size - 1)).data.toList)):=zh (by
      unfold leafQ
      rw [if_neg Hst.out,if_neg hrne.out,← Hrs.out,hh,hq,if_pos rfl,← Hnm.out,Lib.extract_data,bsize,List.drop_take])
     clear hh u2 hq
     generalize words (rs.extract 1 (rs.size - 1)).data.toList=l at *
     refine CN.out.mono ?_
     rintro e w' ⟨rfl,rfl⟩
     go_wp2_with fail
     refine cW.mono ?_
     rintro e w4 ⟨v,rfl,hown,hb4⟩
     obtain ⟨A4,c4,rfl,_⟩:=own_shape hown
     have hR4:=(ReadsS.of_own hown).mono (S':=fun b=>wk.heap.size≤b∧b<w4.heap.size) fun b hS=>⟨hS.1,hS.2.1⟩
     have hsz4:wk.heap.size≤w4.heap.size:=hb4.size
     have HB4:=zh (HBk.out.below hb4 hszk)
     have Hb4:=zh (Hbk.out.trans (hb4.mono (by omega)))
     clear hown hb4 cW
     have c5:=words_rf wk.heap.size nm l A4 c4 w4 hR4
     generalize wordsQ nm.data.toList l=oq at *
     clear hR4
     go_wp2_with fail
     refine c5.mono ?_
     rintro e w5 ⟨a0,a1,a2,a3,rfl,⟨k',nm',A',n',c',C',m',d',e4⟩,hF,hb5⟩
     simp only [List.cons.injEq,and_true] at e4
     obtain ⟨rfl,rfl,rfl,rfl⟩:=e4
     have HB5:=HB4.out.below hb5 (by omega)
     have Hb5:=Hb4.out.trans (hb5.mono (by omega))
     have HF:Hid (∀ q,oq=some q→QF (set4 w5 w.heap.size (.int .i64 k') (.string nm') (.slice A' n' c') (.slice C' m' d')) (fun b=>w.heap.size≤b∧b<(set4 w5 w.heap.size (.int .i64 k') (.string nm') (.slice A' n' c') (.slice C' m' d')).heap.size) q [.int .i64 k',.string nm',.slice A' n' c',.slice C' m' d']) :=
      zh (fun q h=>q_ret (w:=w) (hF q h) hszk (zG _))
     clear hF hb5
     obtain ⟨q0,q1,q2,q3,f0,f1,f2,f3⟩:=HB5.four
     have hX:=HB5.set4 (.int .i64 k') (.string nm') (.slice A' n' c') (.slice C' m' d')
     have Hbl:=zh (below_set4 Hb5 (zG _) (.int .i64 k') (.string nm') (.slice A' n' c') (.slice C' m' d'))
     have HX:=zh hX
     clear hX
     go_wp2_with fail
     refine bodyPost_ret (cs_results rfl rfl rfl HX.out) rfl ?_
     rw [Fin.out]
     exact ⟨_,_,_,_,rfl,⟨_,_,_,_,_,_,_,_,rfl⟩,HF.out,Hbl.out⟩
    case' neg =>
     have t2:((rs[0].toNat:Int) == 34)=false:=by rw [u2]; exact beq_eq_false_iff_ne.2 hq
     have hqn:¬ (restOf s).head?=some 34:=by rw [← Hrs.out,hh]; simpa using hq
     have hm1:rs.size - 1<rs.size:=by omega
     have hlast:rs.data.toList.getLast?=some (rs[rs.size - 1]'hm1):=by
      rw [List.getLast?_eq_getElem?,bsize]; exact get_of rs _ hm1
     have u3:=u8_eq (rs[rs.size - 1]'hm1) 42
     rw [show (UInt8.toNat 42:Int)=42 from rfl] at u3
     have h0i:(0:Int)≤(rs.size:Int) - 1:=by omega
     by_cases hs:rs[rs.size - 1]'hm1=42
     case' neg =>
      have t3:(((rs[rs.size - 1]'hm1).toNat:Int) == 42)=false:=by rw [u3]; exact beq_eq_false_iff_ne.2 hs
      have hs2:¬ rs.data.toList.getLast?=some 42:=by rw [hlast]; simpa using hs
      have cW:=words_ref rs wk hrz
      have Fin:Hid (leafQ s=wordsQ nm.data.toList (words rs.data.toList)):=zh (by
       unfold leafQ
       rw [if_neg Hst.out,if_neg hrne.out,if_neg hqn,← Hrs.out,if_neg hs2,← Hnm.out])
      clear hh u2 u3 hq hqn hs hs2 hlast
      generalize words rs.data.toList=l at *
      refine CN.out.mono ?_
      rintro e w' ⟨rfl,rfl⟩
      go_wp2_with fail
      refine cW.mono ?_
      rintro e w4 ⟨v,rfl,hown,hb4⟩
      obtain ⟨A4,c4,rfl,_⟩:=own_shape hown
      have hR4:=(ReadsS.of_own hown).mono (S':=fun b=>wk.heap.size≤b∧b<w4.heap.size) fun b hS=>⟨hS.1,hS.2.1⟩
      have hsz4:wk.heap.size≤w4.heap.size:=hb4.size
      have HB4:=zh (HBk.out.below hb4 hszk)
      have Hb4:=zh (Hbk.out.trans (hb4.mono (by omega)))
      clear hown hb4 cW
      have c5:=words_rf wk.heap.size nm l A4 c4 w4 hR4
      generalize wordsQ nm.data.toList l=oq at *
      clear hR4
      go_wp2_with fail
      refine c5.mono ?_
      rintro e w5 ⟨a0,a1,a2,a3,rfl,⟨k',nm',A',n',c',C',m',d',e4⟩,hF,hb5⟩
      simp only [List.cons.injEq,and_true] at e4
      obtain ⟨rfl,rfl,rfl,rfl⟩:=e4
      have HB5:=HB4.out.below hb5 (by omega)
      have Hb5:=Hb4.out.trans (hb5.mono (by omega))
      have HF:Hid (∀ q,oq=some q→QF (set4 w5 w.heap.size (.int .i64 k') (.string nm') (.slice A' n' c') (.slice C' m' d')) (fun b=>w.heap.size≤b∧b<(set4 w5 w.heap.size (.int .i64 k') (.string nm') (.slice A' n' c') (.slice C' m' d')).heap.size) q [.int .i64 k',.string nm',.slice A' n' c',.slice C' m' d']) :=
       zh (fun q h=>q_ret (w:=w) (hF q h) hszk (zG _))
      clear hF hb5
      obtain ⟨q0,q1,q2,q3,f0,f1,f2,f3⟩:=HB5.four
      have hX:=HB5.set4 (.int .i64 k') (.string nm') (.slice A' n' c') (.slice C' m' d')
      have Hbl:=zh (below_set4 Hb5 (zG _) (.int .i64 k') (.string nm') (.slice A' n' c') (.slice C' m' d'))
      have HX:=zh hX
      clear hX
      go_wp2_with fail
      refine bodyPost_ret (cs_results rfl rfl rfl HX.out) rfl ?_
      rw [Fin.out]
      exact ⟨_,_,_,_,rfl,⟨_,_,_,_,_,_,_,_,rfl⟩,HF.out,Hbl.out⟩
     case' pos =>
      have t3:(((rs[rs.size - 1]'hm1).toNat:Int) == 42)=true:=by rw [u3]; exact beq_iff_eq.2 hs
      have hs2:rs.data.toList.getLast?=some 42:=by rw [hlast,hs]
      have hdl:(rs.extract 0 (rs.size - 1)).data.toList=rs.data.toList.dropLast:=by rw [Lib.extract_data,List.dropLast_eq_take,bsize]; rfl
      have cW:=words_ref (rs.extract 0 (rs.size - 1)) wk (by rw [ByteArray.size_extract]; omega)
      have Fin0:Hid (leafQ s=if rs.size=1 then some (.mk 3 nm [ByteArray.empty] []) else if (words (rs.extract 0 (rs.size - 1)).data.toList).length=1 then some (.mk 3 nm ((words (rs.extract 0 (rs.size - 1)).data.toList).map str) []) else none):=zh (by
       unfold leafQ
       rw [if_neg Hst.out,if_neg hrne.out,if_neg hqn,← Hrs.out,if_pos hs2,bsize,← Hnm.out,of_str,hdl])
      clear hh u2 u3 hq hqn hs hs2 hlast hdl
      generalize words (rs.extract 0 (rs.size - 1)).data.toList=l at *
      refine CN.out.mono ?_
      rintro e w' ⟨rfl,rfl⟩
      go_wp2_with fail
      refine cW.mono ?_
      rintro e w4 ⟨v,rfl,hown,hb4⟩
      obtain ⟨A4,c4,rfl,_⟩:=own_shape hown
      have hR4:=(ReadsS.of_own hown).mono (S':=fun b=>wk.heap.size≤b∧b<w4.heap.size) fun b hS=>⟨hS.1,hS.2.1⟩
      have hsz4:wk.heap.size≤w4.heap.size:=hb4.size
      have HB4:=zh (HBk.out.below hb4 hszk)
      have Hb4:=zh (Hbk.out.trans (hb4.mono (by omega)))
      clear hown hb4 cW
      by_cases hr1':rs.size=1
      case' pos =>
       have t5:((rs.size:Int) == 1)=true:=by rw [hr1']; rfl
       have Fin:Hid (leafQ s=some (.mk 3 nm [⟨#[]⟩] [])):=zh (by rw [Fin0.out,if_pos hr1']; rfl)
       obtain ⟨q0,q1,q2,q3,f0,f1,f2,f3⟩:=HB4.out.four
       have hlt3:w.heap.size<w4.heap.size:=by omega
       have hne3:w.heap.size≠w4.heap.size:=by omega
       have hNx:=Blk.new (set4 w4 w.heap.size (.int .i64 3) (.string nm) (.slice (some ⟨w4.heap.size,0,none⟩) 1 1) (.slice none 0 0)) 9 #[.string ⟨#[]⟩]
       have hzx:(World.heap ((set4 w4 w.heap.size (.int .i64 3) (.string nm) (.slice (some ⟨w4.heap.size,0,none⟩) 1 1) (.slice none 0 0)).alloc (.cells #[.string ⟨#[]⟩] 9))).size=w4.heap.size+1:=by rw [World.size_alloc,set4_size]
       rw [set4_size] at hNx
       have hX:=(HB4.out.set4 (.int .i64 3) (.string nm) (.slice (some ⟨w4.heap.size,0,none⟩) 1 1) (.slice none 0 0)).alloc (.cells #[.string ⟨#[]⟩] 9)
       have HF:Hid (QF ((set4 w4 w.heap.size (.int .i64 3) (.string nm) (.slice (some ⟨w4.heap.size,0,none⟩) 1 1) (.slice none 0 0)).alloc (.cells #[.string ⟨#[]⟩] 9)) (fun b=>w.heap.size≤b∧b<(World.heap ((set4 w4 w.heap.size (.int .i64 3) (.string nm) (.slice (some ⟨w4.heap.size,0,none⟩) 1 1) (.slice none 0 0)).alloc (.cells #[.string ⟨#[]⟩] 9))).size) (.mk 3 nm [⟨#[]⟩] []) [.int .i64 3,.string nm,.slice (some ⟨w4.heap.size,0,none⟩) 1 1,.slice none 0 0]):=zh
        (.mk [] rfl ⟨rfl,fun _=>⟨w4.heap.size,0,rfl,⟨by omega,by omega⟩,fun j u hu=>by
         rw [hNx.cell]; match j,hu with
         | 0,hu=>simpa using hu
         | j+1,hu=>simp at hu⟩⟩ rfl rfl (by simp) ReadsS.none_ (fun i hi=>absurd hi (by simp)))
       have Hbl:=zh ((below_set4 Hb4.out (zG _) (.int .i64 3) (.string nm) (.slice (some ⟨w4.heap.size,0,none⟩) 1 1) (.slice none 0 0)).alloc (by rw [set4_size]; omega) (.cells #[.string ⟨#[]⟩] 9))
       have HX:=zh hX
       clear hNx hzx hX hR4 hr1'
       go_wp2_with fail
       refine bodyPost_ret (cs_results rfl rfl rfl HX.out) rfl ?_
       rw [Fin.out]
       exact ⟨_,_,_,_,rfl,⟨_,_,_,_,_,_,_,_,rfl⟩,(fun q h=>by injection h with h; subst h; exact HF.out),Hbl.out⟩
      case' neg =>
       have t5:((rs.size:Int) == 1)=false:=by rw [beq_eq_false_iff_ne]; omega
       by_cases hl1:l.length=1
       case' pos =>
        have Fin:Hid (leafQ s=some (.mk 3 nm (l.map str) [])):=zh (by rw [Fin0.out,if_neg hr1',if_pos hl1])
        have t6:((l.length:Int) == 1)=true:=by rw [hl1]; rfl
        have hF:QF w4 (fun b=>wk.heap.size≤b∧b<w4.heap.size) (.mk 3 nm (l.map str) []) [.int .i64 3,.string nm,.slice A4 l.length c4,.slice none 0 0] :=
         .mk [] (by rw [List.length_map]) hR4 rfl rfl (by simp) ReadsS.none_ (fun i hi=>absurd hi (by simp))
        have HF:=zh (q_ret (w:=w) hF hszk (zG _))
        clear hF hR4 hr1' hl1
        generalize l.length=n at *
        obtain ⟨q0,q1,q2,q3,f0,f1,f2,f3⟩:=HB4.out.four
        have hX:=HB4.out.set4 (.int .i64 3) (.string nm) (.slice A4 n c4) (.slice none 0 0)
        have Hbl:=zh (below_set4 Hb4.out (zG _) (.int .i64 3) (.string nm) (.slice A4 n c4) (.slice none 0 0))
        have HX:=zh hX
        clear hX
        go_wp2_with fail
        refine bodyPost_ret (cs_results rfl rfl rfl HX.out) rfl ?_
        rw [Fin.out]
        exact ⟨_,_,_,_,rfl,⟨_,_,_,_,_,_,_,_,rfl⟩,(fun q h=>by injection h with h; subst h; exact HF.out),Hbl.out⟩
       case' neg =>
        have Fin:Hid (leafQ s=none):=zh (by rw [Fin0.out,if_neg hr1',if_neg hl1])
        have t6:((l.length:Int) == 1)=false:=by rw [beq_eq_false_iff_ne]; omega
        clear hR4 hr1' hl1
        generalize l.length=n at *
        obtain ⟨q0,q1,q2,q3,f0,f1,f2,f3⟩:=HB4.out.four
        have hX:=HB4.out.set4 (.int .i64 3) (.string nm) (.slice A4 n c4) (.slice none 0 0)
        have Hbl:=zh (below_set4 Hb4.out (zG _) (.int .i64 3) (.string nm) (.slice A4 n c4) (.slice none 0 0))
        have HX:=zh hX
        clear hX
        go_wp2_with fail
        refine bodyPost_ret (cs_results rfl rfl rfl HX.out) rfl ?_
        rw [Fin.out]
        exact ⟨_,_,_,_,rfl,⟨_,_,_,_,_,_,_,_,rfl⟩,(fun q h=>by cases h),Hbl.out⟩
end Go.Proofs.YtmomjpolkkbhnaaGreat.Qp


