/- qparse: leaf: the walk (printed by gen_qpg.py). -/
import Derived.Test.YtmomjpolkkbhnaaGreatQModelPagesRow23
import Derived.Test.YtmomjpolkkbhnaaGreatQModelPagesRow9
import Derived.Test.YtmomjpolkkbhnaaGreatQModelPagesRow0
set_option linter.unusedSimpArgs false
set_option maxRecDepth 20000
namespace Go.Proofs.YtmomjpolkkbhnaaGreat.Qp
open Go.RowKit Ut Tk Qy
theorem q_ret {w W:World} {g base:Nat} {q:Q} {a0 a1 a2 a3:Value} (hF:QF W (fun b=>base≤b∧b<W.heap.size) q [a0,a1,a2,a3]) (hb:g<base) (hw:w.heap.size≤g) :
  QF (set4 W g a0 a1 a2 a3) (fun b=>w.heap.size≤b∧b<(set4 W g a0 a1 a2 a3).heap.size) q [a0,a1,a2,a3] :=
 (hF.keep fun b _ hS=>World.cell?_of_block (w:=W) (set4_other W g b _ _ _ _ (by have:=hS.1; omega))).mono fun b hS=>⟨by have:=hS.1; omega,by rw [set4_size]; exact hS.2⟩
theorem sep_le (s:P):sepAt s≤s.length:=List.findIdx_le_length
theorem named_iff (s:P):named s=decide (atC 58 (s.take (atC 34 s))<(s.take (atC 34 s)).length)∧(named s=true→sepAt s=atC 58 s):=by
 unfold named sepAt atC
 induction s with
 | nil=>exact ⟨rfl,fun h=>by simp at h⟩
 | cons c t ih =>
  by_cases h1:c=58
  ·subst h1
   refine ⟨?_,fun _=>?_⟩
   ·simp [List.findIdx_cons]
   ·simp [List.findIdx_cons]
  ·have e1:(c == 58)=false:=beq_eq_false_iff_ne.2 h1
   by_cases h2:c=34
   ·subst h2
    refine ⟨?_,fun h=>?_⟩
    ·simp [List.findIdx_cons]
    ·simp [List.findIdx_cons] at h
   ·have e2:(c == 34)=false:=beq_eq_false_iff_ne.2 h2
    simp only [List.findIdx_cons,e1,e2,Bool.or_self,cond_false,zC,List.take_succ_cons,List.length_cons]
    refine ⟨?_,fun h=>?_⟩
    ·rw [ih.1]; congr 1; simp
    ·rw [ih.2 h]
theorem has_star (l:P):Lib.hasSuffix l [42]=decide (l.getLast?=some 42):=by
 unfold Lib.hasSuffix
 rw [Bool.eq_iff_iff,List.isSuffixOf_iff_suffix,decide_eq_true_iff]
 constructor
 ·rintro ⟨t,rfl⟩; simp
 ·intro h
  obtain ⟨ys,rfl⟩:=List.getLast?_eq_some_iff.1 h
  exact ⟨ys,rfl⟩
theorem trim_star (l:P) (h:l.getLast?=some 42):Lib.trimSuffix l [42]=l.dropLast:=by
 unfold Lib.trimSuffix
 rw [has_star,if_pos (by simpa using h)]
 rw [List.dropLast_eq_take]; rfl
theorem rest_two (s:P) (hq:quoteAt s<s.length→quoteAt s+2≤s.length) (h:(restOf s).head?=some 34) : 2≤(restOf s).length:=by
 unfold restOf at h ⊢
 by_cases hn:named s=true
 ·rw [if_pos hn] at h ⊢
  unfold named at hn
  rw [beq_iff_eq] at hn
  have h1:=findIdx_is (fun c=>c == 58 || c == 34) s
  have hk:sepAt s<s.length:=by
   rcases Nat.lt_or_ge (sepAt s) s.length with h | h
   ·exact h
   ·rw [List.getElem?_eq_none h] at hn; cases hn
  have hk1:sepAt s+1<s.length:=by
   rcases Nat.lt_or_ge (sepAt s+1) s.length with h' | h'
   ·exact h'
   ·rw [List.drop_of_length_le h'] at h; cases h
  have hq1:quoteAt s=sepAt s+1:=by
   refine findIdx_of _ s _ (fun x hx=>?_) (by omega) (fun hlt=>?_)
   ·rw [List.take_succ_eq_append_getElem hk,List.mem_append] at hx
    rcases hx with hx | hx
    ·have:=h1.1 x hx
     simp only [Bool.or_eq_false_iff] at this
     exact this.2
    ·rw [List.mem_singleton] at hx
     rw [List.getElem?_eq_getElem hk,Option.some.injEq] at hn
     rw [hx,hn]; rfl
   ·rw [List.drop_eq_getElem_cons hk1,List.head?_cons,Option.some.injEq] at h
    rw [h]; rfl
  rw [List.length_drop]
  have:=hq (by omega)
  omega
 ·rw [if_neg hn] at h ⊢
  cases s with
  | nil=>cases h
  | cons c t =>
   simp only [List.head?_cons,Option.some.injEq] at h
   subst h
   have e:quoteAt ((34:UInt8) :: t)=0:=by simp [quoteAt,List.findIdx_cons]
   rw [e] at hq
   exact hq (by simp)
def starS:ByteArray:=⟨#[42]⟩
theorem star_tl (s:P):((str s).toList == [42])=decide (s=[42]):=by
 rw [tl,str_data,Bool.eq_iff_iff,beq_iff_eq,decide_eq_true_iff]
set_option maxHeartbeats 2000000 in
theorem leaf_q (g:Nat) (s:P) (hp:Pc s) (hl:s.length≤1048576) (w:World):Calls Tryz.prog 176 #[.pointer (some ⟨g,0,none⟩),.string (str s)] w (LfPost w (leafQ s)):=by
 by_cases hst:s=[42]
 ·have Fin:Hid (leafQ s=some (.mk 1 ByteArray.empty [] [])):=zh (by unfold leafQ; rw [if_pos hst])
  subst hst
  have hh:=Blk.new w 60 #[.int .i64 1,.string ByteArray.empty,.slice none 0 0,.slice none 0 0]
  have Hbl:=zh ((Below.refl w.heap.size w).alloc (zG _) (.cells #[.int .i64 1,.string ByteArray.empty,.slice none 0 0,.slice none 0 0] 60))
  have e0:(str [42]).toList=[42]:=by rw [tl,str_data]
  clear hp hl
  go_enter Tryz.func176,Tryz.ntmps176
  go_wp2_with fail
  refine bodyPost_ret (results_cell rfl rfl (run_loadVar_row _ w.heap.size 60 60 #[.int .i64 1,.string ByteArray.empty,.slice none 0 0,.slice none 0 0] (0,0) _ hh Tryz.underlying60 rfl (by kernel_rfl))) rfl ?_
  rw [Fin.out]
  exact ⟨_,_,_,_,rfl,.mk [] rfl (by simpa using ReadsS.none_) rfl rfl (by simp) ReadsS.none_ (fun i hi=>absurd hi (by simp)),Hbl.out⟩
 have e0:((str s).toList == [42])=false:=by rw [star_tl]; simpa using hst
 have hsz:(str s).size≤1048576:=by rw [← bsize,str_data]; exact hl
 have hb0:=(Below.refl w.heap.size w).alloc (zG _) (.cells #[.int .i64 0,.string ByteArray.empty,.slice none 0 0,.slice none 0 0] 60)
 have hB0:=Blk.new w 60 #[.int .i64 0,.string ByteArray.empty,.slice none 0 0,.slice none 0 0]
 have hz0:(w.alloc (.cells #[.int .i64 0,.string ByteArray.empty,.slice none 0 0,.slice none 0 0] 60)).heap.size=w.heap.size+1:=by simp
 have c0:=cutC_head 34 (str s) (w.alloc (.cells #[.int .i64 0,.string ByteArray.empty,.slice none 0 0,.slice none 0 0] 60)) hsz
 have hni:=named_iff s
 have Hq:=zh hp.qt
 have hh34:(headC 34 (str s)).data.toList=s.take (atC 34 s):=by rw [headC_data,str_data]
 have hhas:hasC 58 (headC 34 (str s))=named s:=by
  unfold hasC; rw [hh34,hni.1,← bsize,hh34]
 have Hhas:=zh hhas
 have Hni:=zh hni.2
 have Hb0:=zh hb0
 have HB0:=zh hB0
 have Hz0:=zh hz0
 have Hst:=zh hst
 have Hne:=zh hp.ne
 clear hni hp hb0 hB0 hz0 hhas hh34 hst
 go_enter Tryz.func176,Tryz.ntmps176
 go_wp2_with fail
 refine c0.mono ?_
 rintro e w1 ⟨y,b1,rfl,hb1⟩
 have hsz1:w.heap.size<w1.heap.size:=by have:=hb1.size; rw [Hz0.out] at this; omega
 have HB1:=zh (HB0.out.below hb1 (by rw [Hz0.out]; omega))
 have Hb1:=zh (Hb0.out.trans (hb1.mono (by rw [Hz0.out]; omega)))
 have c1:=containsC 58 (headC 34 (str s)) w1
 rw [Hhas.out] at c1
 clear hb1 c0
 generalize headC 34 (str s)=hd at *
 go_wp2_with fail
 refine c1.mono ?_
 rintro e w' ⟨rfl,rfl⟩
 clear c1 Hhas
 by_cases hn:named s=true
 case' pos =>
  have hat:atC 58 (str s).data.toList<(str s).size:=by
   rw [str_data,← bsize,str_data,← Hni.out hn]
   unfold named at hn
   rw [beq_iff_eq] at hn
   rcases Nat.lt_or_ge (sepAt s) s.length with h | h
   ·exact h
   ·rw [List.getElem?_eq_none h] at hn; cases hn
  have c2:=cutC_yes 58 (str s) w1 hsz hat
  have Hnm:Hid ((befC 58 (str s)).data.toList=nameOf s):=zh (by unfold nameOf; rw [if_pos hn,befC_data,str_data,Hni.out hn])
  have Hrs:Hid ((behC 58 (str s)).data.toList=restOf s):=zh (by unfold restOf; rw [if_pos hn,behC_data,str_data,Hni.out hn])
  have hnz:(befC 58 (str s)).size≤1048576:=by have:=befC_size 58 (str s); omega
  have hrz:(behC 58 (str s)).size≤1048576:=by have:=behC_size 58 (str s); omega
  clear hat Hni
  generalize befC 58 (str s)=nm at *
  generalize behC 58 (str s)=rs at *
  go_wp2_with fail
  refine c2.mono ?_
  rintro e wk ⟨rfl,hb2⟩
  have hszk:w.heap.size<wk.heap.size:=Nat.lt_of_lt_of_le hsz1 hb2.size
  have HBk:=zh (HB1.out.below hb2 hsz1)
  have Hbk:=zh (Hb1.out.trans (hb2.mono Hb1.out.size))
  clear c2 hb2 HB1 Hb1 hsz1 HB0 Hb0
  go_wp2_with fail
 case' neg =>
  have hn':named s=false:=by simpa using hn
  have hszk:=hsz1
  have HBk:=HB1
  have Hbk:=Hb1
  clear HB1 Hb1 hsz1 HB0 Hb0
  rename World=>wk
  go_wp2_with fail
  generalize hnm:(⟨#[109,115,103]⟩:ByteArray)=nm
  have Hnm:Hid (nm.data.toList=nameOf s):=zh (by unfold nameOf; rw [if_neg hn,← hnm]; rfl)
  have hnz:nm.size≤1048576:=by rw [← hnm]; decide
  obtain ⟨rs,hrs⟩:∃ rs,rs=str s:=⟨_,rfl⟩
  have Hrs:Hid (rs.data.toList=restOf s):=zh (by unfold restOf; rw [if_neg hn,hrs,str_data])
  have hrz:rs.size≤1048576:=by rw [hrs]; exact hsz
  rw [← hrs]
  clear hrs hnm Hni
 all_goals
  have cN:=fun wx=>isName_any nm wx hnz
  have CN:=zh cN
  clear cN
  by_cases hN:isN nm.data.toList=true
  case' neg =>
   have hN':isN nm.data.toList=false:=by simpa using hN
   have Fin:Hid (leafQ s=none):=zh (by unfold leafQ; rw [if_neg Hst.out,if_pos (by rw [← Hnm.out,← Hrs.out]; exact .inl hN')])
   rw [hN'] at CN
   refine wp_region_grow_tail 9 (specOf [(4,⟨Unit,fun _=>(.bool false),fun _ _=>True⟩)]) (fun wx=>Below wk.heap.size wk wx) (fun w1 w2=>Below w1.heap.size w1 w2) (by kernel_rfl) (by kernel_rfl) (stab_cons (fun _ _ _ _ _=>trivial) (stab_nil)) ((Below.refl _ _).drew) ?_
   simp only [List.take_succ_cons,List.take_zero,List.drop_succ_cons,List.drop_zero]
   iterate 4
    refine grow_fix _ ?_ rfl (by rfl) (by rfl) (fun wx hC hD=>?_) ?_
    rotate_left
    ·go_simp
     all_goals with_reducible rfl
    try simp only [Act.put,zD,zE,zF]
   refine grow_give 5 _ rfl (by rfl) (by rfl) (fun wx hC hD=>?_) (fun x=>?_)
   ·refine give_enter (f:=?_) (args:=?_) ?_ ?_
    rotate_left 2
    ·go_simp
     all_goals first | with_reducible rfl | (refine ⟨?_,?_⟩ <;> with_reducible rfl)
    exact calls_cst hC (CN.out wx)
   obtain ⟨⟩:=x
   try simp only [Act.put,zD,zE,zF]
   refine grow_fix 6 ?_ rfl (by rfl) (by rfl) (fun wx hC hD=>?_) ?_
   rotate_left
   ·go_simp
    all_goals with_reducible rfl
   try simp only [Act.put,zD,zE,zF]
   refine grow_skip 7 (some false) true rfl (by rfl) (by rfl) (by rfl) ?_
   try simp only [Act.put,zD,zE,zF]
   refine grow_skip 8 (some false) true rfl (by rfl) (by rfl) (by rfl) ?_
   try simp only [Act.put,zD,zE,zF]
   refine grow_fix 9 ?_ rfl (by rfl) (by rfl) (fun wx hC hD=>?_) ?_
   rotate_left
   ·go_simp
    all_goals with_reducible rfl
   try simp only [Act.put,zD,zE,zF]
   refine grow_nil (fun wn hC hF=>?_)
   have hbn:=Hid.out (zh hC)
   clear hF hC
   go_wp2_with (go_at_call 98; refine (must_no g _).mono ?_; rintro e w' ⟨rfl,rfl⟩)
   exact ⟨rfl,by rw [Fin.out]; exact ⟨rfl,Hbk.out.trans (hbn.mono (by omega))⟩⟩
  case' pos =>
   rw [hN] at CN
   by_cases hr:rs.size=0
   case' pos =>
    have hre:rs.data.toList=[]:=dl_nil rs hr
    have hre2:rs.toList.isEmpty=true:=by rw [tl,hre]; rfl
    have hre3:rs.toList=[]:=by rw [tl,hre]
    have Fin:Hid (leafQ s=none):=zh (by unfold leafQ; rw [if_neg Hst.out,if_pos (by rw [← Hnm.out,← Hrs.out]; exact .inr hre)])
    clear hre
    refine wp_region_grow_tail 9 (specOf [(4,⟨Unit,fun _=>(.bool true),fun _ _=>True⟩)]) (fun wx=>Below wk.heap.size wk wx) (fun w1 w2=>Below w1.heap.size w1 w2) (by kernel_rfl) (by kernel_rfl) (stab_cons (fun _ _ _ _ _=>trivial) (stab_nil)) ((Below.refl _ _).drew) ?_
    simp only [List.take_succ_cons,List.take_zero,List.drop_succ_cons,List.drop_zero]
    iterate 4
     refine grow_fix _ ?_ rfl (by rfl) (by rfl) (fun wx hC hD=>?_) ?_
     rotate_left
     ·go_simp
      all_goals with_reducible rfl
     try simp only [Act.put,zD,zE,zF]
    refine grow_give 5 _ rfl (by rfl) (by rfl) (fun wx hC hD=>?_) (fun x=>?_)
    ·refine give_enter (f:=?_) (args:=?_) ?_ ?_
     rotate_left 2
     ·go_simp
      all_goals first | with_reducible rfl | (refine ⟨?_,?_⟩ <;> with_reducible rfl)
     exact calls_cst hC (CN.out wx)
    obtain ⟨⟩:=x
    try simp only [Act.put,zD,zE,zF]
    iterate 4
     refine grow_fix _ ?_ rfl (by rfl) (by rfl) (fun wx hC hD=>?_) ?_
     rotate_left
     ·go_simp
      all_goals with_reducible rfl
     try simp only [Act.put,zD,zE,zF]
    refine grow_nil (fun wn hC hF=>?_)
    have hbn:=Hid.out (zh hC)
    clear hF hC
    go_wp2_with (go_at_call 98; refine (must_no g _).mono ?_; rintro e w' ⟨rfl,rfl⟩)
    exact ⟨rfl,by rw [Fin.out]; exact ⟨rfl,Hbk.out.trans (hbn.mono (by omega))⟩⟩
   case' neg =>
    have hr1 : 0<rs.size:=by omega
    have hre2:rs.toList.isEmpty=false:=by rw [tl,dl_cons rs hr1]; rfl
    refine wp_region_grow_tail 9 (specOf [(4,⟨Unit,fun _=>(.bool true),fun _ _=>True⟩)]) (fun wx=>Below wk.heap.size wk wx) (fun w1 w2=>Below w1.heap.size w1 w2) (by kernel_rfl) (by kernel_rfl) (stab_cons (fun _ _ _ _ _=>trivial) (stab_nil)) ((Below.refl _ _).drew) ?_
    simp only [List.take_succ_cons,List.take_zero,List.drop_succ_cons,List.drop_zero]
    iterate 4
     refine grow_fix _ ?_ rfl (by rfl) (by rfl) (fun wx hC hD=>?_) ?_
     rotate_left
     ·go_simp
      all_goals with_reducible rfl
     try simp only [Act.put,zD,zE,zF]
    refine grow_give 5 _ rfl (by rfl) (by rfl) (fun wx hC hD=>?_) (fun x=>?_)
    ·refine give_enter (f:=?_) (args:=?_) ?_ ?_
     rotate_left 2
     ·go_simp
      all_goals first | with_reducible rfl | (refine ⟨?_,?_⟩ <;> with_reducible rfl)
     exact calls_cst hC (CN.out wx)
    obtain ⟨⟩:=x
    try simp only [Act.put,zD,zE,zF]
    iterate 4
     refine grow_fix _ ?_ rfl (by rfl) (by rfl) (fun wx hC hD=>?_) ?_
     rotate_left
     ·go_simp
      all_goals with_reducible rfl
     try simp only [Act.put,zD,zE,zF]
    refine grow_nil (fun wn hC hF=>?_)
    have hbn:=Hid.out (zh hC)
    clear hF hC
    have hszn:w.heap.size<wn.heap.size:=Nat.lt_of_lt_of_le hszk hbn.size
    have HBn:=zh (HBk.out.below hbn hszk)
    have Hbn:=zh (Hbk.out.trans (hbn.mono (by omega)))
    clear hbn HBk Hbk CN hre2
    have hh:rs.data.toList.head?=some rs[0]:=by rw [← get_of rs 0 hr1]; cases rs.data.toList <;> rfl
    have u2:=u8_eq rs[0] 34
    rw [show (UInt8.toNat 34:Int)=34 from rfl] at u2
    have hrne:Hid (¬ (isN (nameOf s)=false∨restOf s=[])):=zh (by
     rw [← Hnm.out,← Hrs.out,hN]
     rintro (h | h)
     ·cases h
     ·rw [h] at hh; cases hh)
    by_cases hq:rs[0]=34
    case' pos =>
     have t2:((rs[0].toNat:Int) == 34)=true:=by rw [u2]; exact beq_iff_eq.2 hq
     have h2 : 2≤rs.size:=by
      have:=rest_two s Hq.out (by rw [← Hrs.out,hh,hq])
      rw [← Hrs.out,bsize] at this
      exact this
     have h2i:(1:Int)≤(rs.size:Int) - 1:=by omega
     have c3:=words_q g nm (rs.extract 1 (rs.size - 1)) wn (by rw [ByteArray.size_extract]; omega)
     have Fin:Hid (leafQ s=wordsQ nm.data.toList (words (rs.extract 1 (rs.size - 1)).data.toList)):=zh (by
      unfold leafQ
      rw [if_neg Hst.out,if_neg hrne.out,← Hrs.out,hh,hq,if_pos rfl,← Hnm.out,Lib.extract_data,bsize,List.drop_take])
     clear hh u2 hq
     generalize wordsQ nm.data.toList (words (rs.extract 1 (rs.size - 1)).data.toList)=oq at *
     go_wp2_with (go_at_call 98; refine (must_yes g _).mono ?_; rintro e w' ⟨rfl,rfl⟩)
     refine c3.mono ?_
     intro e w3 hpost
     cases oq with
     | none =>
      obtain ⟨rfl,hb3⟩:=hpost
      have hb3':=Hid.out (zh hb3)
      clear hb3
      unfold badE
      exact ⟨rfl,by rw [Fin.out]; exact ⟨rfl,Hbn.out.trans (hb3'.mono (by omega))⟩⟩
     | some q =>
      obtain ⟨a0,a1,a2,a3,rfl,hF,hb3⟩:=hpost
      have HB3:=HBn.out.below hb3 hszn
      obtain ⟨q0,q1,q2,q3,f0,f1,f2,f3⟩:=HB3.four
      obtain ⟨A',n',c',C',m',d',e4⟩:=hF.four
      simp only [List.cons.injEq,and_true] at e4
      obtain ⟨rfl,rfl,rfl,rfl⟩:=e4
      have hh:=HB3.set4 (.int .i64 q.kind) (.string q.name) (.slice A' n' c') (.slice C' m' d')
      have HF:=zh (q_ret (w:=w) hF hszn (zG _))
      have Hbl:=zh (below_set4 (Hbn.out.trans (hb3.mono (by omega))) (zG _) (.int .i64 q.kind) (.string q.name) (.slice A' n' c') (.slice C' m' d'))
      have Hh:=zh hh
      clear hF hb3 HB3 hh
      go_wp2_with fail
      refine bodyPost_ret (results_cell rfl rfl (run_loadVar_row _ w.heap.size 60 60 #[.int .i64 q.kind,.string q.name,.slice A' n' c',.slice C' m' d'] (0,0) _ Hh.out Tryz.underlying60 rfl (by kernel_rfl))) rfl ?_
      rw [Fin.out]
      exact ⟨_,_,_,_,rfl,HF.out,Hbl.out⟩
    case' neg =>
     have t2:((rs[0].toNat:Int) == 34)=false:=by rw [u2]; exact beq_eq_false_iff_ne.2 hq
     have cc:Calls Tryz.prog 197 #[.string rs,.string ⟨#[42]⟩] wn fun e w'=>e=.returned (.tuple #[.string (str (Lib.trimSuffix rs.data.toList [42])),.bool (Lib.hasSuffix rs.data.toList [42])])∧wn=w' :=
      (Tryz.strings_CutSuffix rs starS wn (by omega)).mono fun _ _ h=>⟨h.1,h.2.symm⟩
     have hqn:¬ (restOf s).head?=some 34:=by rw [← Hrs.out,hh]; simpa using hq
     by_cases hs:rs.data.toList.getLast?=some 42
     case' neg =>
      have e5:Lib.hasSuffix rs.data.toList [42]=false:=by rw [has_star]; simpa using hs
      rw [e5] at cc
      have c3:=words_q g nm rs wn hrz
      have Fin:Hid (leafQ s=wordsQ nm.data.toList (words rs.data.toList)):=zh (by
       unfold leafQ
       rw [if_neg Hst.out,if_neg hrne.out,if_neg hqn,← Hrs.out,if_neg hs,← Hnm.out])
      clear hh u2 hq hqn hs e5
      generalize Lib.trimSuffix rs.data.toList [42]=tr at *
      generalize wordsQ nm.data.toList (words rs.data.toList)=oq at *
      go_wp2_with (first
       | (go_at_call 98; refine (must_yes g _).mono ?_; rintro e w' ⟨rfl,rfl⟩)
       | (go_at_call 197; refine cc.mono ?_; rintro e w' ⟨rfl,rfl⟩))
      refine c3.mono ?_
      intro e w3 hpost
      cases oq with
      | none =>
       obtain ⟨rfl,hb3⟩:=hpost
       have hb3':=Hid.out (zh hb3)
       clear hb3
       unfold badE
       exact ⟨rfl,by rw [Fin.out]; exact ⟨rfl,Hbn.out.trans (hb3'.mono (by omega))⟩⟩
      | some q =>
       obtain ⟨a0,a1,a2,a3,rfl,hF,hb3⟩:=hpost
       have HB3:=HBn.out.below hb3 hszn
       obtain ⟨q0,q1,q2,q3,f0,f1,f2,f3⟩:=HB3.four
       obtain ⟨A',n',c',C',m',d',e4⟩:=hF.four
       simp only [List.cons.injEq,and_true] at e4
       obtain ⟨rfl,rfl,rfl,rfl⟩:=e4
       have hh:=HB3.set4 (.int .i64 q.kind) (.string q.name) (.slice A' n' c') (.slice C' m' d')
       have HF:=zh (q_ret (w:=w) hF hszn (zG _))
       have Hbl:=zh (below_set4 (Hbn.out.trans (hb3.mono (by omega))) (zG _) (.int .i64 q.kind) (.string q.name) (.slice A' n' c') (.slice C' m' d'))
       have Hh:=zh hh
       clear hF hb3 HB3 hh
       go_wp2_with fail
       refine bodyPost_ret (results_cell rfl rfl (run_loadVar_row _ w.heap.size 60 60 #[.int .i64 q.kind,.string q.name,.slice A' n' c',.slice C' m' d'] (0,0) _ Hh.out Tryz.underlying60 rfl (by kernel_rfl))) rfl ?_
       rw [Fin.out]
       exact ⟨_,_,_,_,rfl,HF.out,Hbl.out⟩
     case' pos =>
      have e5:Lib.hasSuffix rs.data.toList [42]=true:=by rw [has_star]; simpa using hs
      rw [e5,trim_star _ hs] at cc
      have hdl:rs.data.toList.dropLast.length=rs.size - 1:=by rw [List.length_dropLast,bsize]
      have hz5:(str rs.data.toList.dropLast).size≤1048576:=by rw [← bsize,str_data,hdl]; omega
      have c4:=words_any (str rs.data.toList.dropLast) wn hz5
      rw [str_data] at c4
      have Fin0:Hid (leafQ s=if rs.size=1 then some (.mk 3 nm [ByteArray.empty] []) else if (words rs.data.toList.dropLast).length=1 then some (.mk 3 nm ((words rs.data.toList.dropLast).map str) []) else none):=zh (by
       unfold leafQ
       rw [if_neg Hst.out,if_neg hrne.out,if_neg hqn,← Hrs.out,if_pos hs,bsize,← Hnm.out,of_str])
      have hwl:=words_len (str rs.data.toList.dropLast)
      rw [str_data] at hwl
      have Hem:Hid (rs.size=1→(str rs.data.toList.dropLast).toList=[]):=zh (fun h=>by
       rw [tl,str_data]; exact List.length_eq_zero_iff.1 (by rw [hdl]; omega))
      have Hnem:Hid (rs.size≠1→(str rs.data.toList.dropLast).toList.isEmpty=false):=zh (fun h=>by
       rw [tl,str_data]
       cases hd5:rs.data.toList.dropLast with
       | nil=>rw [hd5] at hdl; simp at hdl; omega
       | cons a b=>rfl)
      clear hh u2 hq hqn hs e5 hdl
      generalize words rs.data.toList.dropLast=l at *
      generalize str rs.data.toList.dropLast=bg at *
      go_wp2_with (first
       | (go_at_call 98; refine (must_yes g _).mono ?_; rintro e w' ⟨rfl,rfl⟩)
       | (go_at_call 197; refine cc.mono ?_; rintro e w' ⟨rfl,rfl⟩))
      refine c4.mono ?_
      rintro e w3 ⟨v,rfl,hown,hb3⟩
      obtain ⟨A,c,rfl,_⟩:=own_shape hown
      have hR:=(ReadsS.of_own hown).mono (S':=fun b=>wn.heap.size≤b∧b<w3.heap.size) fun b hS=>⟨hS.1,hS.2.1⟩
      have hsz3:wn.heap.size≤w3.heap.size:=hb3.size
      have HB3:=zh (HBn.out.below hb3 hszn)
      have Hb3:=zh (Hbn.out.trans (hb3.mono (by omega)))
      have HR:=zh hR
      clear hown hR hb3 c4 cc
      by_cases hr1':rs.size=1
      ·have hbe:=Hem.out hr1'
       have Fin:Hid (leafQ s=some (.mk 3 nm [⟨#[]⟩] [])):=zh (by rw [Fin0.out,if_pos hr1']; rfl)
       obtain ⟨q0,q1,q2,q3,f0,f1,f2,f3⟩:=HB3.out.four
       have hlt3:w.heap.size<w3.heap.size:=by omega
       have hne3:w.heap.size≠w3.heap.size:=by omega
       have hNx:=Blk.new (set4 w3 w.heap.size (.int .i64 3) (.string nm) (.slice (some ⟨w3.heap.size,0,none⟩) 1 1) (.slice none 0 0)) 9 #[.string ⟨#[]⟩]
       have hzx:(World.heap ((set4 w3 w.heap.size (.int .i64 3) (.string nm) (.slice (some ⟨w3.heap.size,0,none⟩) 1 1) (.slice none 0 0)).alloc (.cells #[.string ⟨#[]⟩] 9))).size=w3.heap.size+1:=by rw [World.size_alloc,set4_size]
       rw [set4_size] at hNx
       have hh:=(HB3.out.set4 (.int .i64 3) (.string nm) (.slice (some ⟨w3.heap.size,0,none⟩) 1 1) (.slice none 0 0)).alloc (.cells #[.string ⟨#[]⟩] 9)
       have HF:Hid (QF ((set4 w3 w.heap.size (.int .i64 3) (.string nm) (.slice (some ⟨w3.heap.size,0,none⟩) 1 1) (.slice none 0 0)).alloc (.cells #[.string ⟨#[]⟩] 9)) (fun b=>w.heap.size≤b∧b<(World.heap ((set4 w3 w.heap.size (.int .i64 3) (.string nm) (.slice (some ⟨w3.heap.size,0,none⟩) 1 1) (.slice none 0 0)).alloc (.cells #[.string ⟨#[]⟩] 9))).size) (.mk 3 nm [⟨#[]⟩] []) [.int .i64 3,.string nm,.slice (some ⟨w3.heap.size,0,none⟩) 1 1,.slice none 0 0]):=zh
        (.mk [] rfl ⟨rfl,fun _=>⟨w3.heap.size,0,rfl,⟨by omega,by omega⟩,fun j u hu=>by
         rw [hNx.cell]; match j,hu with
         | 0,hu=>simpa using hu
         | j+1,hu=>simp at hu⟩⟩ rfl rfl (by simp) ReadsS.none_ (fun i hi=>absurd hi (by simp)))
       have Hbl:=zh ((below_set4 Hb3.out (zG _) (.int .i64 3) (.string nm) (.slice (some ⟨w3.heap.size,0,none⟩) 1 1) (.slice none 0 0)).alloc (by rw [set4_size]; omega) (.cells #[.string ⟨#[]⟩] 9))
       have Hh:=zh hh
       clear hNx hzx hh HR Hem Hnem hr1'
       go_wp2_with (go_at_call 98; refine (must_yes g _).mono ?_; rintro e w' ⟨rfl,rfl⟩)
       refine bodyPost_ret (results_cell rfl rfl (run_loadVar_row _ w.heap.size 60 60 #[.int .i64 3,.string nm,.slice (some ⟨w3.heap.size,0,none⟩) 1 1,.slice none 0 0] (0,0) _ Hh.out Tryz.underlying60 rfl (by kernel_rfl))) rfl ?_
       rw [Fin.out]
       exact ⟨_,_,_,_,rfl,HF.out,Hbl.out⟩
      ·have hbe:=Hnem.out hr1'
       by_cases hl1:l.length=1
       ·have Fin:Hid (leafQ s=some (.mk 3 nm (l.map str) [])):=zh (by rw [Fin0.out,if_neg hr1',if_pos hl1])
        obtain ⟨q0,q1,q2,q3,f0,f1,f2,f3⟩:=HB3.out.four
        generalize hn0:l.length=n at *
        have Hn0:=zh hn0
        have hh:=HB3.out.set4 (.int .i64 3) (.string nm) (.slice A n c) (.slice none 0 0)
        have hF:QF w3 (fun b=>wn.heap.size≤b∧b<w3.heap.size) (.mk 3 nm (l.map str) []) [.int .i64 3,.string nm,.slice A n c,.slice none 0 0] :=
         .mk [] (by rw [List.length_map]; exact hn0) HR.out rfl rfl (by simp) ReadsS.none_ (fun i hi=>absurd hi (by simp))
        have HF:=zh (q_ret (w:=w) hF hszn (zG _))
        have Hbl:=zh (below_set4 Hb3.out (zG _) (.int .i64 3) (.string nm) (.slice A n c) (.slice none 0 0))
        have Hh:=zh hh
        have hl1':((n:Int) == 1)=true:=by rw [hl1]; rfl
        clear hF hh HR Hem Hnem hr1' hn0 hl1
        go_wp2_with (go_at_call 98; refine (must_yes g _).mono ?_; rintro e w' ⟨rfl,rfl⟩)
        refine bodyPost_ret (results_cell rfl rfl (run_loadVar_row _ w.heap.size 60 60 #[.int .i64 3,.string nm,.slice A n c,.slice none 0 0] (0,0) _ Hh.out Tryz.underlying60 rfl (by kernel_rfl))) rfl ?_
        rw [Fin.out]
        exact ⟨_,_,_,_,rfl,HF.out,Hbl.out⟩
       ·have Fin:Hid (leafQ s=none):=zh (by rw [Fin0.out,if_neg hr1',if_neg hl1])
        have hl1':((l.length:Int) == 1)=false:=by rw [beq_eq_false_iff_ne]; omega
        clear HR Hem Hnem hr1' hl1
        generalize l.length=n at *
        go_wp2_with (go_at_call 98; refine (must_no g _).mono ?_; rintro e w' ⟨rfl,rfl⟩)
        exact ⟨rfl,by rw [Fin.out]; exact ⟨rfl,Hb3.out⟩⟩
end Go.Proofs.YtmomjpolkkbhnaaGreat.Qp


