/- loggiaref17.Parse: the walk (printed by gen_qpv.py). -/
import Derived.Test.YtmomjpolkkbhnaaGreatQModelPagesRow30
import Derived.Test.YtmomjpolkkbhnaaGreatQModelPagesRow31
import Derived.Test.YtmomjpolkkbhnaaGreatQModelPagesRow0
set_option linter.unusedSimpArgs false
set_option maxRecDepth 20000
namespace Go.Proofs.YtmomjpolkkbhnaaGreat.Qp
open Go.RowKit Ut Tk Qy
theorem all_rf (L:List P) (hL:L.length≤1048576) (hpc:PcAll L):∀ (n p:Nat),L.length - p≤n→p≤L.length→PartRf L p∧AndRf L p∧OrRf L p:=by
 have pend:PartRf L L.length:=part_end L _ (zG _)
 intro n
 induction n with
 | zero =>
  intro p h1 h2
  obtain rfl:p=L.length:=by omega
  have ps:∀ k,L.length≤k→k≤L.length→PartRf L k:=fun k a b=>by
   obtain rfl:k=L.length:=by omega
   exact pend
  have ha:=and_rf L _ hL (zG _) ps
  exact ⟨pend,ha,or_rf L _ hL (zG _) fun k a b=>by
   obtain rfl:k=L.length:=by omega
   exact ha⟩
 | succ n ih =>
  intro p h1 h2
  by_cases hp:p<L.length
  ·have it:=ih (p+1) (by omega) (by omega)
   have hx:=hpc L[p] (List.getElem_mem hp)
   have part:PartRf L p:=by
    by_cases e1:L[p]=NOT
    ·exact partr_not L p hp hL e1 it.1
    by_cases e2:L[p]=LP
    ·exact partr_lp L p hp hL e2 it.2.2
    by_cases e3:L[p]=RP
    ·exact partr_RP L p hp hL e3
    by_cases e4:L[p]=AND
    ·exact partr_AND L p hp hL e4
    by_cases e5:L[p]=OR
    ·exact partr_OR L p hp hL e5
    exact partr_leaf L p hp hL (by unfold word1; simp [e1,e2,e3,e4,e5]) hx.1 hx.2
   have ps:∀ k,p≤k→k≤L.length→PartRf L k:=fun k a b=>by
    by_cases hk:k=p
    ·subst hk; exact part
    ·exact (ih k (by omega) b).1
   have ha:=and_rf L p hL h2 ps
   exact ⟨part,ha,or_rf L p hL h2 fun k a b=>by
    by_cases hk:k=p
    ·subst hk; exact ha
    ·exact (ih k (by omega) b).2.1⟩
  ·exact ih p (by omega) h2
set_option maxHeartbeats 6400000 in
theorem parse_rf (s:ByteArray) (w:World):Calls Tryz.prog 16 #[.string s] w (ParPost w s.data.toList):=by
 by_cases hs : 1024<s.size
 ·have hs':(1024:Int)<(s.size:Int):=by omega
  have HP:=zh (PrsR.long (s:=s.data.toList) (by rw [bsize]; exact hs))
  have hB:=Blk.new w 60 #[.int .i64 0,.string ⟨#[]⟩,.slice none 0 0,.slice none 0 0]
  have hbl:=zh ((Below.refl w.heap.size w).alloc (zG _) (.cells #[.int .i64 0,.string ⟨#[]⟩,.slice none 0 0,.slice none 0 0] 60))
  clear hs
  go_enter Tryz.func16,Tryz.ntmps16
  go_wp2_with fail
  exact bodyPost_ret (cs_results rfl rfl rfl hB) rfl ⟨2,none,_,_,_,_,HP.out,rfl,noQ_at _ _,hbl.out⟩
 have hs':(s.size:Int)≤1024:=by omega
 have hs1:s.data.toList.length≤1024:=by rw [bsize]; omega
 have c0:=pieces_ref s (w.alloc (.cells #[.int .i64 0,.string ByteArray.empty,.slice none 0 0,.slice none 0 0] 60)) (by omega)
 have hpc:=pieces_pc s.data.toList.length s.data.toList
 have hpm:=pieces_many s.data.toList.length s.data.toList
 have B1:=zh (Blk.new w 60 #[.int .i64 0,.string ByteArray.empty,.slice none 0 0,.slice none 0 0])
 have Hb:=zh ((Below.refl w.heap.size w).alloc (zG _) (.cells #[.int .i64 0,.string ByteArray.empty,.slice none 0 0,.slice none 0 0] 60))
 have Hz:=zh (show (w.alloc (.cells #[.int .i64 0,.string ByteArray.empty,.slice none 0 0,.slice none 0 0] 60)).heap.size=w.heap.size+1 by simp)
 have Hs1:=zh hs1
 clear hs hs1
 obtain ⟨L,okp,hL,hall,hokp⟩:∃ (L:List P) (okp:Bool),L.length≤1024∧PcAll L∧((okp=true∧pieces s.data.toList=some L)∨(okp=false∧L=[]∧pieces s.data.toList=none)):=by
  cases h:pieces s.data.toList with
  | none=>exact ⟨[],false,by simp,(fun x hx=>by cases hx),.inr ⟨rfl,rfl,rfl⟩⟩
  | some l=>exact ⟨l,true,by have:=hpm l (zG _) h; have:=Hs1.out; omega,(fun x hx=>by have:=hpc l (zG _) h x hx; exact ⟨this.1,by have:=this.2; have:=Hs1.out; omega⟩),.inl ⟨rfl,rfl⟩⟩
 have c0':Calls Tryz.prog 41 #[.string s] (w.alloc (.cells #[.int .i64 0,.string ByteArray.empty,.slice none 0 0,.slice none 0 0] 60)) fun e w3=>∃ A c,e=.returned (.tuple #[.slice A L.length c,.bool okp])∧Reads w3 w3.heap.size 1 A L.length (sv L)∧Below (w.alloc (.cells #[.int .i64 0,.string ByteArray.empty,.slice none 0 0,.slice none 0 0] 60)).heap.size (w.alloc (.cells #[.int .i64 0,.string ByteArray.empty,.slice none 0 0,.slice none 0 0] 60)) w3:=by
  refine c0.mono fun e w3 h=>?_
  rcases hokp with ⟨rfl,hp⟩ | ⟨rfl,rfl,hp⟩
  ·rw [hp] at h
   obtain ⟨v,rfl,hown,hb⟩:=h
   obtain ⟨A,c,rfl,hR⟩:=own_shape hown
   exact ⟨A,c,rfl,hR,hb⟩
  ·rw [hp] at h
   obtain ⟨rfl,hb⟩:=h
   exact ⟨none,0,rfl,Reads.none_,hb⟩
 have Hokp:=zh hokp
 have Hall:=zh hall
 clear c0 hpc hpm hokp hall
 go_enter Tryz.func16,Tryz.ntmps16
 go_wp2_with fail
 refine c0'.mono ?_
 rintro e w1 ⟨A,c,rfl,hR1,hb1⟩
 have hsz1:w.heap.size+1≤w1.heap.size:=by have:=hb1.size; rw [Hz.out] at this; exact this
 have HB1:=zh (B1.out.below hb1 (by rw [Hz.out]; omega))
 have Hb1:=zh (Hb.out.trans (hb1.mono (by rw [Hz.out]; omega)))
 have c1:=(all_rf L (by omega) Hall.out L.length 0 (by omega) (Nat.zero_le _)).2.2 w1 A c hR1
 have hLi:(L.length:Int)≤1024:=by omega
 clear c0' hR1 hb1 B1 Hb
 go_wp2_with fail
 refine Calls.mono (show Calls Tryz.prog 42 #[.slice A L.length c,.int .i64 0] w1 (PrPost w1 L (.or []) 0) from c1) ?_
 rintro e w2 ⟨a0,a1,a2,a3,z,ok,rfl,⟨k',nm',A',n',c',C',m',d',e4⟩,hb,o',hRo,hok,hres⟩
 simp only [List.cons.injEq,and_true] at e4
 obtain ⟨rfl,rfl,rfl,rfl⟩:=e4
 rw [List.drop_zero] at hRo
 have hsz2:=hb.size
 have hbb:=(Below.refl w2.heap.size w2).alloc (zG _) (.cells #[.int .i64 k',.string nm',.slice A' n' c',.slice C' m' d',.int .i64 z,.bool ok] 96)
 have hbw:=hb.trans (hbb.mono hsz2)
 have HB3:=zh (HB1.out.below hbw (by omega))
 have Hb3:=zh (Hb1.out.trans (hbw.mono (by omega)))
 have HBx:=zh (Blk.new w2 96 #[.int .i64 k',.string nm',.slice A' n' c',.slice C' m' d',.int .i64 z,.bool ok])
 have HRo:=zh hRo
 have Hok:=zh hok
 have Hres:=zh (fun q r h=>let ⟨k1,h1,h2,h3,h4⟩:=hres q r h; (⟨k1,h1,h2,h3,h4.grow hbb⟩:∃ k1:Nat,z=(k1:Int)∧k1≤L.length∧r=L.drop k1∧QF (w2.alloc (.cells #[.int .i64 k',.string nm',.slice A' n' c',.slice C' m' d',.int .i64 z,.bool ok] 96)) (fun b=>w1.heap.size≤b∧b<(w2.alloc (.cells #[.int .i64 k',.string nm',.slice A' n' c',.slice C' m' d',.int .i64 z,.bool ok] 96)).heap.size) q [.int .i64 k',.string nm',.slice A' n' c',.slice C' m' d']))
 have hzw:w2.heap.size<(w2.alloc (.cells #[.int .i64 k',.string nm',.slice A' n' c',.slice C' m' d',.int .i64 z,.bool ok] 96)).heap.size:=by simp
 clear c1 hb hbb hbw hRo hok hres HB1 Hb1 Hz
 go_upto_region 5 with (fail)
 generalize hw3:w2.alloc (.cells #[.int .i64 k',.string nm',.slice A' n' c',.slice C' m' d',.int .i64 z,.bool ok] 96)=w3 at *
 clear hw3
 obtain ⟨x0,x1,x2,x3,x4,x5,_,_,_,_,_,_⟩:=HBx.out.six
 rcases Hokp.out with ⟨hok1,hpp⟩ | ⟨hok1,hL0,hpp⟩
 case' inr =>
  have HP:=zh (PrsR.noPieces Hs1.out hpp)
  clear hpp Hokp Hres HRo Hok hL0
  subst hok1
  obtain ⟨q0,q1,q2,q3,f0,f1,f2,f3⟩:=HB3.out.four
  have HX:=zh (HB3.out.set4 (.int .i64 0) (.string ⟨#[]⟩) (.slice none 0 0) (.slice none 0 0))
  have Hbl:=zh (below_set4 Hb3.out (zG _) (.int .i64 0) (.string ⟨#[]⟩) (.slice none 0 0) (.slice none 0 0))
  go_wp2_with fail
  exact bodyPost_ret (cs_results rfl rfl rfl HX.out) rfl ⟨170,none,_,_,_,_,HP.out,rfl,noQ_at _ _,Hbl.out⟩
 case' inl =>
  have Hpp:=zh hpp
  clear hpp Hokp
  subst hok1
  match o',Hok,HRo,Hres with
  | none,Hok,HRo,Hres =>
   obtain rfl:ok=false:=Hok.out
   have HP:=zh (PrsR.bad Hs1.out Hpp.out HRo.out)
   clear Hok
   obtain ⟨q0,q1,q2,q3,f0,f1,f2,f3⟩:=HB3.out.four
   have HX:=zh (HB3.out.set4 (.int .i64 0) (.string ⟨#[]⟩) (.slice none 0 0) (.slice none 0 0))
   have Hbl:=zh (below_set4 Hb3.out (zG _) (.int .i64 0) (.string ⟨#[]⟩) (.slice none 0 0) (.slice none 0 0))
   go_wp2_with fail
   exact bodyPost_ret (cs_results rfl rfl rfl HX.out) rfl ⟨170,none,_,_,_,_,HP.out,rfl,noQ_at _ _,Hbl.out⟩
  | some (q,r),Hok,HRo,Hres =>
   obtain rfl:ok=true:=Hok.out
   obtain ⟨k1,rfl,hk1,rfl,hF3⟩:=Hres.out q r rfl
   have hk10:(0:Int)≤(k1:Int):=by omega
   have HF3:=zh hF3
   clear Hres Hok hF3
   by_cases hkl:k1=L.length
   case' neg =>
    have hkl':((k1:Int) != (L.length:Int))=true:=by rw [bne_iff_ne]; omega
    have hkl2:((k1:Int) == (L.length:Int))=false:=by rw [beq_eq_false_iff_ne]; omega
    have hkn:(k1 != L.length)=true:=by rw [bne_iff_ne]; exact hkl
    have hkn2:(k1 == L.length)=false:=by rw [beq_eq_false_iff_ne]; exact hkl
    have HP:=zh (PrsR.left Hs1.out Hpp.out HRo.out (fun e=>by
     have:=congrArg List.length e
     rw [List.length_drop] at this
     simp at this
     omega))
    clear hkl
    obtain ⟨q0,q1,q2,q3,f0,f1,f2,f3⟩:=HB3.out.four
    have HX:=zh (HB3.out.set4 (.int .i64 0) (.string ⟨#[]⟩) (.slice none 0 0) (.slice none 0 0))
    have Hbl:=zh (below_set4 Hb3.out (zG _) (.int .i64 0) (.string ⟨#[]⟩) (.slice none 0 0) (.slice none 0 0))
    go_wp2_with fail
    exact bodyPost_ret (cs_results rfl rfl rfl HX.out) rfl ⟨170,none,_,_,_,_,HP.out,rfl,noQ_at _ _,Hbl.out⟩
   case' pos =>
    have hr0:L.drop k1=[]:=List.drop_of_length_le (by omega)
    have hRo2:=HRo.out
    rw [hr0] at hRo2
    have HRo2:=zh hRo2
    have hkl':((k1:Int) != (L.length:Int))=false:=by rw [bne_eq_false_iff_eq]; omega
    have hkl2:((k1:Int) == (L.length:Int))=true:=by rw [beq_iff_eq]; omega
    have hkn:(k1 != L.length)=false:=by rw [bne_eq_false_iff_eq]; exact hkl
    have hkn2:(k1 == L.length)=true:=by rw [beq_iff_eq]; exact hkl
    obtain ⟨K,hK,hQW⟩:=or_wide hRo2 (fun x hx=>(Hall.out x hx).2) (by omega)
    have c8:=many_ref hQW w3 _ _ _ _ (HF3.out.at_ fun b hS=>hS.2)
    have HQW:=zh hQW
    have hlt3:w.heap.size<w3.heap.size:=by omega
    clear hkl hr0 hRo2 HRo hQW
    go_wp2_with fail
    refine c8.mono ?_
    rintro e w8 ⟨rfl,hb8⟩
    clear c8 x0 x1 x2 x3 x4 x5
    have hsz8:=hb8.size
    have HB8:=zh (HB3.out.below hb8 hlt3)
    have HBx8:=zh (HBx.out.below hb8 hzw)
    have Hb8:=zh (Hb3.out.trans (hb8.mono (by omega)))
    have HF8:=zh (HF3.out.grow hb8)
    clear hb8 HB3 HBx Hb3 HF3
    obtain ⟨x0,x1,x2,x3,x4,x5,_,_,_,_,_,_⟩:=HBx8.out.six
    cases hmq:manyB q with
    | true =>
     have HP:=zh (PrsR.many Hs1.out Hpp.out HRo2.out hmq)
     clear hmq
     obtain ⟨q0,q1,q2,q3,f0,f1,f2,f3⟩:=HB8.out.four
     have HX:=zh (HB8.out.set4 (.int .i64 0) (.string ⟨#[]⟩) (.slice none 0 0) (.slice none 0 0))
     have Hbl:=zh (below_set4 Hb8.out (zG _) (.int .i64 0) (.string ⟨#[]⟩) (.slice none 0 0) (.slice none 0 0))
     go_wp2_with fail
     exact bodyPost_ret (cs_results rfl rfl rfl HX.out) rfl ⟨3,none,_,_,_,_,HP.out,rfl,noQ_at _ _,Hbl.out⟩
    | false =>
     have Hmq:=zh hmq
     have c9:=depth_ref HQW.out hK w8 _ _ _ _ (HF8.out.at_ fun b hS=>hS.2)
     have hK2:depthN q≤16777216:=Nat.le_trans HQW.out.depth hK
     clear hmq
     go_wp2_with fail
     refine c9.mono ?_
     rintro e wd ⟨rfl,hbd⟩
     clear c9 x0 x1 x2 x3 x4 x5
     have HBd:=zh (HB8.out.below hbd (by omega))
     have HBxd:=zh (HBx8.out.below hbd (by omega))
     have Hbd:=zh (Hb8.out.trans (hbd.mono (by omega)))
     have HFd:=zh (HF8.out.grow hbd)
     clear hbd HB8 HBx8 Hb8 HF8
     obtain ⟨x0,x1,x2,x3,x4,x5,_,_,_,_,_,_⟩:=HBxd.out.six
     by_cases hdp : 16<depthN q
     ·have hdp':(16:Int)<(depthN q:Int):=by omega
      have HP:=zh (PrsR.deep Hs1.out Hpp.out HRo2.out Hmq.out hdp)
      clear hdp
      generalize depthN q=dq at *
      obtain ⟨q0,q1,q2,q3,f0,f1,f2,f3⟩:=HBd.out.four
      have HX:=zh (HBd.out.set4 (.int .i64 0) (.string ⟨#[]⟩) (.slice none 0 0) (.slice none 0 0))
      have Hbl:=zh (below_set4 Hbd.out (zG _) (.int .i64 0) (.string ⟨#[]⟩) (.slice none 0 0) (.slice none 0 0))
      go_wp2_with fail
      exact bodyPost_ret (cs_results rfl rfl rfl HX.out) rfl ⟨171,none,_,_,_,_,HP.out,rfl,noQ_at _ _,Hbl.out⟩
     ·have hdp':(depthN q:Int)≤16:=by omega
      have HP:=zh (PrsR.ok Hs1.out Hpp.out HRo2.out Hmq.out (by omega))
      have HFe:=zh (q_ret (w:=w) HFd.out (show w.heap.size<w1.heap.size by omega) (zG _))
      clear hdp
      generalize depthN q=dq at *
      obtain ⟨q0,q1,q2,q3,f0,f1,f2,f3⟩:=HBd.out.four
      have HX:=zh (HBd.out.set4 (.int .i64 k') (.string nm') (.slice A' n' c') (.slice C' m' d'))
      have Hbl:=zh (below_set4 Hbd.out (zG _) (.int .i64 k') (.string nm') (.slice A' n' c') (.slice C' m' d'))
      go_wp2_with fail
      exact bodyPost_ret (cs_results rfl rfl rfl HX.out) rfl ⟨0,some q,_,_,_,_,HP.out,rfl,HFe.out,Hbl.out⟩
end Go.Proofs.YtmomjpolkkbhnaaGreat.Qp


